/-
  OC: several texts in one: MoCommon, MoBox, Cell, MoClip, AppN, Skip, MoTree, MoRTree, MoRCubes, Shift, MoDiv. No statement is proved here.
-/
import Derived.Test.YtkfijpghjjnpkaaOB
import Derived.Test.YtkfijpghjjnpkaaOA
set_option linter.unusedVariables false
set_option linter.unusedSimpArgs false
/-
  Common of the Morton layer and of its reference. No statement is proved here.
-/
namespace Go.Proofs.Ytkfijpghjjnpkaa
open Go.RowKit
set_option linter.unusedVariables false
set_option linter.unusedSimpArgs false

structure Cube where
  at_ : Pt
  lvl : Int
deriving DecidableEq
def ccs (c : Cube) : List Value := pcs c.at_ ++ [.int .i64 c.lvl]
theorem ccs_one (c : Cube) : ∀ u ∈ ccs c, u.oneCell' = true := by
  intro u hu
  unfold ccs pcs at hu
  simp only [List.mem_cons, List.not_mem_nil, or_false, List.cons_append, List.nil_append] at hu
  rcases hu with rfl | rfl | rfl | rfl <;> rfl
def c0 : Cube := ⟨p0, 0⟩
theorem Try.ag_cu : AgTy Try.prog 27 (ccs c0).toArray 4 := ⟨by kernel_rfl, by kernel_rfl, by kernel_rfl⟩
/-- The corner of the cube of a level that contains a point. -/
def Pt.corner (p : Pt) (l : Nat) : Pt := ⟨((p.nat 0 / 2 ^ l * 2 ^ l : Nat) : Int), ((p.nat 1 / 2 ^ l * 2 ^ l : Nat) : Int), ((p.nat 2 / 2 ^ l * 2 ^ l : Nat) : Int)⟩
def lvTo (p q : Pt) : Nat → Nat
  | 0 => 0
  | k + 1 => max (lvTo p q k) (bl (p.nat k) (q.nat k))
def mCommon (p q : Pt) : Cube × Bool := if p.In ∧ q.In then (⟨p.corner (lvTo p q 3), (lvTo p q 3 : Int)⟩, true) else (c0, false)
theorem lvTo_le {p q : Pt} (hp : p.In) (hq : q.In) : ∀ k, lvTo p q k ≤ 14
  | 0 => Nat.zero_le _
  | k + 1 => by
    have h1 := lvTo_le hp hq k
    have h2 := bl_le _ _ (hp.nat k).2 (hq.nat k).2
    show max _ _ ≤ 14
    omega
/-- The first k coordinates are cut. -/
def corT (p : Pt) (l k : Nat) : Pt := ⟨if 0 < k then ((p.nat 0 / 2 ^ l * 2 ^ l : Nat) : Int) else p.x, if 1 < k then ((p.nat 1 / 2 ^ l * 2 ^ l : Nat) : Int) else p.y, if 2 < k then ((p.nat 2 / 2 ^ l * 2 ^ l : Nat) : Int) else p.z⟩
theorem corT_at (p : Pt) (l k : Nat) (h : k < 3) : (corT p l k).at k = p.at k := by
  rcases (by omega : k = 0 ∨ k = 1 ∨ k = 2) with rfl | rfl | rfl <;> simp [corT, Pt.at]
theorem corT_set (p : Pt) (l k : Nat) (h : k < 3) : (pcs (corT p l k)).set k (.int .i64 ((p.nat k / 2 ^ l * 2 ^ l : Nat) : Int)) = pcs (corT p l (k + 1)) := by
  rcases (by omega : k = 0 ∨ k = 1 ∨ k = 2) with rfl | rfl | rfl <;> simp [corT, pcs]
theorem corT_start (p : Pt) (l : Nat) : corT p l 0 = p := by simp [corT]
theorem corT_end (p : Pt) (l : Nat) : corT p l 3 = p.corner l := by simp [corT, Pt.corner]
/-- Corners are the same from the level on below which the points differ. -/
theorem corner_eq {p q : Pt} (hp : p.In) (hq : q.In) (l : Nat) (hl : l ≤ 14) : p.corner l = q.corner l ↔ lvTo p q 3 ≤ l := by
  have h2p : 0 < 2 ^ l := Nat.two_pow_pos l
  have key : ∀ k, p.nat k / 2 ^ l * 2 ^ l = q.nat k / 2 ^ l * 2 ^ l ↔ bl (p.nat k) (q.nat k) ≤ l := fun k => by
    rw [bl_iff (hp.nat k).2 (hq.nat k).2 (by omega)]
    constructor
    · intro h; exact Nat.eq_of_mul_eq_mul_right h2p h
    · intro h; rw [h]
  unfold Pt.corner
  rw [Pt.mk.injEq, Int.natCast_inj, Int.natCast_inj, Int.natCast_inj, key 0, key 1, key 2]
  have e : lvTo p q 3 = max (max (max 0 (bl (p.nat 0) (q.nat 0))) (bl (p.nat 1) (q.nat 1))) (bl (p.nat 2) (q.nat 2)) := rfl
  rw [e]
  omega
theorem corner_top {p : Pt} (hp : p.In) : p.corner 14 = p0 := by
  unfold Pt.corner
  rw [Nat.div_eq_of_lt (hp.nat 0).2, Nat.div_eq_of_lt (hp.nat 1).2, Nat.div_eq_of_lt (hp.nat 2).2]
  rfl
theorem cut_wrap (c l : Nat) (h : c < 16384) (hl : l ≤ 14) : wrap64 ((c : Int) / 2 ^ l * 2 ^ l) = ((c / 2 ^ l * 2 ^ l : Nat) : Int) := by
  have h1 : (c : Int) / 2 ^ l * 2 ^ l = ((c / 2 ^ l * 2 ^ l : Nat) : Int) := by simp
  rw [h1]
  have h2 : c / 2 ^ l * 2 ^ l ≤ c := Nat.div_mul_le_self c _
  unfold wrap64
  omega

set_option maxRecDepth 100000 in
set_option maxHeartbeats 4000000 in
theorem refCorner_any (p : Pt) (l : Nat) (hp : p.In) (hl : l ≤ 14) (w : World) : Calls Try.prog 39 #[.agg (pcs p).toArray, .int .i64 (l : Int)] w (RetP w (p.corner l)) := by
  have hN0 := hp.nat 0
  have hN1 := hp.nat 1
  have hN2 := hp.nat 2
  obtain ⟨s, hs⟩ : ∃ s, s = 2 ^ l := ⟨_, rfl⟩
  have hsl : s ≤ 16384 := by rw [hs]; exact Nat.pow_le_pow_right (by decide) hl
  have hs1 : 1 ≤ s := by rw [hs]; exact Nat.one_le_two_pow
  have HC : Hid (p.corner l = ⟨((p.nat 0 / s * s : Nat) : Int), ((p.nat 1 / s * s : Nat) : Int), ((p.nat 2 / s * s : Nat) : Int)⟩) := Lib.hid (by rw [hs]; rfl)
  have hp2 : p = ⟨(p.nat 0 : Int), (p.nat 1 : Int), (p.nat 2 : Int)⟩ := by
    obtain ⟨x, y, z⟩ := p
    exact Pt.mk.injEq .. ▸ ⟨hN0.1, hN1.1, hN2.1⟩
  have hX := hN0.2
  have hY := hN1.2
  have hZ := hN2.2
  generalize p.nat 0 = X at *
  generalize p.nat 1 = Y at *
  generalize p.nat 2 = Z at *
  have HPC : Hid (pcs p = pcs ⟨(X : Int), (Y : Int), (Z : Int)⟩) := Lib.hid (by rw [hp2])
  rw [HPC.out]
  generalize p.corner l = R at *
  have HS := Lib.hid (show wrap64 (2 ^ l) = (s : Int) by
    rw [show ((2 : Int) ^ l) = ((2 ^ l : Nat) : Int) by simp, ← hs]
    unfold wrap64
    omega)
  clear hN0 hN1 hN2 hp2 hp hs HPC
  go_enter Try.func39, Try.ntmps39
  go_wp2_with (with_reducible refine bxArr (cs := pcs ⟨(X : Int), (Y : Int), (Z : Int)⟩) (.tmp 0) (wn rfl) rfl rfl ?_)
  intro w1 h2 b1
  go_wp2_with (with_reducible refine alArr (z := pcs p0) Try.ag_pt (wn rfl) rfl ?_)
  intro w2 h4 b2
  have l2 := h2.lt
  have ls := b1.size
  replace h2 := h2.below b2 l2
  have hb := b1.trans (b2.mono ls)
  clear b1 b2
  generalize w1.heap.size = g4 at *
  go_wp2_with fail
  rw [HS.out]
  refine lgStart (fun w' => Arr w' w.heap.size 23 (pcs ⟨(X : Int), (Y : Int), (Z : Int)⟩)) 19 (by kernel_rfl) ?_
  have hq : (fun w' : World => Arr w' w.heap.size 23 (pcs ⟨(X : Int), (Y : Int), (Z : Int)⟩)) w2.drew := h2.drew
  refine lgTake [0, 1, 2, 3, 4, 5, 6, 7, 8, 9, 10, 11, 12, 13, 14, 15, 16, 17, 18] (S := fun w' => Arr w' w.heap.size 23 (pcs ⟨(X : Int), (Y : Int), (Z : Int)⟩)) (i := 0) (v := .pointer (some ⟨w.heap.size, 0, none⟩)) rfl (by kernel_rfl) (by kernel_rfl) (fun _ _ _ h => h) (fun w _ => by kernel_rfl) hq ?_
  refine lgTake [0, 1, 2, 3, 4, 5, 6, 7, 8, 9, 10, 11, 12, 13, 14, 15, 16, 17, 18] (S := fun w' => Arr w' w.heap.size 23 (pcs ⟨(X : Int), (Y : Int), (Z : Int)⟩)) (i := 1) (v := .int .i64 (X : Int)) rfl (by kernel_rfl) (by kernel_rfl) (fun _ _ _ h => h) (fun w h => ldRun (.tmp 8) (by kernel_rfl) rfl (by kernel_rfl) (h.cell (i := 0) rfl)) hq ?_
  refine lgTake [0, 1, 2, 3, 4, 5, 6, 7, 8, 9, 10, 11, 12, 13, 14, 15, 16, 17, 18] (S := fun w' => Arr w' w.heap.size 23 (pcs ⟨(X : Int), (Y : Int), (Z : Int)⟩)) (i := 2) (v := .int .i64 (s : Int)) rfl (by kernel_rfl) (by kernel_rfl) (fun _ _ _ h => h) (fun w _ => by kernel_rfl) hq ?_
  refine lgTake [0, 1, 2, 3, 4, 5, 6, 7, 8, 9, 10, 11, 12, 13, 14, 15, 16, 17, 18] (S := fun w' => Arr w' w.heap.size 23 (pcs ⟨(X : Int), (Y : Int), (Z : Int)⟩)) (i := 3) (v := .int .i64 ((X / s : Nat) : Int)) rfl (by kernel_rfl) (by kernel_rfl) (fun _ _ _ h => h) (fun w _ => quoRun (m := X) (n := s) (.tmp 9) (.tmp 10) rfl (by kernel_rfl) (by kernel_rfl) hs1 (by omega)) hq ?_
  refine lgTake [0, 1, 2, 3, 4, 5, 6, 7, 8, 9, 10, 11, 12, 13, 14, 15, 16, 17, 18] (S := fun w' => Arr w' w.heap.size 23 (pcs ⟨(X : Int), (Y : Int), (Z : Int)⟩)) (i := 4) (v := .int .i64 (s : Int)) rfl (by kernel_rfl) (by kernel_rfl) (fun _ _ _ h => h) (fun w _ => by kernel_rfl) hq ?_
  refine lgTake [0, 1, 2, 3, 4, 5, 6, 7, 8, 9, 10, 11, 12, 13, 14, 15, 16, 17, 18] (S := fun w' => Arr w' w.heap.size 23 (pcs ⟨(X : Int), (Y : Int), (Z : Int)⟩)) (i := 5) (v := .int .i64 ((X / s * s : Nat) : Int)) rfl (by kernel_rfl) (by kernel_rfl) (fun _ _ _ h => h) (fun w _ => mulRun (A := ((X / s : Nat) : Int)) (B := (s : Int)) (.tmp 11) (.tmp 12) rfl (by kernel_rfl) (by kernel_rfl) (by simp) (by have := Nat.div_mul_le_self X s; omega)) hq ?_
  refine lgTake [0, 1, 2, 3, 4, 5, 6, 7, 8, 9, 10, 11, 12, 13, 14, 15, 16, 17, 18] (S := fun w' => Arr w' w.heap.size 23 (pcs ⟨(X : Int), (Y : Int), (Z : Int)⟩)) (i := 6) (v := .pointer (some ⟨w.heap.size, 1, none⟩)) rfl (by kernel_rfl) (by kernel_rfl) (fun _ _ _ h => h) (fun w _ => by kernel_rfl) hq ?_
  refine lgTake [0, 1, 2, 3, 4, 5, 6, 7, 8, 9, 10, 11, 12, 13, 14, 15, 16, 17, 18] (S := fun w' => Arr w' w.heap.size 23 (pcs ⟨(X : Int), (Y : Int), (Z : Int)⟩)) (i := 7) (v := .int .i64 (Y : Int)) rfl (by kernel_rfl) (by kernel_rfl) (fun _ _ _ h => h) (fun w h => ldRun (.tmp 14) (by kernel_rfl) rfl (by kernel_rfl) (h.cell (i := 1) rfl)) hq ?_
  refine lgTake [0, 1, 2, 3, 4, 5, 6, 7, 8, 9, 10, 11, 12, 13, 14, 15, 16, 17, 18] (S := fun w' => Arr w' w.heap.size 23 (pcs ⟨(X : Int), (Y : Int), (Z : Int)⟩)) (i := 8) (v := .int .i64 (s : Int)) rfl (by kernel_rfl) (by kernel_rfl) (fun _ _ _ h => h) (fun w _ => by kernel_rfl) hq ?_
  refine lgTake [0, 1, 2, 3, 4, 5, 6, 7, 8, 9, 10, 11, 12, 13, 14, 15, 16, 17, 18] (S := fun w' => Arr w' w.heap.size 23 (pcs ⟨(X : Int), (Y : Int), (Z : Int)⟩)) (i := 9) (v := .int .i64 ((Y / s : Nat) : Int)) rfl (by kernel_rfl) (by kernel_rfl) (fun _ _ _ h => h) (fun w _ => quoRun (m := Y) (n := s) (.tmp 15) (.tmp 16) rfl (by kernel_rfl) (by kernel_rfl) hs1 (by omega)) hq ?_
  refine lgTake [0, 1, 2, 3, 4, 5, 6, 7, 8, 9, 10, 11, 12, 13, 14, 15, 16, 17, 18] (S := fun w' => Arr w' w.heap.size 23 (pcs ⟨(X : Int), (Y : Int), (Z : Int)⟩)) (i := 10) (v := .int .i64 (s : Int)) rfl (by kernel_rfl) (by kernel_rfl) (fun _ _ _ h => h) (fun w _ => by kernel_rfl) hq ?_
  refine lgTake [0, 1, 2, 3, 4, 5, 6, 7, 8, 9, 10, 11, 12, 13, 14, 15, 16, 17, 18] (S := fun w' => Arr w' w.heap.size 23 (pcs ⟨(X : Int), (Y : Int), (Z : Int)⟩)) (i := 11) (v := .int .i64 ((Y / s * s : Nat) : Int)) rfl (by kernel_rfl) (by kernel_rfl) (fun _ _ _ h => h) (fun w _ => mulRun (A := ((Y / s : Nat) : Int)) (B := (s : Int)) (.tmp 17) (.tmp 18) rfl (by kernel_rfl) (by kernel_rfl) (by simp) (by have := Nat.div_mul_le_self Y s; omega)) hq ?_
  refine lgTake [0, 1, 2, 3, 4, 5, 6, 7, 8, 9, 10, 11, 12, 13, 14, 15, 16, 17, 18] (S := fun w' => Arr w' w.heap.size 23 (pcs ⟨(X : Int), (Y : Int), (Z : Int)⟩)) (i := 12) (v := .pointer (some ⟨w.heap.size, 2, none⟩)) rfl (by kernel_rfl) (by kernel_rfl) (fun _ _ _ h => h) (fun w _ => by kernel_rfl) hq ?_
  refine lgTake [0, 1, 2, 3, 4, 5, 6, 7, 8, 9, 10, 11, 12, 13, 14, 15, 16, 17, 18] (S := fun w' => Arr w' w.heap.size 23 (pcs ⟨(X : Int), (Y : Int), (Z : Int)⟩)) (i := 13) (v := .int .i64 (Z : Int)) rfl (by kernel_rfl) (by kernel_rfl) (fun _ _ _ h => h) (fun w h => ldRun (.tmp 20) (by kernel_rfl) rfl (by kernel_rfl) (h.cell (i := 2) rfl)) hq ?_
  refine lgTake [0, 1, 2, 3, 4, 5, 6, 7, 8, 9, 10, 11, 12, 13, 14, 15, 16, 17, 18] (S := fun w' => Arr w' w.heap.size 23 (pcs ⟨(X : Int), (Y : Int), (Z : Int)⟩)) (i := 14) (v := .int .i64 (s : Int)) rfl (by kernel_rfl) (by kernel_rfl) (fun _ _ _ h => h) (fun w _ => by kernel_rfl) hq ?_
  refine lgTake [0, 1, 2, 3, 4, 5, 6, 7, 8, 9, 10, 11, 12, 13, 14, 15, 16, 17, 18] (S := fun w' => Arr w' w.heap.size 23 (pcs ⟨(X : Int), (Y : Int), (Z : Int)⟩)) (i := 15) (v := .int .i64 ((Z / s : Nat) : Int)) rfl (by kernel_rfl) (by kernel_rfl) (fun _ _ _ h => h) (fun w _ => quoRun (m := Z) (n := s) (.tmp 21) (.tmp 22) rfl (by kernel_rfl) (by kernel_rfl) hs1 (by omega)) hq ?_
  refine lgTake [0, 1, 2, 3, 4, 5, 6, 7, 8, 9, 10, 11, 12, 13, 14, 15, 16, 17, 18] (S := fun w' => Arr w' w.heap.size 23 (pcs ⟨(X : Int), (Y : Int), (Z : Int)⟩)) (i := 16) (v := .int .i64 (s : Int)) rfl (by kernel_rfl) (by kernel_rfl) (fun _ _ _ h => h) (fun w _ => by kernel_rfl) hq ?_
  refine lgTake [0, 1, 2, 3, 4, 5, 6, 7, 8, 9, 10, 11, 12, 13, 14, 15, 16, 17, 18] (S := fun w' => Arr w' w.heap.size 23 (pcs ⟨(X : Int), (Y : Int), (Z : Int)⟩)) (i := 17) (v := .int .i64 ((Z / s * s : Nat) : Int)) rfl (by kernel_rfl) (by kernel_rfl) (fun _ _ _ h => h) (fun w _ => mulRun (A := ((Z / s : Nat) : Int)) (B := (s : Int)) (.tmp 23) (.tmp 24) rfl (by kernel_rfl) (by kernel_rfl) (by simp) (by have := Nat.div_mul_le_self Z s; omega)) hq ?_
  try simp only [Act.put, List.setIfInBounds_toArray, List.set_cons_succ, List.set_cons_zero]
  refine lgTake [0, 1, 2, 3, 4, 5, 6, 7, 8, 9, 10, 11, 12, 13, 14, 15, 16, 17, 18] (S := fun w' => Arr w' w.heap.size 23 (pcs ⟨(X : Int), (Y : Int), (Z : Int)⟩)) (i := 18) (v := .agg (pcs ⟨((X / s * s : Nat) : Int), ((Y / s * s : Nat) : Int), ((Z / s * s : Nat) : Int)⟩).toArray) rfl (by kernel_rfl) (by kernel_rfl) (fun _ _ _ h => h) (fun w _ => by kernel_rfl) hq ?_
  try simp only [Act.put, List.setIfInBounds_toArray, List.set_cons_succ, List.set_cons_zero]
  refine lgNext (S := fun w' => Arr w' w.heap.size 23 (pcs ⟨(X : Int), (Y : Int), (Z : Int)⟩)) (i := 19) (by kernel_rfl) rfl (by kernel_rfl) ?_
  refine stArrG (cs := pcs ⟨((X / s * s : Nat) : Int), ((Y / s * s : Nat) : Int), ((Z / s * s : Nat) : Int)⟩) (.tmp 4) (.tmp 26) Try.ag_pt (by kernel_rfl) rfl (by kernel_rfl) (by kernel_rfl) h4.drew rfl rfl (pcs_one _) ?_
  intro w5 h5 hg5
  refine lgDone (by kernel_rfl) ?_
  try simp only [Act.put, List.setIfInBounds_toArray, List.set_cons_succ, List.set_cons_zero]
  replace hb := hb.drew.grown hg5 hb.drew.size (fun k e => by cases e; exact ls)
  go_wp2_with fail
  refine bodyPost_ret (v := .agg (pcs ⟨((X / s * s : Nat) : Int), ((Y / s * s : Nat) : Int), ((Z / s * s : Nat) : Int)⟩).toArray) ?_ rfl ⟨by rw [HC.out], hb⟩
  exact res_cell1 _ Try.results39 Try.ag_pt _ rfl rfl (fun j u hu => by rw [Nat.zero_add]; exact h5.cell hu)
def RetCB (w : World) (r : Cube × Bool) (e : Ending) (w' : World) : Prop := e = .returned (.tuple #[.agg (ccs r.1).toArray, .bool r.2]) ∧ Below w.heap.size w w'
set_option maxRecDepth 100000 in
set_option maxHeartbeats 4000000 in
theorem common_any (p q : Pt) (w : World) : Calls Try.prog 11 #[.agg (pcs p).toArray, .agg (pcs q).toArray] w (RetCB w (mCommon p q)) := by
  have HIP := Lib.hid (inside_any p)
  have HIQ := Lib.hid (inside_any q)
  by_cases hp : p.In
  · rw [decide_eq_true hp] at HIP
    by_cases hq : q.In
    · rw [decide_eq_true hq] at HIQ
      have HR := Lib.hid (show mCommon p q = (⟨p.corner (lvTo p q 3), (lvTo p q 3 : Int)⟩, true) by unfold mCommon; rw [if_pos ⟨hp, hq⟩])
      have HP := Lib.hid hp
      have HQ := Lib.hid hq
      have HLE := Lib.hid (lvTo_le hp hq)
      clear hp hq
      go_enter Try.func11, Try.ntmps11
      go_wp2_with (with_reducible refine bxArr (cs := pcs p) (.tmp 0) (wn rfl) rfl rfl ?_)
      intro w1 h2 b1
      go_wp2_with (with_reducible refine bxArr (cs := pcs q) (.tmp 1) (wn rfl) rfl rfl ?_)
      intro w2 h3 b2
      go_wp2_with (with_reducible refine alArr (z := ccs c0) Try.ag_cu (wn rfl) rfl ?_)
      intro w3 h4 b3
      have l2 := h2.lt
      have l3 := h3.lt
      replace h2 := (h2.below b2 l2).below b3 (Nat.lt_of_lt_of_le l2 b2.size)
      replace h3 := h3.below b3 l3
      have s1 := b1.size
      have s2 := b2.size
      have ls : w.heap.size ≤ w2.heap.size := Nat.le_trans s1 s2
      have hb := (b1.trans (b2.mono s1)).trans (b3.mono ls)
      clear b1 b2 b3 s1 s2
      generalize w1.heap.size = g3 at *
      generalize w2.heap.size = g4 at *
      go_wp2_with (with_reducible refine ldArr (.tmp 2) Try.ag_pt (wn rfl) rfl rfl rfl h2 ?_)
      refine (HIP.out _).mono ?_
      rintro e w4 ⟨rfl, b4⟩
      replace h2 := h2.below b4 h2.lt
      replace h3 := h3.below b4 h3.lt
      replace h4 := h4.below b4 h4.lt
      replace hb := hb.trans (b4.mono hb.size)
      clear b4
      go_wp2_with (with_reducible refine ldArr (.tmp 3) Try.ag_pt (by kernel_rfl) rfl rfl rfl h3 ?_)
      refine (HIQ.out _).mono ?_
      rintro e w5 ⟨rfl, b5⟩
      replace h2 := h2.below b5 h2.lt
      replace h3 := h3.below b5 h3.lt
      replace h4 := h4.below b5 h4.lt
      replace hb := hb.trans (b5.mono hb.size)
      clear b5
      go_wp2_with fail
      obtain ⟨N, hNe⟩ : ∃ N, N = w5.drew.heap.size := ⟨_, rfl⟩
      have hn4 : g4 < N := by rw [hNe]; exact h4.lt
      have hnw : w.heap.size ≤ N := by rw [hNe]; exact hb.size
      replace h4 := h4.drew
      refine aStart (by kernel_rfl) ?_
      replace h2 := h2.drew
      replace h3 := h3.drew
      replace hb := hb.drew
      have hn0 : N ≤ w5.drew.heap.size := (by rw [hNe]; exact Nat.le_refl _)
      generalize w5.drew = wd at *
      refine rgFloatD [(0, 20), (1, 21), (2, 22), (3, 23), (4, 6), (5, 7)] (GTwo p q N) DTwo _ 2 rfl dTwo_sym (by kernel_rfl) ?mono ?step ?fin
      case mono =>
        intro r hr v w w' h hE
        simp only [List.mem_cons, List.not_mem_nil, or_false] at hr
        rcases hr with rfl | rfl | rfl | rfl | rfl | rfl
        · exact h
        · exact h
        · exact h
        · exact h
        · obtain ⟨g, e1, e2, e3⟩ := h
          exact ⟨g, e1, e2, e3.below hE e3.lt⟩
        · obtain ⟨g, e1, e2, e3⟩ := h
          exact ⟨g, e1, e2, e3.below hE e3.lt⟩
      case step =>
        intro r hr
        simp only [List.mem_cons, List.not_mem_nil, or_false] at hr
        rcases hr with rfl | rfl | rfl | rfl | rfl | rfl
        · refine ⟨_, rfl, rfl, fun a w' hF hE hG => ?_⟩
          refine ldArr (b := w.heap.size) (.tmp 2) Try.ag_pt (wn rfl) rfl ((hF.eval 2 (by kernel_rfl)).trans (by kernel_rfl)) rfl (h2.below hE h2.lt) ?_
          exact ⟨_, rfl, Below.refl _ _, rfl, fun _ _ _ _ _ hc => by rcases hc with ⟨h1, _⟩ | ⟨h1, _⟩ <;> cases h1⟩
        · refine ⟨_, rfl, rfl, fun a w' hF hE hG => ?_⟩
          have hx : a.tmps.getD 20 undef = .agg (pcs p).toArray := hG (0, 20) (by simp) (by kernel_rfl)
          refine callOp 37 [.agg (pcs p).toArray] [] [] (by kernel_rfl) (wn rfl) rfl rfl (by show [a.tmps.getD 20 undef] = _; rw [hx]) ?_
          refine (array_any p w').mono ?_
          rintro e w2 ⟨rfl, hb2⟩
          exact ⟨_, rfl, ⟨_, rfl, hb2, rfl, fun _ _ _ _ _ hc => by rcases hc with ⟨h1, _⟩ | ⟨h1, _⟩ <;> cases h1⟩⟩
        · refine ⟨_, rfl, rfl, fun a w' hF hE hG => ?_⟩
          refine ldArr (b := g3) (.tmp 3) Try.ag_pt (wn rfl) rfl ((hF.eval 3 (by kernel_rfl)).trans (by kernel_rfl)) rfl (h3.below hE h3.lt) ?_
          exact ⟨_, rfl, Below.refl _ _, rfl, fun _ _ _ _ _ hc => by rcases hc with ⟨h1, _⟩ | ⟨h1, _⟩ <;> cases h1⟩
        · refine ⟨_, rfl, rfl, fun a w' hF hE hG => ?_⟩
          have hx : a.tmps.getD 22 undef = .agg (pcs q).toArray := hG (2, 22) (by simp) (by kernel_rfl)
          refine callOp 37 [.agg (pcs q).toArray] [] [] (by kernel_rfl) (wn rfl) rfl rfl (by show [a.tmps.getD 22 undef] = _; rw [hx]) ?_
          refine (array_any q w').mono ?_
          rintro e w2 ⟨rfl, hb2⟩
          exact ⟨_, rfl, ⟨_, rfl, hb2, rfl, fun _ _ _ _ _ hc => by rcases hc with ⟨h1, _⟩ | ⟨h1, _⟩ <;> cases h1⟩⟩
        · refine ⟨_, rfl, rfl, fun a w' hF hE hG => ?_⟩
          refine alArr (z := pcs p0) Try.ag_i3 (wn rfl) rfl ?_
          intro w5 h5 hb5
          refine ⟨_, rfl, hb5, ⟨_, rfl, Nat.le_trans hn0 hE.size, h5⟩, fun r hr _ u hu hc => ?_⟩
          have hr5 : r.1 = 5 := by rcases hc with ⟨h1, h2⟩ | ⟨h1, h2⟩ <;> first | exact h2 | cases h1
          rw [hr5] at hu
          obtain ⟨g', rfl, _, hA'⟩ := hu
          have hl' := hA'.lt
          intro e
          injection e with e
          injection e with e
          injection e with e
          omega
        · refine ⟨_, rfl, rfl, fun a w' hF hE hG => ?_⟩
          refine alArr (z := pcs p0) Try.ag_i3 (wn rfl) rfl ?_
          intro w5 h5 hb5
          refine ⟨_, rfl, hb5, ⟨_, rfl, Nat.le_trans hn0 hE.size, h5⟩, fun r hr _ u hu hc => ?_⟩
          have hr5 : r.1 = 4 := by rcases hc with ⟨h1, h2⟩ | ⟨h1, h2⟩ <;> first | exact h2 | cases h1
          rw [hr5] at hu
          obtain ⟨g', rfl, _, hA'⟩ := hu
          have hl' := hA'.lt
          intro e
          injection e with e
          injection e with e
          injection e with e
          omega
      case fin =>
        intro a wf hF hE hG hDD
        have q0 : a.tmps.getD 20 undef = .agg (pcs p).toArray := hG (0, 20) (by simp)
        have q1 : a.tmps.getD 21 undef = .agg (pcs p).toArray := hG (1, 21) (by simp)
        have q2 : a.tmps.getD 22 undef = .agg (pcs q).toArray := hG (2, 22) (by simp)
        have q3 : a.tmps.getD 23 undef = .agg (pcs q).toArray := hG (3, 23) (by simp)
        obtain ⟨ga, q4, na, hA⟩ : ∃ g, a.tmps.getD 6 undef = .pointer (some ⟨g, 0, none⟩) ∧ N ≤ g ∧ Arr wf g 57 (pcs p0) := hG (4, 6) (by simp)
        obtain ⟨gb, q5, nb, hB⟩ : ∃ g, a.tmps.getD 7 undef = .pointer (some ⟨g, 0, none⟩) ∧ N ≤ g ∧ Arr wf g 57 (pcs p0) := hG (5, 7) (by simp)
        have hab : ga ≠ gb := by
          have h1 : DTwo 4 5 (a.tmps.getD 6 undef) (a.tmps.getD 7 undef) := hDD (4, 6) (by simp) (5, 7) (by simp) (by decide)
          rw [q4, q5] at h1
          intro e
          exact h1 (Or.inl ⟨rfl, rfl⟩) (by rw [e])
        replace h2 := h2.below hE h2.lt
        replace h3 := h3.below hE h3.lt
        replace hb := hb.trans (hE.mono hb.size)
        replace h4 := h4.below hE h4.lt
        rw [hF.eq]
        simp only [putsX]
        rw [q0, q1, q2, q3, q4, q5]
        clear hG hF hE q0 q1 q2 q3 q4 q5 hDD hn0
        simp only [Act.put, List.setIfInBounds_toArray, List.set_cons_succ, List.set_cons_zero]
        refine aNext (i := 6) (by kernel_rfl) rfl ?_
        refine stArrG (cs := pcs p) (.tmp 6) (.tmp 21) Try.ag_i3 (by kernel_rfl) rfl (by kernel_rfl) (by kernel_rfl) hA rfl rfl (pcs_one _) ?_
        intro w7 hA7 hg7
        replace hB := hB.grown hg7 (fun e => hab (by injection e with e; exact e.symm))
        replace hb := hb.grown hg7 hb.size (fun k e => by cases e; exact (Nat.le_trans hnw na))
        replace h4 := h4.grown hg7 (fun e => by injection e with e; omega)
        refine aNext (i := 7) (by kernel_rfl) rfl ?_
        refine stArrG (cs := pcs q) (.tmp 7) (.tmp 23) Try.ag_i3 (by kernel_rfl) rfl (by kernel_rfl) (by kernel_rfl) hB rfl rfl (pcs_one _) ?_
        intro w8 hB hg8
        replace hA := hA7.grown hg8 (fun e => hab (by injection e))
        replace hb := hb.grown hg8 hb.size (fun k e => by cases e; exact (Nat.le_trans hnw nb))
        replace h4 := h4.grown hg8 (fun e => by injection e with e; omega)
        clear hg7 hg8 hA7
        refine aDone (by kernel_rfl) ?_
        simp only [Act.put, List.setIfInBounds_toArray, List.set_cons_succ, List.set_cons_zero]
        clear h2 h3 l2 l3
        go_wp2_with fail
        go_loopw [8, 24] (fun lv kk wr => ∃ k : Nat, k ≤ 3 ∧ kk = .int .i64 (k : Int) ∧ lv = .int .i64 (lvTo p q k : Int) ∧ Arr wr ga 57 (pcs p) ∧ Arr wr gb 57 (pcs q) ∧ Arr wr g4 27 (ccs c0) ∧ Below w.heap.size w wr) (fun _ kk _ => 3 - (intOf kk).toNat)
        case atStart => exact ⟨0, by omega, rfl, rfl, hA, hB, h4, hb⟩
        case round =>
          clear hA hB hb h4
          obtain ⟨k, hk, rfl, rfl, hA, hB, h4, hb⟩ := hrel
          by_cases h3 : k < 3
          · go_wp2_with fail
            have hpk := (HP.out.nat k).1
            have hqk := (HQ.out.nat k).1
            have hpk2 := (HP.out.nat k).2
            have hqk2 := (HQ.out.nat k).2
            have hx1 := at_xor HP.out HQ.out k
            refine rgStart (fun w' => Arr w' ga 57 (pcs p) ∧ Arr w' gb 57 (pcs q)) (by kernel_rfl) ?_
            have hq : (fun w' : World => Arr w' ga 57 (pcs p) ∧ Arr w' gb 57 (pcs q)) wr.drew := ⟨hA.drew, hB.drew⟩
            refine rgTake (S := fun w' => Arr w' ga 57 (pcs p) ∧ Arr w' gb 57 (pcs q)) (i := 0) (v := .int .i64 (lvTo p q k : Int)) rfl (by kernel_rfl) (by kernel_rfl) (fun _ _ _ h => h) (fun w _ => by kernel_rfl) hq ?_
            refine rgTake (S := fun w' => Arr w' ga 57 (pcs p) ∧ Arr w' gb 57 (pcs q)) (i := 1) (v := .int .i64 (k : Int)) rfl (by kernel_rfl) (by kernel_rfl) (fun _ _ _ h => h) (fun w _ => by kernel_rfl) hq ?_
            refine rgTake (S := fun w' => Arr w' ga 57 (pcs p) ∧ Arr w' gb 57 (pcs q)) (i := 2) (v := .pointer (some ⟨ga, 0 + k * 1, none⟩)) rfl (by kernel_rfl) (by kernel_rfl) (fun _ _ _ h => h) (fun w _ => iaRun (n := 3) (kk := .i64) (.tmp 6) (.tmp 28) k Try.und_i3 Try.one_int rfl (by kernel_rfl) (by kernel_rfl) rfl h3) hq ?_
            refine rgTake (S := fun w' => Arr w' ga 57 (pcs p) ∧ Arr w' gb 57 (pcs q)) (i := 3) (v := .int .i64 (p.at k)) rfl (by kernel_rfl) (by kernel_rfl) (fun _ _ _ h => h) (fun w h => ldRun (.tmp 29) (by kernel_rfl) rfl (by kernel_rfl) (show w.cell? ⟨ga, 0 + k * 1, none⟩ = _ by rw [Nat.zero_add, Nat.mul_one]; exact (h.1).cell (pcs_get p h3))) hq ?_
            refine rgTake (S := fun w' => Arr w' ga 57 (pcs p) ∧ Arr w' gb 57 (pcs q)) (i := 4) (v := .int .i64 (k : Int)) rfl (by kernel_rfl) (by kernel_rfl) (fun _ _ _ h => h) (fun w _ => by kernel_rfl) hq ?_
            refine rgTake (S := fun w' => Arr w' ga 57 (pcs p) ∧ Arr w' gb 57 (pcs q)) (i := 5) (v := .pointer (some ⟨gb, 0 + k * 1, none⟩)) rfl (by kernel_rfl) (by kernel_rfl) (fun _ _ _ h => h) (fun w _ => iaRun (n := 3) (kk := .i64) (.tmp 7) (.tmp 31) k Try.und_i3 Try.one_int rfl (by kernel_rfl) (by kernel_rfl) rfl h3) hq ?_
            refine rgTake (S := fun w' => Arr w' ga 57 (pcs p) ∧ Arr w' gb 57 (pcs q)) (i := 6) (v := .int .i64 (q.at k)) rfl (by kernel_rfl) (by kernel_rfl) (fun _ _ _ h => h) (fun w h => ldRun (.tmp 32) (by kernel_rfl) rfl (by kernel_rfl) (show w.cell? ⟨gb, 0 + k * 1, none⟩ = _ by rw [Nat.zero_add, Nat.mul_one]; exact (h.2).cell (pcs_get q h3))) hq ?_
            try simp only [Act.put, List.setIfInBounds_toArray, List.set_cons_succ, List.set_cons_zero]
            refine rgTake (S := fun w' => Arr w' ga 57 (pcs p) ∧ Arr w' gb 57 (pcs q)) (i := 7) (v := .int .i64 ((p.nat k ^^^ q.nat k : Nat) : Int)) rfl (by kernel_rfl) (by kernel_rfl) (fun _ _ _ h => h) (fun w _ => xorRun (m := p.nat k) (n := q.nat k) (.tmp 30) (.tmp 33) rfl (by rw [← hpk]; kernel_rfl) (by rw [← hqk]; kernel_rfl) (by omega) (by omega)) hq ?_
            refine rgTake (S := fun w' => Arr w' ga 57 (pcs p) ∧ Arr w' gb 57 (pcs q)) (i := 8) (v := .int .u64 ((p.nat k ^^^ q.nat k : Nat) : Int)) rfl (by kernel_rfl) (by kernel_rfl) (fun _ _ _ h => h) (fun w _ => convUintRun (.tmp 34) (by kernel_rfl) (by kernel_rfl) rfl (by kernel_rfl) (by omega) (by omega)) hq ?_
            try simp only [Act.put, List.setIfInBounds_toArray, List.set_cons_succ, List.set_cons_zero]
            refine rgNext (S := fun w' => Arr w' ga 57 (pcs p) ∧ Arr w' gb 57 (pcs q)) (i := 9) (by kernel_rfl) rfl ?_
            refine callOp 38 [.int .u64 ((p.nat k ^^^ q.nat k : Nat) : Int)] [] [] (by kernel_rfl) (by kernel_rfl) rfl rfl rfl ?_
            refine (bits_Len ((p.nat k ^^^ q.nat k : Nat) : Int) _ (by omega) (by omega)).mono ?_
            rintro e wz ⟨rfl, rfl⟩
            refine ⟨_, rfl, ?_⟩
            refine rgBack hq ?_
            refine rgTake (S := fun w' => Arr w' ga 57 (pcs p) ∧ Arr w' gb 57 (pcs q)) (i := 10) (v := .int .i64 (max (lvTo p q k : Int) (bl (p.nat k) (q.nat k) : Int))) rfl (by kernel_rfl) (by kernel_rfl) (fun _ _ _ h => h) (fun w _ => maxRun (A := (lvTo p q k : Int)) (B := (bl (p.nat k) (q.nat k) : Int)) (.tmp 27) (.tmp 36) rfl (by kernel_rfl) (by kernel_rfl)) hq ?_
            refine rgTake (S := fun w' => Arr w' ga 57 (pcs p) ∧ Arr w' gb 57 (pcs q)) (i := 11) (v := .int .i64 (max (lvTo p q k : Int) (bl (p.nat k) (q.nat k) : Int))) rfl (by kernel_rfl) (by kernel_rfl) (fun _ _ _ h => h) (fun w _ => by kernel_rfl) hq ?_
            refine rgDone (by kernel_rfl) ?_
            try simp only [Act.put, List.setIfInBounds_toArray, List.set_cons_succ, List.set_cons_zero]
            replace hA := hA.drew
            replace hB := hB.drew
            replace hb := hb.drew
            replace h4 := h4.drew
            have HLV := Lib.hid (show max (lvTo p q k : Int) (bl (p.nat k) (q.nat k) : Int) = (lvTo p q (k + 1) : Int) by
              show _ = ((max (lvTo p q k) (bl (p.nat k) (q.nat k)) : Nat) : Int)
              omega)
            clear hq hpk hqk hpk2 hqk2 hx1
            rw [HLV.out]
            go_wp2_with fail
            refine ⟨⟨k + 1, by omega, by simp, rfl, hA, hB, h4, hb⟩, ?_⟩
            simp [intOf]; omega
          · obtain rfl : k = 3 := by omega
            have hL := HLE.out 3
            rw [← corT_start p (lvTo p q 3)] at hA
            go_wp2_with fail
            generalize lvTo p q 3 = L at *
            go_loopw [39] (fun kk wr => ∃ k : Nat, k ≤ 3 ∧ kk = .int .i64 (k : Int) ∧ Arr wr ga 57 (pcs (corT p L k)) ∧ Arr wr g4 27 (ccs c0) ∧ Below w.heap.size w wr) (fun kk _ => 3 - (intOf kk).toNat)
            case atStart => exact ⟨0, by omega, rfl, hA, h4, hb⟩
            case round =>
              clear hA hB hb h4
              obtain ⟨k, hk, rfl, hA, h4, hb⟩ := hrel
              by_cases h3 : k < 3
              · have hg := pcs_get (corT p L k) h3
                rw [corT_at p L k h3, (HP.out.nat k).1] at hg
                have hset := corT_set p L k h3
                have HW := Lib.hid (cut_wrap (p.nat k) L (HP.out.nat k).2 hL)
                have hcl := (HP.out.nat k).2
                have hc := hA.cell hg
                have hf := hA.thaw k
                have hAs := hA.set k (.int .i64 ((p.nat k / 2 ^ L * 2 ^ L : Nat) : Int))
                rw [hset] at hAs
                have h4s := h4.other (show ga ≠ g4 by omega) k (.int .i64 ((p.nat k / 2 ^ L * 2 ^ L : Nat) : Int))
                have hbs := hb.setCell (p := ⟨ga, k, none⟩) (Nat.le_trans hnw na) (.int .i64 ((p.nat k / 2 ^ L * 2 ^ L : Nat) : Int))
                clear hg hset hA h4 hb
                generalize p.nat k = c at *
                go_wp2_with fail
                rw [HW.out]
                refine ⟨⟨k + 1, by omega, by simp, hAs, h4s, hbs⟩, ?_⟩
                simp [intOf]; omega
              · obtain rfl : k = 3 := by omega
                rw [corT_end] at hA
                go_wp2_with (with_reducible refine ldArr (.tmp 6) Try.ag_i3 (wn rfl) rfl rfl rfl hA ?_)
                refine (point_any _ _).mono ?_
                rintro e w8 ⟨rfl, b8⟩
                replace h4 := h4.below b8 h4.lt
                replace hb := hb.trans (b8.mono hb.size)
                clear b8
                generalize p.corner L = C at *
                obtain ⟨cx, cy, cz⟩ := C
                simp only [show pcs ⟨cx, cy, cz⟩ = [.int .i64 cx, .int .i64 cy, .int .i64 cz] from rfl]
                go_wp2_with (with_reducible refine stArrG (cs := ccs ⟨⟨cx, cy, cz⟩, (L : Int)⟩) (.tmp 4) (.tmp 55) Try.ag_cu (wn rfl) rfl rfl (by kernel_rfl) h4 rfl rfl (ccs_one _) ?_)
                intro w9 h9 hg9
                replace hb := hb.grown hg9 hb.size (fun k e => by cases e; exact ls)
                go_wp2_with fail
                exact bodyPost_ret (res_cellslot (v := .bool true) (ccs ⟨⟨cx, cy, cz⟩, (L : Int)⟩) Try.results11 Try.ag_cu _ rfl rfl rfl h9) rfl ⟨by rw [HR.out], hb⟩
    · rw [decide_eq_false hq] at HIQ
      have HR := Lib.hid (show mCommon p q = (c0, false) by unfold mCommon; rw [if_neg (fun h => hq h.2)])
      go_enter Try.func11, Try.ntmps11
      go_wp2_with (with_reducible refine bxArr (cs := pcs p) (.tmp 0) (wn rfl) rfl rfl ?_)
      intro w1 h2 b1
      go_wp2_with (with_reducible refine bxArr (cs := pcs q) (.tmp 1) (wn rfl) rfl rfl ?_)
      intro w2 h3 b2
      go_wp2_with (with_reducible refine alArr (z := ccs c0) Try.ag_cu (wn rfl) rfl ?_)
      intro w3 h4 b3
      have l2 := h2.lt
      have l3 := h3.lt
      replace h2 := (h2.below b2 l2).below b3 (Nat.lt_of_lt_of_le l2 b2.size)
      replace h3 := h3.below b3 l3
      have s1 := b1.size
      have s2 := b2.size
      have ls : w.heap.size ≤ w2.heap.size := Nat.le_trans s1 s2
      have hb := (b1.trans (b2.mono s1)).trans (b3.mono ls)
      clear b1 b2 b3 s1 s2
      generalize w1.heap.size = g3 at *
      generalize w2.heap.size = g4 at *
      go_wp2_with (with_reducible refine ldArr (.tmp 2) Try.ag_pt (wn rfl) rfl rfl rfl h2 ?_)
      refine (HIP.out _).mono ?_
      rintro e w4 ⟨rfl, b4⟩
      replace h2 := h2.below b4 h2.lt
      replace h3 := h3.below b4 h3.lt
      replace h4 := h4.below b4 h4.lt
      replace hb := hb.trans (b4.mono hb.size)
      clear b4
      go_wp2_with (with_reducible refine ldArr (.tmp 3) Try.ag_pt (by kernel_rfl) rfl rfl rfl h3 ?_)
      refine (HIQ.out _).mono ?_
      rintro e w5 ⟨rfl, b5⟩
      replace h2 := h2.below b5 h2.lt
      replace h3 := h3.below b5 h3.lt
      replace h4 := h4.below b5 h4.lt
      replace hb := hb.trans (b5.mono hb.size)
      clear b5
      go_wp2_with (with_reducible refine stArrG (cs := ccs c0) (.tmp 4) (.tmp 19) Try.ag_cu (wn rfl) rfl rfl (by kernel_rfl) h4 rfl rfl (ccs_one _) ?_)
      intro w9 h9 hg9
      replace hb := hb.grown hg9 hb.size (fun k e => by cases e; exact ls)
      go_wp2_with fail
      exact bodyPost_ret (res_cellslot (v := .bool false) (ccs c0) Try.results11 Try.ag_cu _ rfl rfl rfl h9) rfl ⟨by rw [HR.out], hb⟩
  · rw [decide_eq_false hp] at HIP
    have HR := Lib.hid (show mCommon p q = (c0, false) by unfold mCommon; rw [if_neg (fun h => hp h.1)])
    go_enter Try.func11, Try.ntmps11
    go_wp2_with (with_reducible refine bxArr (cs := pcs p) (.tmp 0) (wn rfl) rfl rfl ?_)
    intro w1 h2 b1
    go_wp2_with (with_reducible refine bxArr (cs := pcs q) (.tmp 1) (wn rfl) rfl rfl ?_)
    intro w2 h3 b2
    go_wp2_with (with_reducible refine alArr (z := ccs c0) Try.ag_cu (wn rfl) rfl ?_)
    intro w3 h4 b3
    have l2 := h2.lt
    have l3 := h3.lt
    replace h2 := (h2.below b2 l2).below b3 (Nat.lt_of_lt_of_le l2 b2.size)
    replace h3 := h3.below b3 l3
    have s1 := b1.size
    have s2 := b2.size
    have ls : w.heap.size ≤ w2.heap.size := Nat.le_trans s1 s2
    have hb := (b1.trans (b2.mono s1)).trans (b3.mono ls)
    clear b1 b2 b3 s1 s2
    generalize w1.heap.size = g3 at *
    generalize w2.heap.size = g4 at *
    go_wp2_with (with_reducible refine ldArr (.tmp 2) Try.ag_pt (wn rfl) rfl rfl rfl h2 ?_)
    refine (HIP.out _).mono ?_
    rintro e w4 ⟨rfl, b4⟩
    replace h2 := h2.below b4 h2.lt
    replace h3 := h3.below b4 h3.lt
    replace h4 := h4.below b4 h4.lt
    replace hb := hb.trans (b4.mono hb.size)
    clear b4
    go_wp2_with (with_reducible refine stArrG (cs := ccs c0) (.tmp 4) (.tmp 19) Try.ag_cu (wn rfl) rfl rfl (by kernel_rfl) h4 rfl rfl (ccs_one _) ?_)
    intro w9 h9 hg9
    replace hb := hb.grown hg9 hb.size (fun k e => by cases e; exact ls)
    go_wp2_with fail
    exact bodyPost_ret (res_cellslot (v := .bool false) (ccs c0) Try.results11 Try.ag_cu _ rfl rfl rfl h9) rfl ⟨by rw [HR.out], hb⟩
set_option maxRecDepth 100000 in
set_option maxHeartbeats 4000000 in
theorem refCommon_any (p q : Pt) (w : World) : Calls Try.prog 12 #[.agg (pcs p).toArray, .agg (pcs q).toArray] w (RetCB w (mCommon p q)) := by
  have HIP := Lib.hid (refInside_any p)
  have HIQ := Lib.hid (refInside_any q)
  by_cases hp : p.In
  · rw [decide_eq_true hp] at HIP
    by_cases hq : q.In
    · rw [decide_eq_true hq] at HIQ
      have HR := Lib.hid (show mCommon p q = (⟨p.corner (lvTo p q 3), (lvTo p q 3 : Int)⟩, true) by unfold mCommon; rw [if_pos ⟨hp, hq⟩])
      have HP := Lib.hid hp
      have HQ := Lib.hid hq
      have HLE := Lib.hid (lvTo_le hp hq 3)
      have HCE := Lib.hid (corner_eq hp hq)
      have HCT := Lib.hid (corner_top hp)
      clear hp hq
      go_enter Try.func12, Try.ntmps12
      go_wp2_with (with_reducible refine bxArr (cs := pcs p) (.tmp 0) (wn rfl) rfl rfl ?_)
      intro w1 h2 b1
      go_wp2_with (with_reducible refine bxArr (cs := pcs q) (.tmp 1) (wn rfl) rfl rfl ?_)
      intro w2 h3 b2
      go_wp2_with (with_reducible refine alArr (z := ccs c0) Try.ag_cu (wn rfl) rfl ?_)
      intro w3 h4 b3
      have l2 := h2.lt
      have l3 := h3.lt
      replace h2 := (h2.below b2 l2).below b3 (Nat.lt_of_lt_of_le l2 b2.size)
      replace h3 := h3.below b3 l3
      have s1 := b1.size
      have s2 := b2.size
      have ls : w.heap.size ≤ w2.heap.size := Nat.le_trans s1 s2
      have hb := (b1.trans (b2.mono s1)).trans (b3.mono ls)
      clear b1 b2 b3 s1 s2
      generalize w1.heap.size = g3 at *
      generalize w2.heap.size = g4 at *
      go_wp2_with (with_reducible refine ldArr (.tmp 2) Try.ag_pt (wn rfl) rfl rfl rfl h2 ?_)
      refine (HIP.out _).mono ?_
      rintro e w4 ⟨rfl, b4⟩
      replace h2 := h2.below b4 h2.lt
      replace h3 := h3.below b4 h3.lt
      replace h4 := h4.below b4 h4.lt
      replace hb := hb.trans (b4.mono hb.size)
      clear b4
      go_wp2_with (with_reducible refine ldArr (.tmp 3) Try.ag_pt (wn rfl) rfl rfl rfl h3 ?_)
      refine (HIQ.out _).mono ?_
      rintro e w5 ⟨rfl, b5⟩
      replace h2 := h2.below b5 h2.lt
      replace h3 := h3.below b5 h3.lt
      replace h4 := h4.below b5 h4.lt
      replace hb := hb.trans (b5.mono hb.size)
      clear b5
      go_wp2_with fail
      go_loopw [8] (fun lv wr => ∃ l : Nat, l ≤ 14 ∧ lv = .int .i64 (l : Int) ∧ Hid (l ≤ lvTo p q 3) ∧ Arr wr w.heap.size 23 (pcs p) ∧ Arr wr g3 23 (pcs q) ∧ Arr wr g4 27 (ccs c0) ∧ Below w.heap.size w wr) (fun lv _ => 14 - (intOf lv).toNat)
      case atStart => exact ⟨0, by omega, rfl, Lib.hid (Nat.zero_le _), h2, h3, h4, hb⟩
      case round =>
        clear h2 h3 h4 hb
        obtain ⟨l, hl, rfl, HL, h2, h3, h4, hb⟩ := hrel
        by_cases h14 : l < 14
        · go_wp2_with fail
          replace hb := hb.drew
          refine rgStart (fun w' => Arr w' w.heap.size 23 (pcs p) ∧ Arr w' g3 23 (pcs q) ∧ Arr w' g4 27 (ccs c0)) (by kernel_rfl) ?_
          have hq : (fun w' : World => Arr w' w.heap.size 23 (pcs p) ∧ Arr w' g3 23 (pcs q) ∧ Arr w' g4 27 (ccs c0)) wr.drew := ⟨h2.drew, h3.drew, h4.drew⟩
          refine rgLoad (S := fun w' => Arr w' w.heap.size 23 (pcs p) ∧ Arr w' g3 23 (pcs q) ∧ Arr w' g4 27 (ccs c0)) (i := 0) (b := w.heap.size) (off := 0) (.tmp 2) (pcs p) Try.ag_pt rfl (by kernel_rfl) (by kernel_rfl) (fun _ _ _ h => h) rfl (by kernel_rfl) rfl (fun w h j u hu => by rw [Nat.zero_add]; exact (h.1).cell hu) hq ?_
          refine rgTake (S := fun w' => Arr w' w.heap.size 23 (pcs p) ∧ Arr w' g3 23 (pcs q) ∧ Arr w' g4 27 (ccs c0)) (i := 1) (v := .int .i64 (l : Int)) rfl (by kernel_rfl) (by kernel_rfl) (fun _ _ _ h => h) (fun w _ => by kernel_rfl) hq ?_
          refine rgLoad (S := fun w' => Arr w' w.heap.size 23 (pcs p) ∧ Arr w' g3 23 (pcs q) ∧ Arr w' g4 27 (ccs c0)) (i := 3) (b := g3) (off := 0) (.tmp 3) (pcs q) Try.ag_pt rfl (by kernel_rfl) (by kernel_rfl) (fun _ _ _ h => h) rfl (by kernel_rfl) rfl (fun w h j u hu => by rw [Nat.zero_add]; exact (h.2.1).cell hu) hq ?_
          refine rgTake (S := fun w' => Arr w' w.heap.size 23 (pcs p) ∧ Arr w' g3 23 (pcs q) ∧ Arr w' g4 27 (ccs c0)) (i := 4) (v := .int .i64 (l : Int)) rfl (by kernel_rfl) (by kernel_rfl) (fun _ _ _ h => h) (fun w _ => by kernel_rfl) hq ?_
          try simp only [Act.put, List.setIfInBounds_toArray, List.set_cons_succ, List.set_cons_zero]
          refine rgNext (S := fun w' => Arr w' w.heap.size 23 (pcs p) ∧ Arr w' g3 23 (pcs q) ∧ Arr w' g4 27 (ccs c0)) (i := 2) (by kernel_rfl) rfl ?_
          refine callOp 39 [.agg (pcs p).toArray, .int .i64 (l : Int)] [] [] (by kernel_rfl) (by kernel_rfl) rfl rfl rfl ?_
          refine (refCorner_any p l HP.out (by omega) _).mono ?_
          rintro e wz ⟨rfl, bz⟩
          replace hq := And.intro (hq.1.below bz hq.1.lt) (And.intro (hq.2.1.below bz hq.2.1.lt) (hq.2.2.below bz hq.2.2.lt))
          replace hb := hb.trans (bz.mono hb.size)
          clear bz
          refine ⟨_, rfl, ?_⟩
          refine rgBack hq ?_
          try simp only [Act.put, List.setIfInBounds_toArray, List.set_cons_succ, List.set_cons_zero]
          refine rgNext (S := fun w' => Arr w' w.heap.size 23 (pcs p) ∧ Arr w' g3 23 (pcs q) ∧ Arr w' g4 27 (ccs c0)) (i := 5) (by kernel_rfl) rfl ?_
          refine callOp 39 [.agg (pcs q).toArray, .int .i64 (l : Int)] [] [] (by kernel_rfl) (by kernel_rfl) rfl rfl rfl ?_
          refine (refCorner_any q l HQ.out (by omega) _).mono ?_
          rintro e wz ⟨rfl, bz⟩
          replace hq := And.intro (hq.1.below bz hq.1.lt) (And.intro (hq.2.1.below bz hq.2.1.lt) (hq.2.2.below bz hq.2.2.lt))
          replace hb := hb.trans (bz.mono hb.size)
          clear bz
          refine ⟨_, rfl, ?_⟩
          refine rgBack hq ?_
          try simp only [Act.put, List.setIfInBounds_toArray, List.set_cons_succ, List.set_cons_zero]
          refine rgTake (S := fun w' => Arr w' w.heap.size 23 (pcs p) ∧ Arr w' g3 23 (pcs q) ∧ Arr w' g4 27 (ccs c0)) (i := 6) (v := .bool (decide (p.corner l = q.corner l))) rfl (by kernel_rfl) (by kernel_rfl) (fun _ _ _ h => h) (fun w _ => eqPtRun (.tmp 26) (.tmp 29) (p.corner l) (q.corner l) rfl (by kernel_rfl) (by kernel_rfl)) hq ?_
          refine rgDone (by kernel_rfl) ?_
          try simp only [Act.put, List.setIfInBounds_toArray, List.set_cons_succ, List.set_cons_zero]
          obtain ⟨h2, h3, h4⟩ := hq
          by_cases hle : lvTo p q 3 ≤ l
          · have he := (HCE.out l (by omega)).2 hle
            have HLL : Hid (lvTo p q 3 = l) := Lib.hid (by have := HL.out; omega)
            have hdec : decide (p.corner l = q.corner l) = true := decide_eq_true he
            rw [hdec]
            clear he hdec hle HCE
            go_wp2_with (with_reducible refine ldArr (.tmp 2) Try.ag_pt (wn rfl) rfl rfl rfl h2 ?_)
            refine (refCorner_any p l HP.out (by omega) _).mono ?_
            rintro e w8 ⟨rfl, b8⟩
            replace h4 := h4.below b8 h4.lt
            replace hb := hb.trans (b8.mono hb.size)
            clear b8
            have HR2 : Hid (mCommon p q = (⟨p.corner l, (l : Int)⟩, true)) := Lib.hid (by rw [HR.out, HLL.out])
            generalize p.corner l = C at *
            obtain ⟨cx, cy, cz⟩ := C
            simp only [show pcs ⟨cx, cy, cz⟩ = [.int .i64 cx, .int .i64 cy, .int .i64 cz] from rfl]
            go_wp2_with (with_reducible refine stArrG (cs := ccs ⟨⟨cx, cy, cz⟩, (l : Int)⟩) (.tmp 4) (.tmp 35) Try.ag_cu (wn rfl) rfl rfl (by kernel_rfl) h4 rfl rfl (ccs_one _) ?_)
            intro w9 h9 hg9
            replace hb := hb.grown hg9 hb.size (fun k e => by cases e; exact ls)
            go_wp2_with fail
            exact bodyPost_ret (res_cellslot (v := .bool true) (ccs ⟨⟨cx, cy, cz⟩, (l : Int)⟩) Try.results12 Try.ag_cu _ rfl rfl rfl h9) rfl ⟨by rw [HR2.out], hb⟩
          · have hdec : decide (p.corner l = q.corner l) = false := decide_eq_false (fun h => hle ((HCE.out l (by omega)).1 h))
            rw [hdec]
            have HL2 : Hid (l + 1 ≤ lvTo p q 3) := Lib.hid (by omega)
            clear hdec hle HL
            go_wp2_with fail
            refine ⟨⟨l + 1, by omega, by simp, HL2, h2, h3, h4, hb⟩, ?_⟩
            simp [intOf]; omega
        · obtain rfl : l = 14 := by omega
          have HR2 : Hid (mCommon p q = (⟨p0, 14⟩, true)) := Lib.hid (by
            have h14 : lvTo p q 3 = 14 := by have h1 := HL.out; have h2 := HLE.out; omega
            rw [HR.out, h14, HCT.out]
            rfl)
          go_wp2_with (with_reducible refine stArrG (cs := ccs ⟨p0, 14⟩) (.tmp 4) (.tmp 36) Try.ag_cu (wn rfl) rfl rfl (by kernel_rfl) h4 rfl rfl (ccs_one _) ?_)
          intro w9 h9 hg9
          replace hb := hb.grown hg9 hb.size (fun k e => by cases e; exact ls)
          go_wp2_with fail
          exact bodyPost_ret (res_cellslot (v := .bool true) (ccs ⟨p0, 14⟩) Try.results12 Try.ag_cu _ rfl rfl rfl h9) rfl ⟨by rw [HR2.out], hb⟩
    · rw [decide_eq_false hq] at HIQ
      have HR := Lib.hid (show mCommon p q = (c0, false) by unfold mCommon; rw [if_neg (fun h => hq h.2)])
      go_enter Try.func12, Try.ntmps12
      go_wp2_with (with_reducible refine bxArr (cs := pcs p) (.tmp 0) (wn rfl) rfl rfl ?_)
      intro w1 h2 b1
      go_wp2_with (with_reducible refine bxArr (cs := pcs q) (.tmp 1) (wn rfl) rfl rfl ?_)
      intro w2 h3 b2
      go_wp2_with (with_reducible refine alArr (z := ccs c0) Try.ag_cu (wn rfl) rfl ?_)
      intro w3 h4 b3
      have l2 := h2.lt
      have l3 := h3.lt
      replace h2 := (h2.below b2 l2).below b3 (Nat.lt_of_lt_of_le l2 b2.size)
      replace h3 := h3.below b3 l3
      have s1 := b1.size
      have s2 := b2.size
      have ls : w.heap.size ≤ w2.heap.size := Nat.le_trans s1 s2
      have hb := (b1.trans (b2.mono s1)).trans (b3.mono ls)
      clear b1 b2 b3 s1 s2
      generalize w1.heap.size = g3 at *
      generalize w2.heap.size = g4 at *
      go_wp2_with (with_reducible refine ldArr (.tmp 2) Try.ag_pt (wn rfl) rfl rfl rfl h2 ?_)
      refine (HIP.out _).mono ?_
      rintro e w4 ⟨rfl, b4⟩
      replace h2 := h2.below b4 h2.lt
      replace h3 := h3.below b4 h3.lt
      replace h4 := h4.below b4 h4.lt
      replace hb := hb.trans (b4.mono hb.size)
      clear b4
      go_wp2_with (with_reducible refine ldArr (.tmp 3) Try.ag_pt (wn rfl) rfl rfl rfl h3 ?_)
      refine (HIQ.out _).mono ?_
      rintro e w5 ⟨rfl, b5⟩
      replace h2 := h2.below b5 h2.lt
      replace h3 := h3.below b5 h3.lt
      replace h4 := h4.below b5 h4.lt
      replace hb := hb.trans (b5.mono hb.size)
      clear b5
      go_wp2_with (with_reducible refine stArrG (cs := ccs c0) (.tmp 4) (.tmp 19) Try.ag_cu (wn rfl) rfl rfl (by kernel_rfl) h4 rfl rfl (ccs_one _) ?_)
      intro w9 h9 hg9
      replace hb := hb.grown hg9 hb.size (fun k e => by cases e; exact ls)
      go_wp2_with fail
      exact bodyPost_ret (res_cellslot (v := .bool false) (ccs c0) Try.results12 Try.ag_cu _ rfl rfl rfl h9) rfl ⟨by rw [HR.out], hb⟩
  · rw [decide_eq_false hp] at HIP
    have HR := Lib.hid (show mCommon p q = (c0, false) by unfold mCommon; rw [if_neg (fun h => hp h.1)])
    go_enter Try.func12, Try.ntmps12
    go_wp2_with (with_reducible refine bxArr (cs := pcs p) (.tmp 0) (wn rfl) rfl rfl ?_)
    intro w1 h2 b1
    go_wp2_with (with_reducible refine bxArr (cs := pcs q) (.tmp 1) (wn rfl) rfl rfl ?_)
    intro w2 h3 b2
    go_wp2_with (with_reducible refine alArr (z := ccs c0) Try.ag_cu (wn rfl) rfl ?_)
    intro w3 h4 b3
    have l2 := h2.lt
    have l3 := h3.lt
    replace h2 := (h2.below b2 l2).below b3 (Nat.lt_of_lt_of_le l2 b2.size)
    replace h3 := h3.below b3 l3
    have s1 := b1.size
    have s2 := b2.size
    have ls : w.heap.size ≤ w2.heap.size := Nat.le_trans s1 s2
    have hb := (b1.trans (b2.mono s1)).trans (b3.mono ls)
    clear b1 b2 b3 s1 s2
    generalize w1.heap.size = g3 at *
    generalize w2.heap.size = g4 at *
    go_wp2_with (with_reducible refine ldArr (.tmp 2) Try.ag_pt (wn rfl) rfl rfl rfl h2 ?_)
    refine (HIP.out _).mono ?_
    rintro e w4 ⟨rfl, b4⟩
    replace h2 := h2.below b4 h2.lt
    replace h3 := h3.below b4 h3.lt
    replace h4 := h4.below b4 h4.lt
    replace hb := hb.trans (b4.mono hb.size)
    clear b4
    go_wp2_with (with_reducible refine ldArr (.tmp 3) Try.ag_pt (wn rfl) rfl rfl rfl h3 ?_)
    refine (HIQ.out _).mono ?_
    rintro e w5 ⟨rfl, b5⟩
    replace h2 := h2.below b5 h2.lt
    replace h3 := h3.below b5 h3.lt
    replace h4 := h4.below b5 h4.lt
    replace hb := hb.trans (b5.mono hb.size)
    clear b5
    go_wp2_with (with_reducible refine stArrG (cs := ccs c0) (.tmp 4) (.tmp 19) Try.ag_cu (wn rfl) rfl rfl (by kernel_rfl) h4 rfl rfl (ccs_one _) ?_)
    intro w9 h9 hg9
    replace hb := hb.grown hg9 hb.size (fun k e => by cases e; exact ls)
    go_wp2_with fail
    exact bodyPost_ret (res_cellslot (v := .bool false) (ccs c0) Try.results12 Try.ag_cu _ rfl rfl rfl h9) rfl ⟨by rw [HR.out], hb⟩
end Go.Proofs.Ytkfijpghjjnpkaa
/-
  Boxes and cubes as plain values; Cell, far, apart and Child of the reference. No statement is proved here.
-/
namespace Go.Proofs.Ytkfijpghjjnpkaa
open Go.RowKit
set_option linter.unusedVariables false
set_option linter.unusedSimpArgs false

structure Bx where
  mn : Pt
  mx : Pt
deriving DecidableEq
def bxs (b : Bx) : List Value := pcs b.mn ++ pcs b.mx
/-- A cell of a box, but for the world. -/
def Bx.has (b : Bx) (p : Pt) : Prop := (b.mn.x ≤ p.x ∧ p.x < b.mx.x) ∧ (b.mn.y ≤ p.y ∧ p.y < b.mx.y) ∧ (b.mn.z ≤ p.z ∧ p.z < b.mx.z)
instance (b : Bx) (p : Pt) : Decidable (b.has p) := by unfold Bx.has; infer_instance
/-- The last cell of a cube. -/
def Pt.far (p : Pt) (l : Nat) : Pt := ⟨p.x + ((2 ^ l : Nat) - 1 : Int), p.y + ((2 ^ l : Nat) - 1 : Int), p.z + ((2 ^ l : Nat) - 1 : Int)⟩
/-- A cube from p to f has no cell of a box. -/
def Bx.apart (b : Bx) (p f : Pt) : Prop := (f.x < b.mn.x ∨ f.y < b.mn.y ∨ f.z < b.mn.z) ∨ (b.mx.x ≤ p.x ∨ b.mx.y ≤ p.y ∨ b.mx.z ≤ p.z)
instance (b : Bx) (p f : Pt) : Decidable (b.apart p f) := by unfold Bx.apart; infer_instance
/-- A child's corner. -/
def Pt.child (p : Pt) (l i : Nat) : Pt := ⟨p.x + (2 ^ l * (i % 2) : Nat), p.y + (2 ^ l * (i / 2 % 2) : Nat), p.z + (2 ^ l * (i / 4 % 2) : Nat)⟩
def RetC (w : World) (c : Cube) (e : Ending) (w' : World) : Prop := e = .returned (.agg (ccs c).toArray) ∧ Below w.heap.size w w'

theorem dec_of {P : Prop} [Decidable P] (c : Bool) (h : c = true ↔ P) : decide P = c := by
  by_cases hp : P
  · rw [decide_eq_true hp, h.2 hp]
  · rw [decide_eq_false hp]
    cases c with
    | true => exact absurd (h.1 rfl) hp
    | false => rfl
set_option maxRecDepth 100000 in
set_option maxHeartbeats 4000000 in
theorem refCell_any (b : Bx) (p : Pt) (w : World) : Calls Try.prog 33 #[.agg (bxs b).toArray, .agg (pcs p).toArray] w (RetB w (decide (p.In ∧ b.has p))) := by
  have HI := Lib.hid (refInside_any p)
  obtain ⟨D, hD⟩ : ∃ D, D = decide (p.In ∧ b.has p) := ⟨_, rfl⟩
  rw [← hD]
  have HD := Lib.hid (show ∀ c : Bool, (c = true ↔ (p.In ∧ b.has p)) → D = c from fun c h => by rw [hD]; exact dec_of c h)
  clear hD
  have HP : Hid (b.has p ↔ ((b.mn.x ≤ p.x ∧ p.x < b.mx.x) ∧ (b.mn.y ≤ p.y ∧ p.y < b.mx.y) ∧ (b.mn.z ≤ p.z ∧ p.z < b.mx.z))) := Lib.hid Iff.rfl
  by_cases hin : p.In
  · rw [decide_eq_true hin] at HI
    have HIN := Lib.hid hin
    clear hin
    go_enter Try.func33, Try.ntmps33
    go_wp2_with (with_reducible refine bxArr (cs := bxs b) (.tmp 0) (wn rfl) rfl rfl ?_)
    intro w1 h1 b1
    go_wp2_with (with_reducible refine bxArr (cs := pcs p) (.tmp 1) (wn rfl) rfl rfl ?_)
    intro w2 h2 b2
    replace h1 := h1.below b2 h1.lt
    replace b1 := b1.trans (b2.mono b1.size)
    clear b2
    go_wp2_with (with_reducible refine ldArr (.tmp 3) Try.ag_pt (wn rfl) rfl rfl rfl h2 ?_)
    refine (HI.out _).mono ?_
    rintro e w3 ⟨rfl, b3⟩
    replace h1 := h1.below b3 h1.lt
    replace h2 := h2.below b3 h2.lt
    replace b1 := b1.trans (b3.mono b1.size)
    clear b3
    have c0 := h2.cell (i := 0) (v := .int .i64 p.x) rfl
    have c1 := h2.cell (i := 1) (v := .int .i64 p.y) rfl
    have c2 := h2.cell (i := 2) (v := .int .i64 p.z) rfl
    have d0 := h1.cell (i := 0) (v := .int .i64 b.mn.x) rfl
    have d1 := h1.cell (i := 1) (v := .int .i64 b.mn.y) rfl
    have d2 := h1.cell (i := 2) (v := .int .i64 b.mn.z) rfl
    have d3 := h1.cell (i := 3) (v := .int .i64 b.mx.x) rfl
    have d4 := h1.cell (i := 4) (v := .int .i64 b.mx.y) rfl
    have d5 := h1.cell (i := 5) (v := .int .i64 b.mx.z) rfl
    generalize p.x = x at *
    generalize p.y = y at *
    generalize p.z = z at *
    generalize b.mn.x = x1 at *
    generalize b.mn.y = y1 at *
    generalize b.mn.z = z1 at *
    generalize b.mx.x = x2 at *
    generalize b.mx.y = y2 at *
    generalize b.mx.z = z2 at *
    go_wp2_with fail
    all_goals (go_ret; refine ⟨?_, b1⟩; rw [HD.out _ ?_]; rfl; rw [HP.out, and_iff_right HIN.out])
    all_goals (simp; omega)
  · rw [decide_eq_false hin] at HI
    have HF := Lib.hid (HD.out false ⟨fun h => (by cases h), fun h => absurd h.1 hin⟩)
    go_enter Try.func33, Try.ntmps33
    go_wp2_with (with_reducible refine bxArr (cs := bxs b) (.tmp 0) (wn rfl) rfl rfl ?_)
    intro w1 h1 b1
    go_wp2_with (with_reducible refine bxArr (cs := pcs p) (.tmp 1) (wn rfl) rfl rfl ?_)
    intro w2 h2 b2
    replace b1 := b1.trans (b2.mono b1.size)
    clear b2
    go_wp2_with (with_reducible refine ldArr (.tmp 3) Try.ag_pt (wn rfl) rfl rfl rfl h2 ?_)
    refine (HI.out _).mono ?_
    rintro e w3 ⟨rfl, b3⟩
    replace b1 := b1.trans (b3.mono b1.size)
    clear b3
    go_wp2_with fail
    go_ret
    exact ⟨by rw [HF.out]; rfl, b1⟩

set_option maxRecDepth 100000 in
set_option maxHeartbeats 4000000 in
theorem refFar_any (p : Pt) (l : Nat) (hp : p.In) (hl : l ≤ 14) (w : World) : Calls Try.prog 50 #[.agg (ccs ⟨p, (l : Int)⟩).toArray] w (RetP w (p.far l)) := by
  obtain ⟨s, hs⟩ : ∃ s, s = 2 ^ l := ⟨_, rfl⟩
  have hsl : s ≤ 16384 := by rw [hs]; exact Nat.pow_le_pow_right (by decide) hl
  have hs1 : 1 ≤ s := by rw [hs]; exact Nat.one_le_two_pow
  have HS := Lib.hid (show wrap64 (2 ^ l) = (s : Int) by
    rw [show ((2 : Int) ^ l) = ((2 ^ l : Nat) : Int) by simp, ← hs]
    unfold wrap64
    omega)
  have HF := Lib.hid (show p.far l = ⟨wrap64 (p.x + wrap64 (wrap64 (2 ^ l) - 1)), wrap64 (p.y + wrap64 (wrap64 (2 ^ l) - 1)), wrap64 (p.z + wrap64 (wrap64 (2 ^ l) - 1))⟩ by
    obtain ⟨⟨hx1, hx2⟩, ⟨hy1, hy2⟩, hz1, hz2⟩ := hp
    have e : wrap64 (wrap64 (2 ^ l) - 1) = (s : Int) - 1 := by rw [HS.out]; unfold wrap64; omega
    have k : ∀ a : Int, 0 ≤ a → a < 16384 → wrap64 (a + ((s : Int) - 1)) = a + ((s : Int) - 1) := fun a h1 h2 => by unfold wrap64; omega
    rw [e, k _ hx1 hx2, k _ hy1 hy2, k _ hz1 hz2, hs]
    rfl)
  clear hs hsl hs1 HS
  go_enter Try.func50, Try.ntmps50
  go_wp2_with (with_reducible refine bxArr (cs := ccs ⟨p, (l : Int)⟩) (.tmp 0) (wn rfl) rfl rfl ?_)
  intro w1 h1 b1
  go_wp2_with (with_reducible refine alArr (z := pcs p0) Try.ag_pt (wn rfl) rfl ?_)
  intro w2 h2 b2
  have l1 := h1.lt
  have ls := b1.size
  replace h1 := h1.below b2 l1
  have hb := b1.trans (b2.mono ls)
  clear b1 b2
  generalize w1.heap.size = g4 at *
  have c0 := h1.cell (i := 0) (v := .int .i64 p.x) rfl
  have c1 := h1.cell (i := 1) (v := .int .i64 p.y) rfl
  have c2 := h1.cell (i := 2) (v := .int .i64 p.z) rfl
  have c3 := h1.cell (i := 3) (v := .int .i64 (l : Int)) rfl
  generalize p.x = x at *
  generalize p.y = y at *
  generalize p.z = z at *
  generalize p.far l = R at *
  go_wp2_with (with_reducible refine stArrG (cs := pcs ⟨wrap64 (x + wrap64 (wrap64 (2 ^ l) - 1)), wrap64 (y + wrap64 (wrap64 (2 ^ l) - 1)), wrap64 (z + wrap64 (wrap64 (2 ^ l) - 1))⟩) (.tmp 2) (.tmp 23) Try.ag_pt (wn rfl) rfl rfl (by kernel_rfl) h2 rfl rfl (pcs_one _) ?_)
  intro w5 h5 hg5
  replace hb := hb.grown hg5 hb.size (fun k e => by cases e; exact ls)
  go_wp2_with fail
  refine bodyPost_ret (v := .agg (pcs R).toArray) ?_ rfl ⟨rfl, hb⟩
  rw [HF.out]
  exact res_cell1 _ Try.results50 Try.ag_pt _ rfl rfl (fun j u hu => by rw [Nat.zero_add]; exact h5.cell hu)

set_option maxRecDepth 100000 in
set_option maxHeartbeats 4000000 in
theorem refApart_any (b : Bx) (p : Pt) (l : Nat) (hp : p.In) (hl : l ≤ 14) (w : World) : Calls Try.prog 49 #[.agg (bxs b).toArray, .agg (ccs ⟨p, (l : Int)⟩).toArray] w (RetB w (decide (b.apart p (p.far l)))) := by
  have HI := Lib.hid (refFar_any p l hp hl)
  obtain ⟨D, hD⟩ : ∃ D, D = decide (b.apart p (p.far l)) := ⟨_, rfl⟩
  rw [← hD]
  have HD := Lib.hid (show ∀ c : Bool, (c = true ↔ (b.apart p (p.far l))) → D = c from fun c h => by rw [hD]; exact dec_of c h)
  clear hD
  generalize p.far l = f at *
  have HP : Hid (b.apart p f ↔ ((f.x < b.mn.x ∨ f.y < b.mn.y ∨ f.z < b.mn.z) ∨ (b.mx.x ≤ p.x ∨ b.mx.y ≤ p.y ∨ b.mx.z ≤ p.z))) := Lib.hid Iff.rfl
  clear hp
  go_enter Try.func49, Try.ntmps49
  go_wp2_with (with_reducible refine bxArr (cs := bxs b) (.tmp 0) (wn rfl) rfl rfl ?_)
  intro w1 h1 b1
  go_wp2_with (with_reducible refine bxArr (cs := ccs ⟨p, (l : Int)⟩) (.tmp 1) (wn rfl) rfl rfl ?_)
  intro w2 h2 b2
  replace h1 := h1.below b2 h1.lt
  have ls := b1.size
  have ls2 := Nat.le_trans b1.size b2.size
  replace b1 := b1.trans (b2.mono b1.size)
  clear b2
  generalize w1.heap.size = g3 at *
  go_wp2_with (with_reducible refine ldArr (.tmp 3) Try.ag_cu (wn rfl) rfl rfl rfl h2 ?_)
  refine (HI.out _).mono ?_
  rintro e w3 ⟨rfl, b3⟩
  replace h1 := h1.below b3 h1.lt
  replace h2 := h2.below b3 h2.lt
  replace ls2 := Nat.le_trans ls2 b3.size
  replace b1 := b1.trans (b3.mono b1.size)
  clear b3
  go_wp2_with (with_reducible refine alArr (z := pcs p0) Try.ag_pt (wn rfl) rfl ?_)
  intro w4 h4 b4
  have n1 := h1.lt
  have n2 := h2.lt
  replace h1 := h1.below b4 h1.lt
  replace h2 := h2.below b4 h2.lt
  replace b1 := b1.trans (b4.mono b1.size)
  clear b4
  generalize w3.heap.size = g5 at *
  go_wp2_with (with_reducible refine stArrG (cs := pcs f) (.tmp 5) (.tmp 7) Try.ag_pt (wn rfl) rfl rfl (by kernel_rfl) h4 rfl rfl (pcs_one _) ?_)
  intro w5 h5 hg5
  replace h1 := h1.grown hg5 (fun e => by injection e with e; omega)
  replace h2 := h2.grown hg5 (fun e => by injection e with e; omega)
  replace b1 := b1.grown hg5 b1.size (fun k e => by cases e; exact ls2)
  have c0 := h2.cell (i := 0) (v := .int .i64 p.x) rfl
  have c1 := h2.cell (i := 1) (v := .int .i64 p.y) rfl
  have c2 := h2.cell (i := 2) (v := .int .i64 p.z) rfl
  have e0 := h5.cell (i := 0) (v := .int .i64 f.x) rfl
  have e1 := h5.cell (i := 1) (v := .int .i64 f.y) rfl
  have e2 := h5.cell (i := 2) (v := .int .i64 f.z) rfl
  have d0 := h1.cell (i := 0) (v := .int .i64 b.mn.x) rfl
  have d1 := h1.cell (i := 1) (v := .int .i64 b.mn.y) rfl
  have d2 := h1.cell (i := 2) (v := .int .i64 b.mn.z) rfl
  have d3 := h1.cell (i := 3) (v := .int .i64 b.mx.x) rfl
  have d4 := h1.cell (i := 4) (v := .int .i64 b.mx.y) rfl
  have d5 := h1.cell (i := 5) (v := .int .i64 b.mx.z) rfl
  clear h1 h2 h4 h5 hg5 n1 n2 ls ls2 HI
  generalize p.x = x at *
  generalize p.y = y at *
  generalize p.z = z at *
  generalize f.x = fx at *
  generalize f.y = fy at *
  generalize f.z = fz at *
  generalize b.mn.x = x1 at *
  generalize b.mn.y = y1 at *
  generalize b.mn.z = z1 at *
  generalize b.mx.x = x2 at *
  generalize b.mx.y = y2 at *
  generalize b.mx.z = z2 at *
  go_wp2_with fail
  all_goals (go_ret; refine ⟨?_, b1⟩; rw [HD.out _ ?_]; rfl; rw [HP.out])
  all_goals (simp; omega)

set_option maxRecDepth 100000 in
set_option maxHeartbeats 4000000 in
theorem refChild_any (p : Pt) (l i : Nat) (hp : p.In) (hl : l ≤ 13) (hi : i < 8) (w : World) : Calls Try.prog 51 #[.agg (ccs ⟨p, ((l + 1 : Nat) : Int)⟩).toArray, .int .i64 (i : Int)] w (RetC w ⟨p.child l i, (l : Int)⟩) := by
  obtain ⟨s, hs⟩ : ∃ s, s = 2 ^ l := ⟨_, rfl⟩
  have hsl : s ≤ 8192 := by rw [hs]; exact Nat.pow_le_pow_right (n := 2) (by decide) hl
  obtain ⟨L, hL⟩ : ∃ L : Int, L = ((l + 1 : Nat) : Int) := ⟨_, rfl⟩
  rw [← hL]
  have HL := Lib.hid (show L - 1 = (l : Int) by omega)
  have HS := Lib.hid (show wrap64 (2 ^ (L.toNat - 1)) = (s : Int) by
    have e : L.toNat - 1 = l := by omega
    rw [e, show ((2 : Int) ^ l) = ((2 ^ l : Nat) : Int) by simp, ← hs]
    unfold wrap64
    omega)
  have hL0 : 1 ≤ L := by omega
  have hL2 : L ≤ 14 := by omega
  have HB0 := Lib.hid (fun w => bit_any (i : Int) 0 w (by omega) (by omega) (by omega))
  have HB1 := Lib.hid (fun w => bit_any (i : Int) 1 w (by omega) (by omega) (by omega))
  have HB2 := Lib.hid (fun w => bit_any (i : Int) 2 w (by omega) (by omega) (by omega))
  rw [Int.toNat_natCast] at HB0 HB1 HB2
  have HR : Hid (p.child l i = ⟨p.x + (s * (i % 2) : Nat), p.y + (s * (i / 2 % 2) : Nat), p.z + (s * (i / 4 % 2) : Nat)⟩) := Lib.hid (by rw [hs]; rfl)
  rw [show i / 2 ^ 0 % 2 = i % 2 by simp] at HB0
  rw [show i / 2 ^ 1 % 2 = i / 2 % 2 by simp] at HB1
  rw [show i / 2 ^ 2 % 2 = i / 4 % 2 by simp] at HB2
  have hbx : i % 2 < 2 := Nat.mod_lt _ (by decide)
  have hby : i / 2 % 2 < 2 := Nat.mod_lt _ (by decide)
  have hbz : i / 4 % 2 < 2 := Nat.mod_lt _ (by decide)
  generalize i % 2 = bx at *
  generalize i / 2 % 2 = by_ at *
  generalize i / 4 % 2 = bz at *
  have hk : ∀ b : Nat, b < 2 → s * b ≤ 8192 := fun b h => Nat.le_trans (Nat.mul_le_mul_left s (by omega : b ≤ 1)) (by omega)
  have hk0 := hk _ hbx
  have hk1 := hk _ hby
  have hk2 := hk _ hbz
  have hm0 : -9223372036854775808 ≤ ((s * bx : Nat) : Int) ∧ ((s * bx : Nat) : Int) ≤ 9223372036854775807 := by omega
  have hm1 : -9223372036854775808 ≤ ((s * by_ : Nat) : Int) ∧ ((s * by_ : Nat) : Int) ≤ 9223372036854775807 := by omega
  have hm2 : -9223372036854775808 ≤ ((s * bz : Nat) : Int) ∧ ((s * bz : Nat) : Int) ≤ 9223372036854775807 := by omega
  obtain ⟨⟨hx1, hx2⟩, ⟨hy1, hy2⟩, hz1, hz2⟩ := hp
  generalize p.child l i = R at *
  clear hk hs hL hsl
  go_enter Try.func51, Try.ntmps51
  go_wp2_with (with_reducible refine bxArr (cs := ccs ⟨p, L⟩) (.tmp 0) (wn rfl) rfl rfl ?_)
  intro w1 h1 b1
  go_wp2_with (with_reducible refine alArr (z := ccs c0) Try.ag_cu (wn rfl) rfl ?_)
  intro w2 h2 b2
  have l1 := h1.lt
  have ls := b1.size
  replace h1 := h1.below b2 l1
  have hb := b1.trans (b2.mono ls)
  clear b1 b2
  generalize w1.heap.size = g4 at *
  have c3 := h1.cell (i := 3) (v := .int .i64 L) rfl
  go_wp2_with fail
  rw [HS.out]
  clear c3
  refine lgStart (fun w' => Arr w' w.heap.size 27 (ccs ⟨p, L⟩)) 29 (by kernel_rfl) ?_
  have hq : (fun w' : World => Arr w' w.heap.size 27 (ccs ⟨p, L⟩)) w2.drew := h1.drew
  refine lgTake [0, 1, 2, 3, 4, 5, 6, 7, 8, 9, 10, 11, 12, 13, 14, 15, 16, 17, 18, 19, 20, 21, 22, 23, 24, 25, 26, 27, 28] (S := fun w' => Arr w' w.heap.size 27 (ccs ⟨p, L⟩)) (i := 0) (v := .pointer (some ⟨w.heap.size, 0, none⟩)) rfl (by kernel_rfl) (by kernel_rfl) (fun _ _ _ h => h) (fun w _ => by kernel_rfl) hq ?_
  refine lgTake [0, 1, 2, 3, 4, 5, 6, 7, 8, 9, 10, 11, 12, 13, 14, 15, 16, 17, 18, 19, 20, 21, 22, 23, 24, 25, 26, 27, 28] (S := fun w' => Arr w' w.heap.size 27 (ccs ⟨p, L⟩)) (i := 1) (v := .pointer (some ⟨w.heap.size, 0, none⟩)) rfl (by kernel_rfl) (by kernel_rfl) (fun _ _ _ h => h) (fun w _ => by kernel_rfl) hq ?_
  refine lgTake [0, 1, 2, 3, 4, 5, 6, 7, 8, 9, 10, 11, 12, 13, 14, 15, 16, 17, 18, 19, 20, 21, 22, 23, 24, 25, 26, 27, 28] (S := fun w' => Arr w' w.heap.size 27 (ccs ⟨p, L⟩)) (i := 2) (v := .int .i64 p.x) rfl (by kernel_rfl) (by kernel_rfl) (fun _ _ _ h => h) (fun w h => ldRun (.tmp 11) (by kernel_rfl) rfl (by kernel_rfl) (h.cell (i := 0) rfl)) hq ?_
  refine lgTake [0, 1, 2, 3, 4, 5, 6, 7, 8, 9, 10, 11, 12, 13, 14, 15, 16, 17, 18, 19, 20, 21, 22, 23, 24, 25, 26, 27, 28] (S := fun w' => Arr w' w.heap.size 27 (ccs ⟨p, L⟩)) (i := 3) (v := .int .i64 (s : Int)) rfl (by kernel_rfl) (by kernel_rfl) (fun _ _ _ h => h) (fun w _ => by kernel_rfl) hq ?_
  refine lgTake [0, 1, 2, 3, 4, 5, 6, 7, 8, 9, 10, 11, 12, 13, 14, 15, 16, 17, 18, 19, 20, 21, 22, 23, 24, 25, 26, 27, 28] (S := fun w' => Arr w' w.heap.size 27 (ccs ⟨p, L⟩)) (i := 4) (v := .int .i64 (i : Int)) rfl (by kernel_rfl) (by kernel_rfl) (fun _ _ _ h => h) (fun w _ => by kernel_rfl) hq ?_
  refine lgTake [0, 1, 2, 3, 4, 5, 6, 7, 8, 9, 10, 11, 12, 13, 14, 15, 16, 17, 18, 19, 20, 21, 22, 23, 24, 25, 26, 27, 28] (S := fun w' => Arr w' w.heap.size 27 (ccs ⟨p, L⟩)) (i := 8) (v := .pointer (some ⟨w.heap.size, 0, none⟩)) rfl (by kernel_rfl) (by kernel_rfl) (fun _ _ _ h => h) (fun w _ => by kernel_rfl) hq ?_
  refine lgTake [0, 1, 2, 3, 4, 5, 6, 7, 8, 9, 10, 11, 12, 13, 14, 15, 16, 17, 18, 19, 20, 21, 22, 23, 24, 25, 26, 27, 28] (S := fun w' => Arr w' w.heap.size 27 (ccs ⟨p, L⟩)) (i := 9) (v := .pointer (some ⟨w.heap.size, 1, none⟩)) rfl (by kernel_rfl) (by kernel_rfl) (fun _ _ _ h => h) (fun w _ => by kernel_rfl) hq ?_
  refine lgTake [0, 1, 2, 3, 4, 5, 6, 7, 8, 9, 10, 11, 12, 13, 14, 15, 16, 17, 18, 19, 20, 21, 22, 23, 24, 25, 26, 27, 28] (S := fun w' => Arr w' w.heap.size 27 (ccs ⟨p, L⟩)) (i := 10) (v := .int .i64 p.y) rfl (by kernel_rfl) (by kernel_rfl) (fun _ _ _ h => h) (fun w h => ldRun (.tmp 19) (by kernel_rfl) rfl (by kernel_rfl) (h.cell (i := 1) rfl)) hq ?_
  refine lgTake [0, 1, 2, 3, 4, 5, 6, 7, 8, 9, 10, 11, 12, 13, 14, 15, 16, 17, 18, 19, 20, 21, 22, 23, 24, 25, 26, 27, 28] (S := fun w' => Arr w' w.heap.size 27 (ccs ⟨p, L⟩)) (i := 11) (v := .int .i64 (s : Int)) rfl (by kernel_rfl) (by kernel_rfl) (fun _ _ _ h => h) (fun w _ => by kernel_rfl) hq ?_
  refine lgTake [0, 1, 2, 3, 4, 5, 6, 7, 8, 9, 10, 11, 12, 13, 14, 15, 16, 17, 18, 19, 20, 21, 22, 23, 24, 25, 26, 27, 28] (S := fun w' => Arr w' w.heap.size 27 (ccs ⟨p, L⟩)) (i := 12) (v := .int .i64 (i : Int)) rfl (by kernel_rfl) (by kernel_rfl) (fun _ _ _ h => h) (fun w _ => by kernel_rfl) hq ?_
  refine lgTake [0, 1, 2, 3, 4, 5, 6, 7, 8, 9, 10, 11, 12, 13, 14, 15, 16, 17, 18, 19, 20, 21, 22, 23, 24, 25, 26, 27, 28] (S := fun w' => Arr w' w.heap.size 27 (ccs ⟨p, L⟩)) (i := 16) (v := .pointer (some ⟨w.heap.size, 0, none⟩)) rfl (by kernel_rfl) (by kernel_rfl) (fun _ _ _ h => h) (fun w _ => by kernel_rfl) hq ?_
  refine lgTake [0, 1, 2, 3, 4, 5, 6, 7, 8, 9, 10, 11, 12, 13, 14, 15, 16, 17, 18, 19, 20, 21, 22, 23, 24, 25, 26, 27, 28] (S := fun w' => Arr w' w.heap.size 27 (ccs ⟨p, L⟩)) (i := 17) (v := .pointer (some ⟨w.heap.size, 2, none⟩)) rfl (by kernel_rfl) (by kernel_rfl) (fun _ _ _ h => h) (fun w _ => by kernel_rfl) hq ?_
  refine lgTake [0, 1, 2, 3, 4, 5, 6, 7, 8, 9, 10, 11, 12, 13, 14, 15, 16, 17, 18, 19, 20, 21, 22, 23, 24, 25, 26, 27, 28] (S := fun w' => Arr w' w.heap.size 27 (ccs ⟨p, L⟩)) (i := 18) (v := .int .i64 p.z) rfl (by kernel_rfl) (by kernel_rfl) (fun _ _ _ h => h) (fun w h => ldRun (.tmp 27) (by kernel_rfl) rfl (by kernel_rfl) (h.cell (i := 2) rfl)) hq ?_
  refine lgTake [0, 1, 2, 3, 4, 5, 6, 7, 8, 9, 10, 11, 12, 13, 14, 15, 16, 17, 18, 19, 20, 21, 22, 23, 24, 25, 26, 27, 28] (S := fun w' => Arr w' w.heap.size 27 (ccs ⟨p, L⟩)) (i := 19) (v := .int .i64 (s : Int)) rfl (by kernel_rfl) (by kernel_rfl) (fun _ _ _ h => h) (fun w _ => by kernel_rfl) hq ?_
  refine lgTake [0, 1, 2, 3, 4, 5, 6, 7, 8, 9, 10, 11, 12, 13, 14, 15, 16, 17, 18, 19, 20, 21, 22, 23, 24, 25, 26, 27, 28] (S := fun w' => Arr w' w.heap.size 27 (ccs ⟨p, L⟩)) (i := 20) (v := .int .i64 (i : Int)) rfl (by kernel_rfl) (by kernel_rfl) (fun _ _ _ h => h) (fun w _ => by kernel_rfl) hq ?_
  try simp only [Act.put, List.setIfInBounds_toArray, List.set_cons_succ, List.set_cons_zero]
  refine lgTake [0, 1, 2, 3, 4, 5, 6, 7, 8, 9, 10, 11, 12, 13, 14, 15, 16, 17, 18, 19, 20, 21, 22, 23, 24, 25, 26, 27, 28] (S := fun w' => Arr w' w.heap.size 27 (ccs ⟨p, L⟩)) (i := 25) (v := .pointer (some ⟨w.heap.size, 3, none⟩)) rfl (by kernel_rfl) (by kernel_rfl) (fun _ _ _ h => h) (fun w _ => by kernel_rfl) hq ?_
  refine lgTake [0, 1, 2, 3, 4, 5, 6, 7, 8, 9, 10, 11, 12, 13, 14, 15, 16, 17, 18, 19, 20, 21, 22, 23, 24, 25, 26, 27, 28] (S := fun w' => Arr w' w.heap.size 27 (ccs ⟨p, L⟩)) (i := 26) (v := .int .i64 L) rfl (by kernel_rfl) (by kernel_rfl) (fun _ _ _ h => h) (fun w h => ldRun (.tmp 35) (by kernel_rfl) rfl (by kernel_rfl) (h.cell (i := 3) rfl)) hq ?_
  refine lgTake [0, 1, 2, 3, 4, 5, 6, 7, 8, 9, 10, 11, 12, 13, 14, 15, 16, 17, 18, 19, 20, 21, 22, 23, 24, 25, 26, 27, 28] (S := fun w' => Arr w' w.heap.size 27 (ccs ⟨p, L⟩)) (i := 27) (v := .int .i64 (l : Int)) rfl (by kernel_rfl) (by kernel_rfl) (fun _ _ _ h => h) (fun w _ => subRun (A := L) (B := 1) (.tmp 36) (.const (.int .i64 1)) rfl (by kernel_rfl) rfl HL.out (by omega)) hq ?_
  try simp only [Act.put, List.setIfInBounds_toArray, List.set_cons_succ, List.set_cons_zero]
  refine lgNextS (S := fun w' => Arr w' w.heap.size 27 (ccs ⟨p, L⟩)) (i := 5) (by kernel_rfl) rfl ?_
  refine callOp 35 [.int .i64 (i : Int), .int .i64 0] [] [] (by kernel_rfl) (by kernel_rfl) rfl rfl rfl ?_
  refine (HB0.out _).mono ?_
  rintro e wz ⟨rfl, rfl⟩
  refine ⟨_, rfl, ?_⟩
  refine rgBack hq ?_
  refine lgTake [0, 1, 2, 3, 4, 5, 6, 7, 8, 9, 10, 11, 12, 13, 14, 15, 16, 17, 18, 19, 20, 21, 22, 23, 24, 25, 26, 27, 28] (S := fun w' => Arr w' w.heap.size 27 (ccs ⟨p, L⟩)) (i := 6) (v := .int .i64 ((s * bx : Nat) : Int)) rfl (by kernel_rfl) (by kernel_rfl) (fun _ _ _ h => h) (fun w _ => mulRun (A := (s : Int)) (B := (bx : Int)) (.tmp 13) (.tmp 15) rfl (by kernel_rfl) (by kernel_rfl) (by simp) hm0) hq ?_
  refine lgTake [0, 1, 2, 3, 4, 5, 6, 7, 8, 9, 10, 11, 12, 13, 14, 15, 16, 17, 18, 19, 20, 21, 22, 23, 24, 25, 26, 27, 28] (S := fun w' => Arr w' w.heap.size 27 (ccs ⟨p, L⟩)) (i := 7) (v := .int .i64 (p.x + (s * bx : Nat))) rfl (by kernel_rfl) (by kernel_rfl) (fun _ _ _ h => h) (fun w _ => addRun (A := p.x) (B := ((s * bx : Nat) : Int)) (.tmp 12) (.tmp 16) rfl (by kernel_rfl) (by kernel_rfl) rfl (by omega)) hq ?_
  try simp only [Act.put, List.setIfInBounds_toArray, List.set_cons_succ, List.set_cons_zero]
  refine lgNextS (S := fun w' => Arr w' w.heap.size 27 (ccs ⟨p, L⟩)) (i := 13) (by kernel_rfl) rfl ?_
  refine callOp 35 [.int .i64 (i : Int), .int .i64 1] [] [] (by kernel_rfl) (by kernel_rfl) rfl rfl rfl ?_
  refine (HB1.out _).mono ?_
  rintro e wz ⟨rfl, rfl⟩
  refine ⟨_, rfl, ?_⟩
  refine rgBack hq ?_
  refine lgTake [0, 1, 2, 3, 4, 5, 6, 7, 8, 9, 10, 11, 12, 13, 14, 15, 16, 17, 18, 19, 20, 21, 22, 23, 24, 25, 26, 27, 28] (S := fun w' => Arr w' w.heap.size 27 (ccs ⟨p, L⟩)) (i := 14) (v := .int .i64 ((s * by_ : Nat) : Int)) rfl (by kernel_rfl) (by kernel_rfl) (fun _ _ _ h => h) (fun w _ => mulRun (A := (s : Int)) (B := (by_ : Int)) (.tmp 21) (.tmp 23) rfl (by kernel_rfl) (by kernel_rfl) (by simp) hm1) hq ?_
  refine lgTake [0, 1, 2, 3, 4, 5, 6, 7, 8, 9, 10, 11, 12, 13, 14, 15, 16, 17, 18, 19, 20, 21, 22, 23, 24, 25, 26, 27, 28] (S := fun w' => Arr w' w.heap.size 27 (ccs ⟨p, L⟩)) (i := 15) (v := .int .i64 (p.y + (s * by_ : Nat))) rfl (by kernel_rfl) (by kernel_rfl) (fun _ _ _ h => h) (fun w _ => addRun (A := p.y) (B := ((s * by_ : Nat) : Int)) (.tmp 20) (.tmp 24) rfl (by kernel_rfl) (by kernel_rfl) rfl (by omega)) hq ?_
  try simp only [Act.put, List.setIfInBounds_toArray, List.set_cons_succ, List.set_cons_zero]
  refine lgNextS (S := fun w' => Arr w' w.heap.size 27 (ccs ⟨p, L⟩)) (i := 21) (by kernel_rfl) rfl ?_
  refine callOp 35 [.int .i64 (i : Int), .int .i64 2] [] [] (by kernel_rfl) (by kernel_rfl) rfl rfl rfl ?_
  refine (HB2.out _).mono ?_
  rintro e wz ⟨rfl, rfl⟩
  refine ⟨_, rfl, ?_⟩
  refine rgBack hq ?_
  refine lgTake [0, 1, 2, 3, 4, 5, 6, 7, 8, 9, 10, 11, 12, 13, 14, 15, 16, 17, 18, 19, 20, 21, 22, 23, 24, 25, 26, 27, 28] (S := fun w' => Arr w' w.heap.size 27 (ccs ⟨p, L⟩)) (i := 22) (v := .int .i64 ((s * bz : Nat) : Int)) rfl (by kernel_rfl) (by kernel_rfl) (fun _ _ _ h => h) (fun w _ => mulRun (A := (s : Int)) (B := (bz : Int)) (.tmp 29) (.tmp 31) rfl (by kernel_rfl) (by kernel_rfl) (by simp) hm2) hq ?_
  refine lgTake [0, 1, 2, 3, 4, 5, 6, 7, 8, 9, 10, 11, 12, 13, 14, 15, 16, 17, 18, 19, 20, 21, 22, 23, 24, 25, 26, 27, 28] (S := fun w' => Arr w' w.heap.size 27 (ccs ⟨p, L⟩)) (i := 23) (v := .int .i64 (p.z + (s * bz : Nat))) rfl (by kernel_rfl) (by kernel_rfl) (fun _ _ _ h => h) (fun w _ => addRun (A := p.z) (B := ((s * bz : Nat) : Int)) (.tmp 28) (.tmp 32) rfl (by kernel_rfl) (by kernel_rfl) rfl (by omega)) hq ?_
  try simp only [Act.put, List.setIfInBounds_toArray, List.set_cons_succ, List.set_cons_zero]
  refine lgTake [0, 1, 2, 3, 4, 5, 6, 7, 8, 9, 10, 11, 12, 13, 14, 15, 16, 17, 18, 19, 20, 21, 22, 23, 24, 25, 26, 27, 28] (S := fun w' => Arr w' w.heap.size 27 (ccs ⟨p, L⟩)) (i := 24) (v := .agg (pcs ⟨p.x + (s * bx : Nat), p.y + (s * by_ : Nat), p.z + (s * bz : Nat)⟩).toArray) rfl (by kernel_rfl) (by kernel_rfl) (fun _ _ _ h => h) (fun w _ => by kernel_rfl) hq ?_
  refine lgTake [0, 1, 2, 3, 4, 5, 6, 7, 8, 9, 10, 11, 12, 13, 14, 15, 16, 17, 18, 19, 20, 21, 22, 23, 24, 25, 26, 27, 28] (S := fun w' => Arr w' w.heap.size 27 (ccs ⟨p, L⟩)) (i := 28) (v := .agg (ccs ⟨⟨p.x + (s * bx : Nat), p.y + (s * by_ : Nat), p.z + (s * bz : Nat)⟩, (l : Int)⟩).toArray) rfl (by kernel_rfl) (by kernel_rfl) (fun _ _ _ h => h) (fun w _ => by kernel_rfl) hq ?_
  try simp only [Act.put, List.setIfInBounds_toArray, List.set_cons_succ, List.set_cons_zero]
  refine lgNext (S := fun w' => Arr w' w.heap.size 27 (ccs ⟨p, L⟩)) (i := 29) (by kernel_rfl) rfl (by kernel_rfl) ?_
  refine stArrG (cs := ccs ⟨⟨p.x + (s * bx : Nat), p.y + (s * by_ : Nat), p.z + (s * bz : Nat)⟩, (l : Int)⟩) (.tmp 4) (.tmp 38) Try.ag_cu (by kernel_rfl) rfl (by kernel_rfl) (by kernel_rfl) h2.drew rfl rfl (ccs_one _) ?_
  intro w5 h5 hg5
  refine lgDone (by kernel_rfl) ?_
  try simp only [Act.put, List.setIfInBounds_toArray, List.set_cons_succ, List.set_cons_zero]
  replace hb := hb.drew.grown hg5 hb.drew.size (fun k e => by cases e; exact ls)
  go_wp2_with fail
  refine bodyPost_ret (v := .agg (ccs ⟨R, (l : Int)⟩).toArray) ?_ rfl ⟨rfl, hb⟩
  rw [HR.out]
  exact res_cell1 _ Try.results51 Try.ag_cu _ rfl rfl (fun j u hu => by rw [Nat.zero_add]; exact h5.cell hu)
end Go.Proofs.Ytkfijpghjjnpkaa
/-
  One cell of a block is set: the world behind it is opaque. No statement is proved here.
-/
namespace Go.Proofs.Ytkfijpghjjnpkaa
open Go.RowKit

section
variable {P : Program} {ops : Array Oper} {rest : List Oper} {o : Oper} {a : Act} {Q : Exit → Act → World → Prop} {w : World}
theorem spl_set1 (cur : List Value) (i : Nat) (v : Value) (h : i < cur.length) : spl cur i [v] = cur.set i v := by
  apply List.ext_getElem?
  intro j
  rw [spl_at (by show i + 1 ≤ _; omega)]
  by_cases h1 : j < i
  · rw [if_pos h1, List.getElem?_set_ne (by omega)]
  · rw [if_neg h1]
    by_cases h2 : j < i + [v].length
    · rw [if_pos h2]
      simp only [List.length_cons, List.length_nil] at h2
      obtain rfl : j = i := by omega
      rw [Nat.sub_self, List.getElem?_set_self h]
      rfl
    · rw [if_neg h2]
      simp only [List.length_cons, List.length_nil] at h2
      rw [List.getElem?_set_ne (by omega)]
theorem stCellG {ty t : TypeId} {b i : Nat} {cur : List Value} {v v0 : Value} (x y : Operand) (hsz : (P.info? ty).map (·.size) = some 1) (hgd : Region.wanted o (yielded ops a.tmps) = true) (ho : o.op = .store ty x y)
    (hx : a.eval x = .pointer (some ⟨b, i, none⟩)) (hy : a.eval y = v) (hA : Arr w b t cur) (hi : cur[i]? = some v0) (hv : v.cells = #[v]) (h1 : v.oneCell' = true)
    (h : ∀ w', Arr w' b t (cur.set i v) → w.grownBy w' (some b) → wpList P ops Q rest (a.put o.dst undef) w') : wpList P ops Q (o :: rest) a w := by
  obtain ⟨d, hd, hs'⟩ := Option.map_eq_some_iff.1 hsz
  have hl := (List.getElem?_eq_some_iff.1 hi).1
  have hst := run_storeCells_spl (P := P) hA (off := i) [v] (by show i + 1 ≤ _; omega) (by intro u hu; rw [List.mem_singleton] at hu; rw [hu]; exact h1)
  rw [spl_set1 cur i v hl] at hst
  have hrun : (storeVar ty ⟨b, i, none⟩ v).run P w = .ok () (w.setRow b (cur.set i v).toArray) := by
    simp [storeVar, sizeOf, typeInfo, hd, hs', hv, hst]
  refine wpList_want hgd fun K hK => ?_
  unfold Oper.wp execOp
  simp only [ho, hx, hy, Instr.storeAt, Instr.sureAddr, Sem.run_bind, Sem.run_pure, Result.andThen_ok, hrun]
  refine hK _ _ (h _ (hA.setRow _) ⟨rfl, rfl, rfl, by simp [World.setRow], fun k hk hne => ?_⟩)
  unfold World.setRow
  have : b ≠ k := fun e => hne (by rw [e])
  simp [Array.getElem?_modify, this]
end
end Go.Proofs.Ytkfijpghjjnpkaa
/-
  clip: the first and the last cell of a box inside the world. No statement is proved here.
-/
namespace Go.Proofs.Ytkfijpghjjnpkaa
open Go.RowKit
set_option linter.unusedVariables false
set_option linter.unusedSimpArgs false

theorem res_2cell {P : Program} {w : World} {fn : Func} {p q r : Tmp} {ty : TypeId} {z : Array Value} {n b b' : Nat} (cs ds : List Value) (h : fn.results = #[.cell p ty, .cell q ty, .tmp r]) (T : AgTy P ty z n) (tmps : Array Value) {v : Value}
    (hp : tmps.getD p undef = .pointer (some ⟨b, 0, none⟩)) (hq : tmps.getD q undef = .pointer (some ⟨b', 0, none⟩)) (hv : tmps.getD r undef = v) (hl : cs.length = n) (hl' : ds.length = n) {t t' : TypeId} (hA : Arr w b t cs) (hB : Arr w b' t' ds) :
    (results fn tmps).run P w = .ok (.tuple #[.agg cs.toArray, .agg ds.toArray, v]) w := by
  have hr := run_loadAgg (P := P) (w := w) T b 0 cs hl (fun j u hu => by rw [Nat.zero_add]; exact hA.cell hu)
  have hr' := run_loadAgg (P := P) (w := w) T b' 0 ds hl' (fun j u hu => by rw [Nat.zero_add]; exact hB.cell hu)
  have hp' : tmps[p]?.getD undef = .pointer (some ⟨b, 0, none⟩) := by simpa using hp
  have hq' : tmps[q]?.getD undef = .pointer (some ⟨b', 0, none⟩) := by simpa using hq
  have hv' : tmps[r]?.getD undef = v := by simpa using hv
  simp only [results, h]
  simp [hp', hq', hv', asAddr, hr, hr']
/-- The first and the last cell. -/
def Bx.lo (b : Bx) : Pt := ⟨max b.mn.x 0, max b.mn.y 0, max b.mn.z 0⟩
def Bx.hi (b : Bx) : Pt := ⟨min b.mx.x 16384 - 1, min b.mx.y 16384 - 1, min b.mx.z 16384 - 1⟩
def Bx.ok (b : Bx) : Prop := ∀ k, k < 3 → b.lo.at k ≤ b.hi.at k
instance (b : Bx) : Decidable b.ok := by unfold Bx.ok; infer_instance
/-- The first k coordinates are done. -/
def mixT (p q : Pt) (k : Nat) : Pt := ⟨if 0 < k then q.x else p.x, if 1 < k then q.y else p.y, if 2 < k then q.z else p.z⟩
theorem mixT_at (p q : Pt) (k : Nat) (h : k < 3) : (mixT p q k).at k = p.at k := by
  rcases (by omega : k = 0 ∨ k = 1 ∨ k = 2) with rfl | rfl | rfl <;> simp [mixT, Pt.at]
theorem mixT_set (p q : Pt) (k : Nat) (h : k < 3) : (pcs (mixT p q k)).set k (.int .i64 (q.at k)) = pcs (mixT p q (k + 1)) := by
  rcases (by omega : k = 0 ∨ k = 1 ∨ k = 2) with rfl | rfl | rfl <;> simp [mixT, pcs, Pt.at]
theorem mixT_at1 (p q : Pt) (k : Nat) (h : k < 3) : (mixT p q (k + 1)).at k = q.at k := by
  rcases (by omega : k = 0 ∨ k = 1 ∨ k = 2) with rfl | rfl | rfl <;> simp [mixT, Pt.at]
theorem mixT_start (p q : Pt) : mixT p q 0 = p := by simp [mixT]
theorem mixT_end (p q : Pt) : mixT p q 3 = q := by simp [mixT]
theorem set_pt (p : Pt) (k : Nat) (h : k < 3) (v : Int) : ∃ q : Pt, (pcs p).set k (.int .i64 v) = pcs q ∧ q.at k = v := by
  rcases (by omega : k = 0 ∨ k = 1 ∨ k = 2) with rfl | rfl | rfl
  · exact ⟨⟨v, p.y, p.z⟩, rfl, rfl⟩
  · exact ⟨⟨p.x, v, p.z⟩, rfl, rfl⟩
  · exact ⟨⟨p.x, p.y, v⟩, rfl, rfl⟩
theorem lo_at (b : Bx) (k : Nat) : b.lo.at k = max (b.mn.at k) 0 := by
  unfold Pt.at Bx.lo
  split <;> rfl
theorem hi_at (b : Bx) (k : Nat) : b.hi.at k = min (b.mx.at k) 16384 - 1 := by
  unfold Pt.at Bx.hi
  split <;> rfl
def RetClip (w : World) (b : Bx) (e : Ending) (w' : World) : Prop := ∃ f l, e = .returned (.tuple #[.agg (pcs f).toArray, .agg (pcs l).toArray, .bool (decide b.ok)]) ∧ (b.ok → f = b.lo ∧ l = b.hi) ∧ Below w.heap.size w w'

theorem bxs_mn (b : Bx) {j : Nat} {u : Value} (h : (pcs b.mn)[j]? = some u) : (bxs b)[0 + j]? = some u := by
  have hl := (List.getElem?_eq_some_iff.1 h).1
  unfold bxs
  rw [Nat.zero_add, List.getElem?_append_left hl]
  exact h
theorem bxs_mx (b : Bx) {j : Nat} {u : Value} (h : (pcs b.mx)[j]? = some u) : (bxs b)[3 + j]? = some u := by
  unfold bxs
  rw [List.getElem?_append_right (by show 3 ≤ 3 + j; omega), show 3 + j - (pcs b.mn).length = j by show 3 + j - 3 = j; omega]
  exact h
theorem ldAgRun {P : Program} {w : World} {o : Oper} {a : Act} {ty : TypeId} {z : Array Value} {n b off : Nat} {cs : List Value} (x : Operand) (T : AgTy P ty z n) (ho : o.op = .load ty x) (hx : a.eval x = .pointer (some ⟨b, off, none⟩)) (hl : cs.length = n)
    (hc : ∀ j u, cs[j]? = some u → w.cell? ⟨b, off + j, none⟩ = some u) : (execOp a.eval o).run P w = .ok (.value (.agg cs.toArray)) w := by
  unfold execOp
  simp only [ho, hx, Instr.loadAt, Instr.sureAddr, Sem.run_bind, Sem.run_pure, Result.andThen_ok, run_loadAgg T b off cs hl hc]
set_option maxRecDepth 100000 in
set_option maxHeartbeats 4000000 in
theorem clip_any (b : Bx) (w : World) : Calls Try.prog 41 #[.agg (bxs b).toArray] w (RetClip w b) := by
  have HOK : Hid (b.ok ↔ ∀ k, k < 3 → max (b.mn.at k) 0 < min (b.mx.at k) 16384) := Lib.hid (by
    unfold Bx.ok
    constructor
    · intro h k hk
      have := h k hk
      rw [lo_at, hi_at] at this
      omega
    · intro h k hk
      have := h k hk
      rw [lo_at, hi_at]
      omega)
  go_enter Try.func41, Try.ntmps41
  go_wp2_with (with_reducible refine bxArr (cs := bxs b) (.tmp 0) (wn rfl) rfl rfl ?_)
  intro w1 h1 b1
  go_wp2_with (with_reducible refine alArr (z := pcs p0) Try.ag_i3 (wn rfl) rfl ?_)
  intro w2 h2 b2
  go_wp2_with (with_reducible refine alArr (z := pcs p0) Try.ag_i3 (wn rfl) rfl ?_)
  intro w3 h3 b3
  have l1 := h1.lt
  have l2 := h2.lt
  replace h1 := (h1.below b2 l1).below b3 (Nat.lt_of_lt_of_le l1 b2.size)
  replace h2 := h2.below b3 l2
  have ls := b1.size
  have ls3 : w.heap.size ≤ w2.heap.size := Nat.le_trans ls b2.size
  have hb := (b1.trans (b2.mono ls)).trans (b3.mono ls3)
  clear b1 b2 b3
  generalize w1.heap.size = g2 at *
  generalize w2.heap.size = g3 at *
  go_wp2_with fail
  replace h1 := h1.drew
  replace h2 := h2.drew
  replace h3 := h3.drew
  replace hb := hb.drew
  refine lgStart (fun w' => Arr w' w.heap.size 37 (bxs b)) 6 (by kernel_rfl) ?_
  have hq : (fun w' : World => Arr w' w.heap.size 37 (bxs b)) w3.drew := h1
  clear h1
  generalize w3.drew = wd at *
  refine lgTake [0, 1, 2, 3, 4, 5] (S := fun w' => Arr w' w.heap.size 37 (bxs b)) (i := 0) (v := .pointer (some ⟨w.heap.size, 0, none⟩)) rfl (by kernel_rfl) (by kernel_rfl) (fun _ _ _ h => h) (fun w _ => by kernel_rfl) hq ?_
  refine lgTake [0, 1, 2, 3, 4, 5] (S := fun w' => Arr w' w.heap.size 37 (bxs b)) (i := 3) (v := .pointer (some ⟨w.heap.size, 3, none⟩)) rfl (by kernel_rfl) (by kernel_rfl) (fun _ _ _ h => h) (fun w _ => by kernel_rfl) hq ?_
  refine lgTake [0, 1, 2, 3, 4, 5] (S := fun w' => Arr w' w.heap.size 37 (bxs b)) (i := 1) (v := .agg (pcs b.mn).toArray) rfl (by kernel_rfl) (by kernel_rfl) (fun _ _ _ h => h) (fun w h => ldAgRun (.tmp 6) Try.ag_pt rfl (by kernel_rfl) rfl (fun j u hu => h.cell (i := 0 + j) (bxs_mn b hu))) hq ?_
  refine lgTake [0, 1, 2, 3, 4, 5] (S := fun w' => Arr w' w.heap.size 37 (bxs b)) (i := 4) (v := .agg (pcs b.mx).toArray) rfl (by kernel_rfl) (by kernel_rfl) (fun _ _ _ h => h) (fun w h => ldAgRun (.tmp 9) Try.ag_pt rfl (by kernel_rfl) rfl (fun j u hu => h.cell (i := 3 + j) (bxs_mx b hu))) hq ?_
  try simp only [Act.put, List.setIfInBounds_toArray, List.set_cons_succ, List.set_cons_zero]
  refine lgNextS (S := fun w' => Arr w' w.heap.size 37 (bxs b)) (i := 2) (by kernel_rfl) rfl ?_
  refine callOp 37 [.agg (pcs b.mn).toArray] [] [] (by kernel_rfl) (by kernel_rfl) rfl rfl rfl ?_
  refine (array_any b.mn _).mono ?_
  rintro e wz ⟨rfl, bz⟩
  replace hq := hq.below bz hq.lt
  replace h2 := h2.below bz h2.lt
  replace h3 := h3.below bz h3.lt
  replace hb := hb.trans (bz.mono hb.size)
  clear bz
  refine ⟨_, rfl, ?_⟩
  refine rgBack hq ?_
  try simp only [Act.put, List.setIfInBounds_toArray, List.set_cons_succ, List.set_cons_zero]
  refine lgNextS (S := fun w' => Arr w' w.heap.size 37 (bxs b)) (i := 5) (by kernel_rfl) rfl ?_
  refine callOp 37 [.agg (pcs b.mx).toArray] [] [] (by kernel_rfl) (by kernel_rfl) rfl rfl rfl ?_
  refine (array_any b.mx _).mono ?_
  rintro e wz ⟨rfl, bz⟩
  replace hq := hq.below bz hq.lt
  replace h2 := h2.below bz h2.lt
  replace h3 := h3.below bz h3.lt
  replace hb := hb.trans (bz.mono hb.size)
  clear bz
  refine ⟨_, rfl, ?_⟩
  refine rgBack hq ?_
  try simp only [Act.put, List.setIfInBounds_toArray, List.set_cons_succ, List.set_cons_zero]
  refine lgNext (S := fun w' => Arr w' w.heap.size 37 (bxs b)) (i := 6) (by kernel_rfl) rfl (by kernel_rfl) ?_
  refine stArrG (cs := pcs b.mn) (.tmp 2) (.tmp 8) Try.ag_i3 (by kernel_rfl) rfl (by kernel_rfl) (by kernel_rfl) h2 rfl rfl (pcs_one _) ?_
  intro w5 h2 hg5
  replace h3 := h3.grown hg5 (fun e => by injection e with e; omega)
  replace hb := hb.grown hg5 hb.size (fun k e => by cases e; exact ls)
  try simp only [Act.put, List.setIfInBounds_toArray, List.set_cons_succ, List.set_cons_zero]
  refine lgNext (S := fun w' => Arr w' w.heap.size 37 (bxs b)) (i := 7) (by kernel_rfl) rfl (by kernel_rfl) ?_
  refine stArrG (cs := pcs b.mx) (.tmp 3) (.tmp 11) Try.ag_i3 (by kernel_rfl) rfl (by kernel_rfl) (by kernel_rfl) h3 rfl rfl (pcs_one _) ?_
  intro w6 h3 hg6
  replace h2 := h2.grown hg6 (fun e => by injection e with e; omega)
  replace hb := hb.grown hg6 hb.size (fun k e => by cases e; exact ls3)
  clear hg5 hg6
  refine lgDone (by kernel_rfl) ?_
  try simp only [Act.put, List.setIfInBounds_toArray, List.set_cons_succ, List.set_cons_zero]
  clear hq l1
  have hne : g2 ≠ g3 := by omega
  rw [← mixT_start b.mn b.lo] at h2
  rw [← mixT_start b.mx b.hi] at h3
  go_wp2_with fail
  go_loopw [12] (fun kk wr => ∃ k : Nat, k ≤ 3 ∧ kk = .int .i64 (k : Int) ∧ Hid (∀ j, j < k → max (b.mn.at j) 0 < min (b.mx.at j) 16384) ∧ Arr wr g2 57 (pcs (mixT b.mn b.lo k)) ∧ Arr wr g3 57 (pcs (mixT b.mx b.hi k)) ∧ Below w.heap.size w wr) (fun kk _ => 3 - (intOf kk).toNat)
  case atStart => exact ⟨0, by omega, rfl, Lib.hid (fun j h => by omega), h2, h3, hb⟩
  case round =>
    clear h2 h3 hb
    obtain ⟨k, hk, rfl, HK, h2, h3, hb⟩ := hrel
    by_cases hlt : k < 3
    · have e2 := pcs_get (mixT b.mn b.lo k) hlt
      rw [mixT_at _ _ k hlt] at e2
      have e3 := pcs_get (mixT b.mx b.hi k) hlt
      rw [mixT_at _ _ k hlt] at e3
      have s2 := mixT_set b.mn b.lo k hlt
      rw [lo_at] at s2
      have hc2 := h2.cell e2
      have hc3 := h3.cell e3
      have hf2 := h2.thaw k
      have hf3 := h3.thaw k
      obtain ⟨q, hq1, hq2⟩ := set_pt (mixT b.mx b.hi k) k hlt (min (b.mx.at k) 16384)
      have h2s := h2.set k (.int .i64 (max (b.mn.at k) 0))
      rw [s2] at h2s
      have h3s := h3.other hne k (.int .i64 (max (b.mn.at k) 0))
      have hc3s := h3s.cell e3
      have hf3s := h3s.thaw k
      have h3t := h3s.set k (.int .i64 (min (b.mx.at k) 16384))
      have h2t := h2s.other (Ne.symm hne) k (.int .i64 (min (b.mx.at k) 16384))
      have hbs := (hb.setCell (p := ⟨g2, k, none⟩) ls (.int .i64 (max (b.mn.at k) 0))).setCell (p := ⟨g3, k, none⟩) ls3 (.int .i64 (min (b.mx.at k) 16384))
      have hset : (pcs q).set k (.int .i64 (b.hi.at k)) = pcs (mixT b.mx b.hi (k + 1)) := by rw [← hq1, List.set_set, mixT_set _ _ k hlt]
      rw [hq1] at h3t
      have HA := Lib.hid (lo_at b k)
      have HB := Lib.hid (hi_at b k)
      have HSET := Lib.hid hset
      clear h2 h3 hb h2s h3s s2 hset hq1
      go_wp2_with fail
      clear hc2 hc3 hc3s hf2 hf3 hf3s
      replace h2 := h2t
      replace h3 := h3t
      replace hb := hbs
      clear h2t h3t hbs e3 e2
      generalize World.setCell (World.setCell wr _ _) _ _ = wd at *
      have hqk := hq2
      have hak : (mixT b.mn b.lo (k + 1)).at k = max (b.mn.at k) 0 := by rw [← HA.out]; exact mixT_at1 _ _ k hlt
      generalize hm : mixT b.mn b.lo (k + 1) = c at *
      by_cases hkk : min (b.mx.at k) 16384 ≤ max (b.mn.at k) 0
      · have HF : Hid (decide b.ok = false) := Lib.hid (by
          rw [decide_eq_false_iff_not]
          intro h
          have := HOK.out.1 h k hlt
          omega)
        have HNO : Hid (¬ b.ok) := Lib.hid (fun h => by
          have := HOK.out.1 h k hlt
          omega)
        refine rgStart (fun w' => Arr w' g2 57 (pcs c) ∧ Arr w' g3 57 (pcs q)) (by kernel_rfl) ?_
        have hq : (fun w' : World => Arr w' g2 57 (pcs c) ∧ Arr w' g3 57 (pcs q)) wd.drew := ⟨h2.drew, h3.drew⟩
        refine rgTake (S := fun w' => Arr w' g2 57 (pcs c) ∧ Arr w' g3 57 (pcs q)) (i := 0) (v := .int .i64 (k : Int)) rfl (by kernel_rfl) (by kernel_rfl) (fun _ _ _ h => h) (fun w _ => by kernel_rfl) hq ?_
        refine rgTake (S := fun w' => Arr w' g2 57 (pcs c) ∧ Arr w' g3 57 (pcs q)) (i := 1) (v := .pointer (some ⟨g2, 0 + k * 1, none⟩)) rfl (by kernel_rfl) (by kernel_rfl) (fun _ _ _ h => h) (fun w _ => iaRun (n := 3) (kk := .i64) (.tmp 2) (.tmp 27) k Try.und_i3 Try.one_int rfl (by kernel_rfl) (by kernel_rfl) rfl hlt) hq ?_
        refine rgTake (S := fun w' => Arr w' g2 57 (pcs c) ∧ Arr w' g3 57 (pcs q)) (i := 2) (v := .int .i64 (max (b.mn.at k) 0)) rfl (by kernel_rfl) (by kernel_rfl) (fun _ _ _ h => h) (fun w h => by rw [← hak]; exact ldRun (.tmp 28) (by kernel_rfl) rfl (by kernel_rfl) (show w.cell? ⟨g2, 0 + k * 1, none⟩ = _ by rw [Nat.zero_add, Nat.mul_one]; exact (h.1).cell (pcs_get c hlt))) hq ?_
        refine rgTake (S := fun w' => Arr w' g2 57 (pcs c) ∧ Arr w' g3 57 (pcs q)) (i := 3) (v := .int .i64 (k : Int)) rfl (by kernel_rfl) (by kernel_rfl) (fun _ _ _ h => h) (fun w _ => by kernel_rfl) hq ?_
        refine rgTake (S := fun w' => Arr w' g2 57 (pcs c) ∧ Arr w' g3 57 (pcs q)) (i := 4) (v := .pointer (some ⟨g3, 0 + k * 1, none⟩)) rfl (by kernel_rfl) (by kernel_rfl) (fun _ _ _ h => h) (fun w _ => iaRun (n := 3) (kk := .i64) (.tmp 3) (.tmp 30) k Try.und_i3 Try.one_int rfl (by kernel_rfl) (by kernel_rfl) rfl hlt) hq ?_
        refine rgTake (S := fun w' => Arr w' g2 57 (pcs c) ∧ Arr w' g3 57 (pcs q)) (i := 5) (v := .int .i64 (min (b.mx.at k) 16384)) rfl (by kernel_rfl) (by kernel_rfl) (fun _ _ _ h => h) (fun w h => by rw [← hqk]; exact ldRun (.tmp 31) (by kernel_rfl) rfl (by kernel_rfl) (show w.cell? ⟨g3, 0 + k * 1, none⟩ = _ by rw [Nat.zero_add, Nat.mul_one]; exact (h.2).cell (pcs_get q hlt))) hq ?_
        try simp only [Act.put, List.setIfInBounds_toArray, List.set_cons_succ, List.set_cons_zero]
        refine rgTake (S := fun w' => Arr w' g2 57 (pcs c) ∧ Arr w' g3 57 (pcs q)) (i := 6) (v := .bool (decide (min (b.mx.at k) 16384 ≤ max (b.mn.at k) 0))) rfl (by kernel_rfl) (by kernel_rfl) (fun _ _ _ h => h) (fun w _ => geqRun (A := max (b.mn.at k) 0) (B := min (b.mx.at k) 16384) (.tmp 29) (.tmp 32) rfl (by kernel_rfl) (by kernel_rfl)) hq ?_
        refine rgDone (by kernel_rfl) ?_
        try simp only [Act.put, List.setIfInBounds_toArray, List.set_cons_succ, List.set_cons_zero]
        replace h2 := h2.drew
        replace h3 := h3.drew
        replace hb := hb.drew
        generalize World.drew _ = we at *
        clear hq
        rw [decide_eq_true hkk]
        go_wp2_with fail
        replace hb := hb.drew
        refine rgStart (fun w' => Arr w' g2 57 (pcs c) ∧ Arr w' g3 57 (pcs q)) (by kernel_rfl) ?_
        have hq : (fun w' : World => Arr w' g2 57 (pcs c) ∧ Arr w' g3 57 (pcs q)) _ := ⟨h2.drew, h3.drew⟩
        refine rgLoad (S := fun w' => Arr w' g2 57 (pcs c) ∧ Arr w' g3 57 (pcs q)) (i := 0) (b := g2) (off := 0) (.tmp 2) (pcs c) Try.ag_i3 rfl (by kernel_rfl) (by kernel_rfl) (fun _ _ _ h => h) rfl (by kernel_rfl) rfl (fun w h j u hu => by rw [Nat.zero_add]; exact (h.1).cell hu) hq ?_
        refine rgLoad (S := fun w' => Arr w' g2 57 (pcs c) ∧ Arr w' g3 57 (pcs q)) (i := 1) (b := g3) (off := 0) (.tmp 3) (pcs q) Try.ag_i3 rfl (by kernel_rfl) (by kernel_rfl) (fun _ _ _ h => h) rfl (by kernel_rfl) rfl (fun w h j u hu => by rw [Nat.zero_add]; exact (h.2).cell hu) hq ?_
        try simp only [Act.put, List.setIfInBounds_toArray, List.set_cons_succ, List.set_cons_zero]
        refine rgNext (S := fun w' => Arr w' g2 57 (pcs c) ∧ Arr w' g3 57 (pcs q)) (i := 2) (by kernel_rfl) rfl ?_
        refine stArrG (cs := pcs c) (.tmp 2) (.tmp 34) Try.ag_i3 (by kernel_rfl) rfl (by kernel_rfl) (by kernel_rfl) hq.1 rfl rfl (pcs_one _) ?_
        intro wy hy hgy
        replace hq := And.intro hy ((hq.2).grown hgy (fun e => by injection e with e; omega))
        replace hb := hb.grown hgy hb.size (fun k e => by cases e; omega)
        clear hy hgy
        refine rgBack hq ?_
        refine rgNext (S := fun w' => Arr w' g2 57 (pcs c) ∧ Arr w' g3 57 (pcs q)) (i := 3) (by kernel_rfl) rfl ?_
        refine stArrG (cs := pcs q) (.tmp 3) (.tmp 35) Try.ag_i3 (by kernel_rfl) rfl (by kernel_rfl) (by kernel_rfl) hq.2 rfl rfl (pcs_one _) ?_
        intro wy hy hgy
        replace hq := And.intro ((hq.1).grown hgy (fun e => by injection e with e; omega)) hy
        replace hb := hb.grown hgy hb.size (fun k e => by cases e; omega)
        clear hy hgy
        refine rgBack hq ?_
        refine rgTake (S := fun w' => Arr w' g2 57 (pcs c) ∧ Arr w' g3 57 (pcs q)) (i := 4) (v := .bool false) rfl (by kernel_rfl) (by kernel_rfl) (fun _ _ _ h => h) (fun w _ => by kernel_rfl) hq ?_
        refine rgDone (by kernel_rfl) ?_
        try simp only [Act.put, List.setIfInBounds_toArray, List.set_cons_succ, List.set_cons_zero]
        go_wp2_with fail
        refine bodyPost_ret (res_2cell (v := .bool false) (pcs c) (pcs q) Try.results41 Try.ag_i3 _ rfl rfl rfl rfl rfl hq.1 hq.2) rfl ⟨c, q, by rw [HF.out], fun h => absurd h HNO.out, hb⟩
      · refine rgStart (fun w' => Arr w' g2 57 (pcs c) ∧ Arr w' g3 57 (pcs q)) (by kernel_rfl) ?_
        have hq : (fun w' : World => Arr w' g2 57 (pcs c) ∧ Arr w' g3 57 (pcs q)) wd.drew := ⟨h2.drew, h3.drew⟩
        refine rgTake (S := fun w' => Arr w' g2 57 (pcs c) ∧ Arr w' g3 57 (pcs q)) (i := 0) (v := .int .i64 (k : Int)) rfl (by kernel_rfl) (by kernel_rfl) (fun _ _ _ h => h) (fun w _ => by kernel_rfl) hq ?_
        refine rgTake (S := fun w' => Arr w' g2 57 (pcs c) ∧ Arr w' g3 57 (pcs q)) (i := 1) (v := .pointer (some ⟨g2, 0 + k * 1, none⟩)) rfl (by kernel_rfl) (by kernel_rfl) (fun _ _ _ h => h) (fun w _ => iaRun (n := 3) (kk := .i64) (.tmp 2) (.tmp 27) k Try.und_i3 Try.one_int rfl (by kernel_rfl) (by kernel_rfl) rfl hlt) hq ?_
        refine rgTake (S := fun w' => Arr w' g2 57 (pcs c) ∧ Arr w' g3 57 (pcs q)) (i := 2) (v := .int .i64 (max (b.mn.at k) 0)) rfl (by kernel_rfl) (by kernel_rfl) (fun _ _ _ h => h) (fun w h => by rw [← hak]; exact ldRun (.tmp 28) (by kernel_rfl) rfl (by kernel_rfl) (show w.cell? ⟨g2, 0 + k * 1, none⟩ = _ by rw [Nat.zero_add, Nat.mul_one]; exact (h.1).cell (pcs_get c hlt))) hq ?_
        refine rgTake (S := fun w' => Arr w' g2 57 (pcs c) ∧ Arr w' g3 57 (pcs q)) (i := 3) (v := .int .i64 (k : Int)) rfl (by kernel_rfl) (by kernel_rfl) (fun _ _ _ h => h) (fun w _ => by kernel_rfl) hq ?_
        refine rgTake (S := fun w' => Arr w' g2 57 (pcs c) ∧ Arr w' g3 57 (pcs q)) (i := 4) (v := .pointer (some ⟨g3, 0 + k * 1, none⟩)) rfl (by kernel_rfl) (by kernel_rfl) (fun _ _ _ h => h) (fun w _ => iaRun (n := 3) (kk := .i64) (.tmp 3) (.tmp 30) k Try.und_i3 Try.one_int rfl (by kernel_rfl) (by kernel_rfl) rfl hlt) hq ?_
        refine rgTake (S := fun w' => Arr w' g2 57 (pcs c) ∧ Arr w' g3 57 (pcs q)) (i := 5) (v := .int .i64 (min (b.mx.at k) 16384)) rfl (by kernel_rfl) (by kernel_rfl) (fun _ _ _ h => h) (fun w h => by rw [← hqk]; exact ldRun (.tmp 31) (by kernel_rfl) rfl (by kernel_rfl) (show w.cell? ⟨g3, 0 + k * 1, none⟩ = _ by rw [Nat.zero_add, Nat.mul_one]; exact (h.2).cell (pcs_get q hlt))) hq ?_
        try simp only [Act.put, List.setIfInBounds_toArray, List.set_cons_succ, List.set_cons_zero]
        refine rgTake (S := fun w' => Arr w' g2 57 (pcs c) ∧ Arr w' g3 57 (pcs q)) (i := 6) (v := .bool (decide (min (b.mx.at k) 16384 ≤ max (b.mn.at k) 0))) rfl (by kernel_rfl) (by kernel_rfl) (fun _ _ _ h => h) (fun w _ => geqRun (A := max (b.mn.at k) 0) (B := min (b.mx.at k) 16384) (.tmp 29) (.tmp 32) rfl (by kernel_rfl) (by kernel_rfl)) hq ?_
        refine rgDone (by kernel_rfl) ?_
        try simp only [Act.put, List.setIfInBounds_toArray, List.set_cons_succ, List.set_cons_zero]
        replace h2 := h2.drew
        replace h3 := h3.drew
        replace hb := hb.drew
        generalize World.drew _ = we at *
        clear hq
        rw [decide_eq_false hkk]
        have e3 := pcs_get q hlt
        rw [hqk] at e3
        have hc3 := h3.cell e3
        have hf3 := h3.thaw k
        have hlv : min (b.mx.at k) 16384 - 1 = b.hi.at k := HB.out.symm
        have hin : 0 ≤ min (b.mx.at k) 16384 ∧ min (b.mx.at k) 16384 ≤ 16384 := by omega
        have h3s := h3.set k (.int .i64 (b.hi.at k))
        rw [HSET.out] at h3s
        have h2s := h2.other (Ne.symm hne) k (.int .i64 (b.hi.at k))
        have hbs := hb.setCell (p := ⟨g3, k, none⟩) ls3 (.int .i64 (b.hi.at k))
        have HK2 := Lib.hid (show ∀ j, j < k + 1 → max (b.mn.at j) 0 < min (b.mx.at j) 16384 from fun j h => by
          by_cases hjk : j = k
          · subst hjk; omega
          · exact HK.out j (by omega))
        rw [← hlv] at h3s h2s hbs
        clear h2 h3 hb e3 HB HSET hqk hq2 hak HA hlv HK hkk
        generalize min (b.mx.at k) 16384 = v at *
        subst hm
        go_wp2_with fail
        refine ⟨⟨k + 1, by omega, by simp, HK2, h2s, h3s, hbs⟩, ?_⟩
        simp [intOf]; omega
    · obtain rfl : k = 3 := by omega
      have HF : Hid (decide b.ok = true) := Lib.hid (by rw [decide_eq_true_iff, HOK.out]; exact HK.out)
      rw [mixT_end] at h2 h3
      go_wp2_with fail
      replace hb := hb.drew
      refine rgStart (fun w' => Arr w' g2 57 (pcs b.lo) ∧ Arr w' g3 57 (pcs b.hi)) (by kernel_rfl) ?_
      have hq : (fun w' : World => Arr w' g2 57 (pcs b.lo) ∧ Arr w' g3 57 (pcs b.hi)) _ := ⟨h2.drew, h3.drew⟩
      refine rgLoad (S := fun w' => Arr w' g2 57 (pcs b.lo) ∧ Arr w' g3 57 (pcs b.hi)) (i := 0) (b := g2) (off := 0) (.tmp 2) (pcs b.lo) Try.ag_i3 rfl (by kernel_rfl) (by kernel_rfl) (fun _ _ _ h => h) rfl (by kernel_rfl) rfl (fun w h j u hu => by rw [Nat.zero_add]; exact (h.1).cell hu) hq ?_
      refine rgLoad (S := fun w' => Arr w' g2 57 (pcs b.lo) ∧ Arr w' g3 57 (pcs b.hi)) (i := 1) (b := g3) (off := 0) (.tmp 3) (pcs b.hi) Try.ag_i3 rfl (by kernel_rfl) (by kernel_rfl) (fun _ _ _ h => h) rfl (by kernel_rfl) rfl (fun w h j u hu => by rw [Nat.zero_add]; exact (h.2).cell hu) hq ?_
      try simp only [Act.put, List.setIfInBounds_toArray, List.set_cons_succ, List.set_cons_zero]
      refine rgNext (S := fun w' => Arr w' g2 57 (pcs b.lo) ∧ Arr w' g3 57 (pcs b.hi)) (i := 2) (by kernel_rfl) rfl ?_
      refine stArrG (cs := pcs b.lo) (.tmp 2) (.tmp 42) Try.ag_i3 (by kernel_rfl) rfl (by kernel_rfl) (by kernel_rfl) hq.1 rfl rfl (pcs_one _) ?_
      intro wy hy hgy
      replace hq := And.intro hy ((hq.2).grown hgy (fun e => by injection e with e; omega))
      replace hb := hb.grown hgy hb.size (fun k e => by cases e; omega)
      clear hy hgy
      refine rgBack hq ?_
      refine rgNext (S := fun w' => Arr w' g2 57 (pcs b.lo) ∧ Arr w' g3 57 (pcs b.hi)) (i := 3) (by kernel_rfl) rfl ?_
      refine stArrG (cs := pcs b.hi) (.tmp 3) (.tmp 43) Try.ag_i3 (by kernel_rfl) rfl (by kernel_rfl) (by kernel_rfl) hq.2 rfl rfl (pcs_one _) ?_
      intro wy hy hgy
      replace hq := And.intro ((hq.1).grown hgy (fun e => by injection e with e; omega)) hy
      replace hb := hb.grown hgy hb.size (fun k e => by cases e; omega)
      clear hy hgy
      refine rgBack hq ?_
      refine rgTake (S := fun w' => Arr w' g2 57 (pcs b.lo) ∧ Arr w' g3 57 (pcs b.hi)) (i := 4) (v := .bool true) rfl (by kernel_rfl) (by kernel_rfl) (fun _ _ _ h => h) (fun w _ => by kernel_rfl) hq ?_
      refine rgDone (by kernel_rfl) ?_
      try simp only [Act.put, List.setIfInBounds_toArray, List.set_cons_succ, List.set_cons_zero]
      go_wp2_with fail
      exact bodyPost_ret (res_2cell (v := .bool true) (pcs b.lo) (pcs b.hi) Try.results41 Try.ag_i3 _ rfl rfl rfl rfl rfl hq.1 hq.2) rfl ⟨b.lo, b.hi, by rw [HF.out], fun _ => ⟨rfl, rfl⟩, hb⟩
end Go.Proofs.Ytkfijpghjjnpkaa
/-
  append of one struct or array onto a row of the call's own; a slice literal of one struct or array; both with an opaque world behind. No statement is proved here.
-/
namespace Go.Proofs.Ytkfijpghjjnpkaa
open Go.RowKit
section
variable {P : Program} {w w0 : World} {ops : Array Oper} {rest : List Oper} {o : Oper} {a : Act} {Q : Exit → Act → World → Prop}
/-- A new variable of a type of one cell. -/
theorem alScG {ty : TypeId} {v : Value} (hz : (P.info? ty).map (fun i => i.zero.map Value.cells) = some (some #[v])) (hgd : Region.wanted o (yielded ops a.tmps) = true) (ho : o.op = .alloc ty)
    (h : ∀ w', Arr w' w.heap.size ty [v] → Below w.heap.size w w' → wpList P ops Q rest (a.put o.dst (.pointer (some ⟨w.heap.size, 0, none⟩))) w') : wpList P ops Q (o :: rest) a w := by
  obtain ⟨i, hi, hz⟩ := Option.map_eq_some_iff.1 hz
  obtain ⟨zv, hzv, hzc⟩ := Option.map_eq_some_iff.1 hz
  refine wpList_want hgd fun K hK => ?_
  unfold Oper.wp execOp
  simp only [ho]
  have hr : (Instr.alloc ty true (.tuple #[])).run P w = .ok (.pointer (some ⟨w.heap.size, 0, none⟩)) (w.alloc (.cells #[v] ty)) := by
    simp [Instr.alloc, zeroValue, typeInfo, hi, hzv, newVar, newRow, hzc]
  simp only [Sem.run_bind, Sem.run_pure, hr, Result.andThen_ok]
  exact hK _ _ (h _ (Arr.new w ty [v]) ((Below.refl _ _).alloc (Nat.le_refl _) _))
/-- A slice literal of one struct or array, at a new block. -/
theorem bsG {t e : TypeId} {z : Value} {size bytes : Nat} {cs : List Value} (x : Operand)
    (T : SlTy P t e z size bytes) (hgd : Region.wanted o (yielded ops a.tmps) = true) (ho : o.op = .buildSlice t 1 #[(0, x)]) (hx : a.eval x = .agg cs.toArray) (hl : cs.length = size) (hs : size ≤ 65536)
    (h : ∀ w', Arr w' w.heap.size e cs → Below w.heap.size w w' → wpList P ops Q rest (a.put o.dst (.slice (some ⟨w.heap.size, 0, none⟩) 1 1)) w') : wpList P ops Q (o :: rest) a w :=
  bsAgg1 x T hgd ho hx (by rw [List.size_toArray]; exact hl) hs (h _ (Arr.new w e cs) ((Below.refl _ _).alloc (Nat.le_refl _) _))
/-- 'append(v, ys)': one element of several cells onto a row of the call's own; the block of the new row. -/
theorem appNB {t e : TypeId} {z : Value} {size bytes base n g : Nat} {v : Value} {xs ys : List Value} (s x : Operand) (T : SlTy P t e z size bytes) (hgd : Region.wanted o (yielded ops a.tmps) = true)
    (ho : o.op = .call { callee := .builtin .append, args := #[s, x], argTypes := #[t, t] })
    (hs : a.eval s = v) (hx : a.eval x = .slice (some ⟨g, 0, none⟩) 1 1)
    (hown : w.ownsRow base e size v n xs) (hA : Arr w g e ys) (hl : ys.length = size) (hb : Below base w0 w) (hbase : base ≤ w0.heap.size) (hu : ∀ u ∈ ys, u.oneCell' = true)
    (hn : n + 1 ≤ 70368744177664) (hby : (n + 1) * bytes ≤ 140737488355328)
    (h : ∀ v' w', w'.ownsRow base e size v' (n + 1) (xs ++ ys) → Below base w0 w' → w.grownBy w' v.ownBlock → SameOrNew v v' w.heap.size → wpList P ops Q rest (a.put o.dst v') w') :
    wpList P ops Q (o :: rest) a w := by
  obtain ⟨i, hi, hz0, hz1, hz2⟩ := info_parts T.inf
  have hsz : base ≤ w.heap.size := by have := hb.size; omega
  have hnews : ∀ j y, ys[j]? = some y → w.cell? ((⟨g, 0, none⟩ : Addr).add j) = some y := by
    intro j y hj
    rw [show (⟨g, 0, none⟩ : Addr).add j = ⟨g, j, none⟩ by unfold Addr.add; split <;> simp_all]
    exact hA.cell hj
  have hbl : ∀ k, v.ownBlock = some k → base ≤ k := fun k hk => (hown.lt k hk).1
  have hly : ys.length = 1 * size := by omega
  obtain ⟨v', w', hr, h2, h3, _⟩ := run_append_own (P := P) w base t o.type e i z size bytes T.und hi hz0 hz1 hz2 T.zs T.pos v n xs hown ⟨g, 0, none⟩ 1 1 ys hly hnews hu (by unfold maxLen; omega) hby hsz
  have hS : SameOrNew v v' w.heap.size := by
    rcases hown.2 with ⟨rfl, rfl⟩ | ⟨k, cap, cur, rfl, hbg, hg, hnc, hcm, hcs, htake⟩
    · have hr2 := run_append_nil (P := P) w t o.type e i z T.und hi hz0 ⟨g, 0, none⟩ 1 1 ys (by rw [hz1]; exact hly) hnews (by omega) (by omega) (by have hb := hby; simp only [Nat.zero_add] at hb; rw [hz2]; omega)
      rw [hr2] at hr
      injection hr with e1 e2
      subst e1
      exact Or.inr ⟨_, rfl, Nat.le_refl _⟩
    · by_cases hroom : n + 1 ≤ cap
      · have hr2 := run_append_room (P := P) w t o.type e i T.und hi k n cap cur hg ⟨g, 0, none⟩ 1 1 ys (by rw [hz1]; exact hly) hnews hu hroom (by rw [hz1, hcs]; have := Nat.mul_le_mul_right size hroom; rw [Nat.add_mul] at this; omega)
        rw [hr2] at hr
        injection hr with e1 e2
        subst e1
        exact Or.inl rfl
      · have hr2 := run_append_grow (P := P) w t o.type e i z T.und hi hz0 ⟨k, 0, none⟩ n cap xs (by rw [hz1]; exact hown.1) (hown.cells (g := k) rfl) ⟨g, 0, none⟩ 1 1 ys (by rw [hz1]; exact hly) hnews (by omega) (by omega) (growslice_fits (by omega) (by rw [hz2]; exact hby))
        rw [hr2] at hr
        injection hr with e1 e2
        subst e1
        exact Or.inr ⟨_, rfl, Nat.le_refl _⟩
  refine wpList_want hgd fun K hK => ?_
  unfold Oper.wp execOp
  simp only [ho, resolve, invoke, builtin, Sem.run_bind, Sem.run_pure, Result.andThen_ok, List.map_toArray, List.map_cons, List.map_nil, hs, hx, hr]
  exact hK _ _ (h v' w' h2 (hb.grown h3 hsz hbl) h3 hS)
end
end Go.Proofs.Ytkfijpghjjnpkaa
/-
  An operation of a drawn region that is not wanted, taken first. No statement is proved here.
-/
namespace Go.Proofs.Ytkfijpghjjnpkaa
open Go.RowKit
section
variable {P : Program} {w : World} {ops : Array Oper} {a : Act} {Q : Exit → Act → World → Prop} {S : World → Prop} {listed : Array Bool} {fuel : Nat}
theorem rgSkip {i : Nat} {o : Oper} (hi' : ops.toList[i]? = some o) (hm : mayFirst ops listed i = true) (hw : Region.wanted o (yielded ops a.tmps) = false)
    (hQ : ∀ c a w, Q (.panic c) (a.put o.dst undef) w → Q (.panic c) a w) (hS : S w)
    (h : wpAnyH P .any ops Q S fuel (listed.setIfInBounds i true) (a.put o.dst undef) w) : wpAnyH P .any ops Q S (fuel + 1) listed a w := by
  have hi : ops[i]? = some o := by rw [← hi']; simp
  simp only [mayFirst, Bool.and_eq_true] at hm
  exact wpAnyH_take hi hm.1.1 hm.1.2 hm.2 hQ (Or.inr ⟨hw, rfl⟩) hS h
end
end Go.Proofs.Ytkfijpghjjnpkaa
/-
  The cubes of a box, as a plain function. No program in sight, but for the cells.
-/
namespace Go.Proofs.Ytkfijpghjjnpkaa
open Go.RowKit
/-- f 0, f 1, .. one after the other. -/
def foldTo {α : Type} (f : Nat → α → α) : Nat → α → α
  | 0, a => a
  | n + 1, a => f n (foldTo f n a)
/-- A whole cube lies in the box. -/
def Bx.whole (b : Bx) (p : Pt) (l : Nat) : Prop := (p.In ∧ b.has p) ∧ ((p.far l).In ∧ b.has (p.far l))
instance (b : Bx) (p : Pt) (l : Nat) : Decidable (b.whole p l) := by unfold Bx.whole; infer_instance
/-- The cubes of a box in a cube. -/
def cubesL (b : Bx) : Nat → Pt → List Cube → List Cube
  | 0, p, out => if b.apart p (p.far 0) ∨ 4096 < out.length then out else out ++ [⟨p, 0⟩]
  | l + 1, p, out => if b.apart p (p.far (l + 1)) ∨ 4096 < out.length then out else if b.whole p (l + 1) then out ++ [⟨p, ((l + 1 : Nat) : Int)⟩] else foldTo (fun i o => cubesL b l (p.child l i) o) 8 out
theorem cubesL_out {b : Bx} {l : Nat} {p : Pt} {out : List Cube} (h : b.apart p (p.far l) ∨ 4096 < out.length) : cubesL b l p out = out := by
  cases l with
  | zero => show (if _ then _ else _) = _; rw [if_pos h]
  | succ m => show (if _ then _ else _) = _; rw [if_pos h]
theorem cubesL_in {b : Bx} {l : Nat} {p : Pt} {out : List Cube} (h : ¬ (b.apart p (p.far l) ∨ 4096 < out.length)) (hw : b.whole p l) : cubesL b l p out = out ++ [⟨p, (l : Int)⟩] := by
  cases l with
  | zero => show (if _ then _ else _) = _; rw [if_neg h]; rfl
  | succ m => show (if _ then _ else _) = _; rw [if_neg h, if_pos hw]
theorem cubesL_div {b : Bx} {m : Nat} {p : Pt} {out : List Cube} (h : ¬ (b.apart p (p.far (m + 1)) ∨ 4096 < out.length)) (hw : ¬ b.whole p (m + 1)) : cubesL b (m + 1) p out = foldTo (fun i o => cubesL b m (p.child m i) o) 8 out := by
  show (if _ then _ else _) = _
  rw [if_neg h, if_neg hw]
/-- A cube of the world, with its corner at its place. -/
def Pt.al (p : Pt) (l : Nat) : Prop := p.In ∧ ∀ k, k < 3 → p.nat k % 2 ^ l = 0
theorem al_far {p : Pt} {l : Nat} (h : p.al l) (hl : l ≤ 14) : (p.far l).In := by
  have hs : (2 : Nat) ^ 14 = 2 ^ l * 2 ^ (14 - l) := by rw [← Nat.pow_add]; congr 1; omega
  have key : ∀ c : Nat, c < 16384 → c % 2 ^ l = 0 → c + (2 ^ l - 1) < 16384 := fun c hc h0 => by
    have e := Nat.div_add_mod c (2 ^ l)
    rw [h0, Nat.add_zero] at e
    have hp := Nat.two_pow_pos l
    have h1 : c / 2 ^ l < 2 ^ (14 - l) := by
      rw [Nat.div_lt_iff_lt_mul hp, Nat.mul_comm, ← hs]; exact hc
    have h2 : 2 ^ l * (c / 2 ^ l + 1) ≤ 2 ^ l * 2 ^ (14 - l) := Nat.mul_le_mul_left _ h1
    rw [← hs, Nat.mul_add] at h2
    have : (2 : Nat) ^ 14 = 16384 := by decide
    omega
  have hp := Nat.two_pow_pos l
  have k0 := key _ (h.1.nat 0).2 (h.2 0 (by omega))
  have k1 := key _ (h.1.nat 1).2 (h.2 1 (by omega))
  have k2 := key _ (h.1.nat 2).2 (h.2 2 (by omega))
  have e0 : p.x = (p.nat 0 : Int) := (h.1.nat 0).1
  have e1 : p.y = (p.nat 1 : Int) := (h.1.nat 1).1
  have e2 : p.z = (p.nat 2 : Int) := (h.1.nat 2).1
  unfold Pt.In Pt.far
  simp only
  omega
theorem al_child {p : Pt} {l i : Nat} (h : p.al (l + 1)) (hl : l ≤ 13) (hi : i < 8) : (p.child l i).al l := by
  have hf := al_far h (by omega)
  have hp := Nat.two_pow_pos l
  have hd : (2 : Nat) ^ (l + 1) = 2 * 2 ^ l := by rw [Nat.pow_succ, Nat.mul_comm]
  have e0 : p.x = (p.nat 0 : Int) := (h.1.nat 0).1
  have e1 : p.y = (p.nat 1 : Int) := (h.1.nat 1).1
  have e2 : p.z = (p.nat 2 : Int) := (h.1.nat 2).1
  have m : ∀ c b : Nat, c % 2 ^ (l + 1) = 0 → (c + 2 ^ l * b) % 2 ^ l = 0 := fun c b h0 => by
    rw [Nat.add_mul_mod_self_left]
    rw [hd, Nat.mul_comm] at h0
    exact Nat.mod_eq_zero_of_dvd (Nat.dvd_trans ⟨2, rfl⟩ (Nat.dvd_of_mod_eq_zero h0))
  have s : ∀ b : Nat, b < 2 → 2 ^ l * b ≤ 2 ^ l := fun b hb => by
    have := Nat.mul_le_mul_left (2 ^ l) (by omega : b ≤ 1)
    omega
  have s0 := s (i % 2) (Nat.mod_lt _ (by decide))
  have s1 := s (i / 2 % 2) (Nat.mod_lt _ (by decide))
  have s2 := s (i / 4 % 2) (Nat.mod_lt _ (by decide))
  refine ⟨?_, ?_⟩
  · unfold Pt.In Pt.far at hf
    unfold Pt.In Pt.child
    simp only at hf ⊢
    omega
  · intro k hk
    rcases (by omega : k = 0 ∨ k = 1 ∨ k = 2) with rfl | rfl | rfl
    · have := m (p.nat 0) (i % 2) (h.2 0 (by omega))
      have e : (p.child l i).nat 0 = p.nat 0 + 2 ^ l * (i % 2) := by
        show (p.x + ((2 ^ l * (i % 2) : Nat) : Int)).toNat = _
        omega
      rw [e]; exact this
    · have := m (p.nat 1) (i / 2 % 2) (h.2 1 (by omega))
      have e : (p.child l i).nat 1 = p.nat 1 + 2 ^ l * (i / 2 % 2) := by
        show (p.y + ((2 ^ l * (i / 2 % 2) : Nat) : Int)).toNat = _
        omega
      rw [e]; exact this
    · have := m (p.nat 2) (i / 4 % 2) (h.2 2 (by omega))
      have e : (p.child l i).nat 2 = p.nat 2 + 2 ^ l * (i / 4 % 2) := by
        show (p.z + ((2 ^ l * (i / 4 % 2) : Nat) : Int)).toNat = _
        omega
      rw [e]; exact this
theorem al_top : p0.al 14 := ⟨by decide, fun k hk => by rcases (by omega : k = 0 ∨ k = 1 ∨ k = 2) with rfl | rfl | rfl <;> rfl⟩
/-- A cell that is not apart is whole. -/
theorem whole_zero {b : Bx} {p : Pt} (h : p.In) (ha : ¬ b.apart p (p.far 0)) : b.whole p 0 := by
  have e : p.far 0 = p := by
    obtain ⟨x, y, z⟩ := p
    simp [Pt.far]
  unfold Bx.whole
  rw [e] at ha ⊢
  unfold Bx.apart at ha
  have hh : b.has p := by unfold Bx.has; omega
  exact ⟨⟨h, hh⟩, h, hh⟩
theorem foldTo_le {α : Type} (f : Nat → List α → List α) (N : Nat) (h : ∀ i (o : List α), o.length ≤ N → (f i o).length ≤ N) : ∀ (n : Nat) (o : List α), o.length ≤ N → (foldTo f n o).length ≤ N
  | 0, _, ho => ho
  | n + 1, o, ho => h n _ (foldTo_le f N h n o ho)
theorem cubesL_le (b : Bx) : ∀ (l : Nat) (p : Pt) (out : List Cube), out.length ≤ 4097 → (cubesL b l p out).length ≤ 4097
  | 0, p, out, h => by
    unfold cubesL
    split
    · exact h
    · rw [List.length_append, List.length_singleton]; omega
  | l + 1, p, out, h => by
    unfold cubesL
    split
    · exact h
    · split
      · rw [List.length_append, List.length_singleton]; omega
      · exact foldTo_le _ 4097 (fun i o ho => cubesL_le b l _ o ho) 8 out h
/-- The cells of a list of cubes. -/
def cus (l : List Cube) : List Value := l.flatMap ccs
theorem cus_append (a b : List Cube) : cus (a ++ b) = cus a ++ cus b := by unfold cus; rw [List.flatMap_append]
theorem cus_one (c : Cube) : cus [c] = ccs c := by simp [cus]
end Go.Proofs.Ytkfijpghjjnpkaa
/-
  The reference's cubes of a box in a cube. No statement is proved here.
-/
namespace Go.Proofs.Ytkfijpghjjnpkaa
open Go.RowKit
set_option linter.unusedVariables false
set_option linter.unusedSimpArgs false

theorem Try.ag_bx : AgTy Try.prog 37 (bxs ⟨p0, p0⟩).toArray 6 := ⟨by kernel_rfl, by kernel_rfl, by kernel_rfl⟩
theorem Try.sl_cu : SlTy Try.prog 38 27 (.agg (ccs c0).toArray) 4 32 := ⟨by kernel_rfl, by kernel_rfl, by rfl, by decide⟩
theorem RowKept.refl (w : World) (v : Value) : RowKept w w v := fun _ _ _ => rfl
theorem RowKept.of_below {w w' : World} (h : Below w.heap.size w w') (v : Value) : RowKept w w' v := fun b hb _ => h.block b hb
theorem RowKept.trans {w w' w'' : World} {v v' : Value} (h : RowKept w w' v) (hs : w.heap.size ≤ w'.heap.size) (hS : SameOrNew v v' w.heap.size) (k : RowKept w' w'' v') : RowKept w w'' v := fun b hb hne => by
  refine (k b (Nat.lt_of_lt_of_le hb hs) (fun e => ?_)).trans (h b hb hne)
  rcases hS with e2 | ⟨g, e2, h3⟩
  · exact hne (e.trans e2)
  · rw [e2] at e
    injection e with e
    omega
theorem RowKept.arr {w w' : World} {v : Value} (h : RowKept w w' v) {g : Nat} {t : TypeId} {cs : List Value} (hA : Arr w g t cs) (hne : some g ≠ v.ownBlock) : Arr w' g t cs := (h g hA.lt hne).trans hA
theorem SameOrNew.refl (v : Value) (N : Nat) : SameOrNew v v N := Or.inl rfl
/-- A row's block lies neither at g nor at any block of the call's own until now. -/
theorem SameOrNew.ne {v v' : Value} {N g : Nat} (h : SameOrNew v v' N) (hv : some g ≠ v.ownBlock) (hg : g < N) : some g ≠ v'.ownBlock := fun e => by
  rcases h with e2 | ⟨k, e2, h3⟩
  · exact hv (e.trans e2)
  · rw [e2] at e
    injection e with e
    omega
theorem own_lt_ne {w : World} {base size n g : Nat} {e : TypeId} {v : Value} {xs : List Value} (h : w.ownsRow base e size v n xs) (hg : w.heap.size ≤ g) : some g ≠ v.ownBlock := fun e => by
  have := (h.lt g e.symm).2
  omega
theorem SameOrNew.less {v v' : Value} {N M : Nat} (h : SameOrNew v v' N) (hM : M ≤ N) : SameOrNew v v' M := by
  rcases h with h | ⟨g, h, hg⟩
  · exact Or.inl h
  · exact Or.inr ⟨g, h, by omega⟩
theorem drewB (w : World) : Below w.heap.size w w.drew := (Below.refl _ _).drew
theorem rk_drew {w w' : World} {v : Value} (h : RowKept w w' v) : RowKept w w'.drew v := h
/-- Cubes are returned. -/
def RetCus (w0 : World) (base : Nat) (w : World) (v : Value) (out : List Cube) (e : Ending) (w' : World) : Prop :=
  ∃ v', e = .returned v' ∧ w'.ownsRow base 27 4 v' out.length (cus out) ∧ Below base w0 w' ∧ RowKept w w' v ∧ SameOrNew v v' w.heap.size ∧ w.heap.size ≤ w'.heap.size
def CubesAt (b : Bx) (l : Nat) : Prop := ∀ (p : Pt) (w0 w : World) (base : Nat) (v : Value) (out : List Cube), p.al l → out.length ≤ 4097 → base ≤ w0.heap.size → w.ownsRow base 27 4 v out.length (cus out) → Below base w0 w →
  Calls Try.prog 43 #[v, .agg (bxs b).toArray, .agg (ccs ⟨p, (l : Int)⟩).toArray] w (RetCus w0 base w v (cubesL b l p out))
theorem ret_same {w0 w w' : World} {base : Nat} {v : Value} {out : List Cube} (hown : w.ownsRow base 27 4 v out.length (cus out)) (hb0 : Below base w0 w) (hbs : base ≤ w.heap.size) (hb : Below w.heap.size w w') : RetCus w0 base w v out (.returned v) w' :=
  ⟨v, rfl, ownsRow_below hown hb (Nat.le_refl _), hb0.trans (hb.mono hbs), RowKept.of_below hb v, SameOrNew.refl v _, hb.size⟩

theorem ccs_at (c : Cube) {j : Nat} {u : Value} (h : (pcs c.at_)[j]? = some u) : (ccs c)[0 + j]? = some u := by
  have hl := (List.getElem?_eq_some_iff.1 h).1
  unfold ccs
  rw [Nat.zero_add, List.getElem?_append_left hl]
  exact h
set_option maxRecDepth 100000 in
set_option maxHeartbeats 4000000 in
theorem refCubes_step (b : Bx) (l : Nat) (hl : l ≤ 14) (IH : ∀ m, l = m + 1 → CubesAt b m) : CubesAt b l := by
  intro p w0 w base v out hp hout hbase hown hb0
  have HAP := Lib.hid (refApart_any b p l hp.1 hl)
  have HF := Lib.hid (refFar_any p l hp.1 hl)
  have HC1 := Lib.hid (refCell_any b p)
  have HC2 := Lib.hid (refCell_any b (p.far l))
  have HBS := Lib.hid (Nat.le_trans hbase hb0.size)
  have HW0 := Lib.hid (fun (e : l = 0) (h : ¬ b.apart p (p.far l)) => show b.whole p l by subst e; exact whole_zero hp.1 h)
  have HAL := Lib.hid hp
  have HOWN := Lib.hid hown
  have HIH := Lib.hid IH
  clear IH hp
  obtain ⟨A, c, rfl, hrd⟩ := Rd.of_own hown
  by_cases hap : b.apart p (p.far l)
  · have HR := Lib.hid (show cubesL b l p out = out from cubesL_out (Or.inl hap))
    rw [decide_eq_true hap] at HAP
    go_enter Try.func43, Try.ntmps43
    go_wp2_with (with_reducible refine bxArr (cs := bxs b) (.tmp 1) (wn rfl) rfl rfl ?_)
    intro w1 h4 b1
    go_wp2_with (with_reducible refine bxArr (cs := ccs ⟨p, (l : Int)⟩) (.tmp 2) (wn rfl) rfl rfl ?_)
    intro w2 h5 b2
    have n4 := h4.lt
    have ls := b1.size
    have n5 : w1.heap.size < w2.heap.size := h5.lt
    replace h4 := h4.below b2 n4
    have hb := b1.trans (b2.mono ls)
    clear b1 b2
    generalize w1.heap.size = g5 at *
    go_wp2_with (first | (with_reducible refine ldArr (.tmp 4) Try.ag_bx (wn rfl) rfl rfl rfl h4 ?_) | (with_reducible refine ldArr (.tmp 5) Try.ag_cu (wn rfl) rfl rfl rfl h5 ?_))
    refine (HAP.out _).mono ?_
    rintro e w3 ⟨rfl, b3⟩
    replace h4 := h4.below b3 h4.lt
    replace h5 := h5.below b3 h5.lt
    replace hb := hb.trans (b3.mono hb.size)
    clear b3
    go_wp2_with fail
    go_ret
    rw [HR.out]
    exact ret_same hown hb0 HBS.out hb
  · rw [decide_eq_false hap] at HAP
    by_cases hlen : 4096 < out.length
    · have HR := Lib.hid (show cubesL b l p out = out from cubesL_out (Or.inr hlen))
      go_enter Try.func43, Try.ntmps43
      go_wp2_with (with_reducible refine bxArr (cs := bxs b) (.tmp 1) (wn rfl) rfl rfl ?_)
      intro w1 h4 b1
      go_wp2_with (with_reducible refine bxArr (cs := ccs ⟨p, (l : Int)⟩) (.tmp 2) (wn rfl) rfl rfl ?_)
      intro w2 h5 b2
      have n4 := h4.lt
      have ls := b1.size
      have n5 : w1.heap.size < w2.heap.size := h5.lt
      replace h4 := h4.below b2 n4
      have hb := b1.trans (b2.mono ls)
      clear b1 b2
      generalize w1.heap.size = g5 at *
      go_wp2_with (first | (with_reducible refine ldArr (.tmp 4) Try.ag_bx (wn rfl) rfl rfl rfl h4 ?_) | (with_reducible refine ldArr (.tmp 5) Try.ag_cu (wn rfl) rfl rfl rfl h5 ?_))
      refine (HAP.out _).mono ?_
      rintro e w3 ⟨rfl, b3⟩
      replace h4 := h4.below b3 h4.lt
      replace h5 := h5.below b3 h5.lt
      replace hb := hb.trans (b3.mono hb.size)
      clear b3
      go_wp2_with fail
      go_ret
      rw [HR.out]
      exact ret_same hown hb0 HBS.out hb
    · by_cases hc1 : p.In ∧ b.has p
      · rw [decide_eq_true hc1] at HC1
        by_cases hc2 : (p.far l).In ∧ b.has (p.far l)
        · rw [decide_eq_true hc2] at HC2
          have HR := Lib.hid (show cubesL b l p out = out ++ [⟨p, (l : Int)⟩] from cubesL_in (by intro h; rcases h with h | h; exact hap h; exact hlen h) ⟨hc1, hc2⟩)
          clear hc1 hc2
          go_enter Try.func43, Try.ntmps43
          go_wp2_with (with_reducible refine bxArr (cs := bxs b) (.tmp 1) (wn rfl) rfl rfl ?_)
          intro w1 h4 b1
          go_wp2_with (with_reducible refine bxArr (cs := ccs ⟨p, (l : Int)⟩) (.tmp 2) (wn rfl) rfl rfl ?_)
          intro w2 h5 b2
          have n4 := h4.lt
          have ls := b1.size
          have n5 : w1.heap.size < w2.heap.size := h5.lt
          replace h4 := h4.below b2 n4
          have hb := b1.trans (b2.mono ls)
          clear b1 b2
          generalize w1.heap.size = g5 at *
          go_wp2_with (first | (with_reducible refine ldArr (.tmp 4) Try.ag_bx (wn rfl) rfl rfl rfl h4 ?_) | (with_reducible refine ldArr (.tmp 5) Try.ag_cu (wn rfl) rfl rfl rfl h5 ?_))
          refine (HAP.out _).mono ?_
          rintro e w3 ⟨rfl, b3⟩
          replace h4 := h4.below b3 h4.lt
          replace h5 := h5.below b3 h5.lt
          replace hb := hb.trans (b3.mono hb.size)
          clear b3
          go_wp2_with fail
          replace h4 := h4.drew
          replace h5 := h5.drew
          replace hb := hb.drew
          refine rgStart (fun w' => Arr w' w.heap.size 37 (bxs b) ∧ Arr w' g5 27 (ccs ⟨p, (l : Int)⟩)) (by kernel_rfl) ?_
          have hq : (fun w' : World => Arr w' w.heap.size 37 (bxs b) ∧ Arr w' g5 27 (ccs ⟨p, (l : Int)⟩)) _ := ⟨h4, h5⟩
          clear h4 h5
          generalize World.drew _ = wd at *
          refine rgLoad (S := fun w' => Arr w' w.heap.size 37 (bxs b) ∧ Arr w' g5 27 (ccs ⟨p, (l : Int)⟩)) (i := 0) (b := w.heap.size) (off := 0) (.tmp 4) (bxs b) Try.ag_bx rfl (by kernel_rfl) (by kernel_rfl) (fun _ _ _ h => h) rfl (by kernel_rfl) rfl (fun w h j u hu => by rw [Nat.zero_add]; exact (h.1).cell hu) hq ?_
          refine rgTake (S := fun w' => Arr w' w.heap.size 37 (bxs b) ∧ Arr w' g5 27 (ccs ⟨p, (l : Int)⟩)) (i := 1) (v := .pointer (some ⟨g5, 0, none⟩)) rfl (by kernel_rfl) (by kernel_rfl) (fun _ _ _ h => h) (fun w _ => by kernel_rfl) hq ?_
          refine rgTake (S := fun w' => Arr w' w.heap.size 37 (bxs b) ∧ Arr w' g5 27 (ccs ⟨p, (l : Int)⟩)) (i := 2) (v := .agg (pcs p).toArray) rfl (by kernel_rfl) (by kernel_rfl) (fun _ _ _ h => h) (fun w h => ldAgRun (.tmp 21) Try.ag_pt rfl (by kernel_rfl) rfl (fun j u hu => h.2.cell (i := 0 + j) (ccs_at ⟨p, (l : Int)⟩ hu))) hq ?_
          try simp only [Act.put, List.setIfInBounds_toArray, List.set_cons_succ, List.set_cons_zero]
          refine rgNext (S := fun w' => Arr w' w.heap.size 37 (bxs b) ∧ Arr w' g5 27 (ccs ⟨p, (l : Int)⟩)) (i := 3) (by kernel_rfl) rfl ?_
          refine callOp 33 [.agg (bxs b).toArray, .agg (pcs p).toArray] [] [] (by kernel_rfl) (by kernel_rfl) rfl rfl rfl ?_
          refine (HC1.out _).mono ?_
          rintro e wz ⟨rfl, bz⟩
          replace hq := And.intro (hq.1.below bz hq.1.lt) (hq.2.below bz hq.2.lt)
          replace hb := hb.trans (bz.mono hb.size)
          clear bz
          refine ⟨_, rfl, ?_⟩
          refine rgBack hq ?_
          refine rgTake (S := fun w' => Arr w' w.heap.size 37 (bxs b) ∧ Arr w' g5 27 (ccs ⟨p, (l : Int)⟩)) (i := 4) (v := .bool true) rfl (by kernel_rfl) (by kernel_rfl) (fun _ _ _ h => h) (fun w _ => by kernel_rfl) hq ?_
          refine rgLoad (S := fun w' => Arr w' w.heap.size 37 (bxs b) ∧ Arr w' g5 27 (ccs ⟨p, (l : Int)⟩)) (i := 5) (b := w.heap.size) (off := 0) (.tmp 4) (bxs b) Try.ag_bx rfl (by kernel_rfl) (by kernel_rfl) (fun _ _ _ h => h) rfl (by kernel_rfl) rfl (fun w h j u hu => by rw [Nat.zero_add]; exact (h.1).cell hu) hq ?_
          refine rgLoad (S := fun w' => Arr w' w.heap.size 37 (bxs b) ∧ Arr w' g5 27 (ccs ⟨p, (l : Int)⟩)) (i := 6) (b := g5) (off := 0) (.tmp 5) (ccs ⟨p, (l : Int)⟩) Try.ag_cu rfl (by kernel_rfl) (by kernel_rfl) (fun _ _ _ h => h) rfl (by kernel_rfl) rfl (fun w h j u hu => by rw [Nat.zero_add]; exact (h.2).cell hu) hq ?_
          try simp only [Act.put, List.setIfInBounds_toArray, List.set_cons_succ, List.set_cons_zero]
          refine rgNext (S := fun w' => Arr w' w.heap.size 37 (bxs b) ∧ Arr w' g5 27 (ccs ⟨p, (l : Int)⟩)) (i := 7) (by kernel_rfl) rfl ?_
          refine callOp 50 [.agg (ccs ⟨p, (l : Int)⟩).toArray] [] [] (by kernel_rfl) (by kernel_rfl) rfl rfl rfl ?_
          refine (HF.out _).mono ?_
          rintro e wz ⟨rfl, bz⟩
          replace hq := And.intro (hq.1.below bz hq.1.lt) (hq.2.below bz hq.2.lt)
          replace hb := hb.trans (bz.mono hb.size)
          clear bz
          refine ⟨_, rfl, ?_⟩
          refine rgBack hq ?_
          try simp only [Act.put, List.setIfInBounds_toArray, List.set_cons_succ, List.set_cons_zero]
          refine rgNext (S := fun w' => Arr w' w.heap.size 37 (bxs b) ∧ Arr w' g5 27 (ccs ⟨p, (l : Int)⟩)) (i := 8) (by kernel_rfl) rfl ?_
          refine callOp 33 [.agg (bxs b).toArray, .agg (pcs (p.far l)).toArray] [] [] (by kernel_rfl) (by kernel_rfl) rfl rfl rfl ?_
          refine (HC2.out _).mono ?_
          rintro e wz ⟨rfl, bz⟩
          replace hq := And.intro (hq.1.below bz hq.1.lt) (hq.2.below bz hq.2.lt)
          replace hb := hb.trans (bz.mono hb.size)
          clear bz
          refine ⟨_, rfl, ?_⟩
          refine rgBack hq ?_
          try simp only [Act.put, List.setIfInBounds_toArray, List.set_cons_succ, List.set_cons_zero]
          refine rgTake (S := fun w' => Arr w' w.heap.size 37 (bxs b) ∧ Arr w' g5 27 (ccs ⟨p, (l : Int)⟩)) (i := 9) (v := .bool true) rfl (by kernel_rfl) (by kernel_rfl) (fun _ _ _ h => h) (fun w _ => by kernel_rfl) hq ?_
          refine rgTake (S := fun w' => Arr w' w.heap.size 37 (bxs b) ∧ Arr w' g5 27 (ccs ⟨p, (l : Int)⟩)) (i := 10) (v := .bool true) rfl (by kernel_rfl) (by kernel_rfl) (fun _ _ _ h => h) (fun w _ => by kernel_rfl) hq ?_
          refine rgDone (by kernel_rfl) ?_
          try simp only [Act.put, List.setIfInBounds_toArray, List.set_cons_succ, List.set_cons_zero]
          obtain ⟨h4, h5⟩ := hq
          go_wp2_with (first | (with_reducible refine ldArr (.tmp 5) Try.ag_cu (wn rfl) rfl rfl rfl h5 ?_) | (with_reducible refine bsG (.tmp 32) Try.sl_cu (wn rfl) rfl rfl rfl (by decide) ?_))
          intro w6 h6 b6
          have hs3 := hb.size
          replace hb := hb.trans (b6.mono hb.size)
          have hown6 := ownsRow_below hown hb (Nat.le_refl _)
          have hb06 := hb0.trans (hb.mono HBS.out)
          generalize wz.heap.size = g6 at *
          go_wp2_with (at_builtin; with_reducible refine appNB (.tmp 31) (.tmp 33) Try.sl_cu (wn rfl) rfl rfl rfl hown6 h6 rfl hb06 hbase (ccs_one _) (by omega) (by omega) ?_)
          intro v' w7 o7 b7 k7 s7
          go_wp2_with fail
          go_ret
          refine ⟨v', rfl, ?_, b7, ?_, ?_, ?_⟩
          · rw [HR.out]; exact ownsRow_count o7 (by simp) (by rw [cus_append, cus_one])
          · exact fun k hk hne => (k7.block k (Nat.lt_of_lt_of_le hk hb.size) hne).trans (hb.block k hk)
          · exact s7.less hb.size
          · exact Nat.le_trans hb.size k7.size
        · rw [decide_eq_false hc2] at HC2
          have hnw : ¬ b.whole p l := fun h => hc2 h.2
          have hc2 := ()
          have hl0 : l ≠ 0 := fun e => hnw (HW0.out e hap)
          obtain ⟨m, rfl⟩ : ∃ m, l = m + 1 := ⟨l - 1, by omega⟩
          have HR := Lib.hid (show cubesL b (m + 1) p out = foldTo (fun i o => cubesL b m (p.child m i) o) 8 out from cubesL_div (by intro h; rcases h with h | h; exact hap h; exact hlen h) hnw)
          have HRec := Lib.hid (HIH.out m rfl)
          have HCH := Lib.hid (fun (i : Nat) (hi : i < 8) => refChild_any p m i HAL.out.1 (by omega) hi)
          have HALC := Lib.hid (fun (i : Nat) (hi : i < 8) => al_child HAL.out (by omega) hi)
          have HLE := Lib.hid (fun (i : Nat) => foldTo_le (fun i o => cubesL b m (p.child m i) o) 4097 (fun i o ho => cubesL_le b m _ o ho) i out hout)
          clear hnw hl0
          go_enter Try.func43, Try.ntmps43
          go_wp2_with (with_reducible refine bxArr (cs := bxs b) (.tmp 1) (wn rfl) rfl rfl ?_)
          intro w1 h4 b1
          go_wp2_with (with_reducible refine bxArr (cs := ccs ⟨p, ((m + 1 : Nat) : Int)⟩) (.tmp 2) (wn rfl) rfl rfl ?_)
          intro w2 h5 b2
          have n4 := h4.lt
          have ls := b1.size
          have n5 : w1.heap.size < w2.heap.size := h5.lt
          replace h4 := h4.below b2 n4
          have hb := b1.trans (b2.mono ls)
          clear b1 b2
          generalize w1.heap.size = g5 at *
          go_wp2_with (first | (with_reducible refine ldArr (.tmp 4) Try.ag_bx (wn rfl) rfl rfl rfl h4 ?_) | (with_reducible refine ldArr (.tmp 5) Try.ag_cu (wn rfl) rfl rfl rfl h5 ?_))
          refine (HAP.out _).mono ?_
          rintro e w3 ⟨rfl, b3⟩
          replace h4 := h4.below b3 h4.lt
          replace h5 := h5.below b3 h5.lt
          replace hb := hb.trans (b3.mono hb.size)
          clear b3
          go_wp2_with fail
          replace h4 := h4.drew
          replace h5 := h5.drew
          replace hb := hb.drew
          refine rgStart (fun w' => Arr w' w.heap.size 37 (bxs b) ∧ Arr w' g5 27 (ccs ⟨p, ((m + 1 : Nat) : Int)⟩)) (by kernel_rfl) ?_
          have hq : (fun w' : World => Arr w' w.heap.size 37 (bxs b) ∧ Arr w' g5 27 (ccs ⟨p, ((m + 1 : Nat) : Int)⟩)) _ := ⟨h4, h5⟩
          clear h4 h5
          generalize World.drew _ = wd at *
          refine rgLoad (S := fun w' => Arr w' w.heap.size 37 (bxs b) ∧ Arr w' g5 27 (ccs ⟨p, ((m + 1 : Nat) : Int)⟩)) (i := 0) (b := w.heap.size) (off := 0) (.tmp 4) (bxs b) Try.ag_bx rfl (by kernel_rfl) (by kernel_rfl) (fun _ _ _ h => h) rfl (by kernel_rfl) rfl (fun w h j u hu => by rw [Nat.zero_add]; exact (h.1).cell hu) hq ?_
          refine rgTake (S := fun w' => Arr w' w.heap.size 37 (bxs b) ∧ Arr w' g5 27 (ccs ⟨p, ((m + 1 : Nat) : Int)⟩)) (i := 1) (v := .pointer (some ⟨g5, 0, none⟩)) rfl (by kernel_rfl) (by kernel_rfl) (fun _ _ _ h => h) (fun w _ => by kernel_rfl) hq ?_
          refine rgTake (S := fun w' => Arr w' w.heap.size 37 (bxs b) ∧ Arr w' g5 27 (ccs ⟨p, ((m + 1 : Nat) : Int)⟩)) (i := 2) (v := .agg (pcs p).toArray) rfl (by kernel_rfl) (by kernel_rfl) (fun _ _ _ h => h) (fun w h => ldAgRun (.tmp 21) Try.ag_pt rfl (by kernel_rfl) rfl (fun j u hu => h.2.cell (i := 0 + j) (ccs_at ⟨p, ((m + 1 : Nat) : Int)⟩ hu))) hq ?_
          try simp only [Act.put, List.setIfInBounds_toArray, List.set_cons_succ, List.set_cons_zero]
          refine rgNext (S := fun w' => Arr w' w.heap.size 37 (bxs b) ∧ Arr w' g5 27 (ccs ⟨p, ((m + 1 : Nat) : Int)⟩)) (i := 3) (by kernel_rfl) rfl ?_
          refine callOp 33 [.agg (bxs b).toArray, .agg (pcs p).toArray] [] [] (by kernel_rfl) (by kernel_rfl) rfl rfl rfl ?_
          refine (HC1.out _).mono ?_
          rintro e wz ⟨rfl, bz⟩
          replace hq := And.intro (hq.1.below bz hq.1.lt) (hq.2.below bz hq.2.lt)
          replace hb := hb.trans (bz.mono hb.size)
          clear bz
          refine ⟨_, rfl, ?_⟩
          refine rgBack hq ?_
          refine rgTake (S := fun w' => Arr w' w.heap.size 37 (bxs b) ∧ Arr w' g5 27 (ccs ⟨p, ((m + 1 : Nat) : Int)⟩)) (i := 4) (v := .bool true) rfl (by kernel_rfl) (by kernel_rfl) (fun _ _ _ h => h) (fun w _ => by kernel_rfl) hq ?_
          refine rgLoad (S := fun w' => Arr w' w.heap.size 37 (bxs b) ∧ Arr w' g5 27 (ccs ⟨p, ((m + 1 : Nat) : Int)⟩)) (i := 5) (b := w.heap.size) (off := 0) (.tmp 4) (bxs b) Try.ag_bx rfl (by kernel_rfl) (by kernel_rfl) (fun _ _ _ h => h) rfl (by kernel_rfl) rfl (fun w h j u hu => by rw [Nat.zero_add]; exact (h.1).cell hu) hq ?_
          refine rgLoad (S := fun w' => Arr w' w.heap.size 37 (bxs b) ∧ Arr w' g5 27 (ccs ⟨p, ((m + 1 : Nat) : Int)⟩)) (i := 6) (b := g5) (off := 0) (.tmp 5) (ccs ⟨p, ((m + 1 : Nat) : Int)⟩) Try.ag_cu rfl (by kernel_rfl) (by kernel_rfl) (fun _ _ _ h => h) rfl (by kernel_rfl) rfl (fun w h j u hu => by rw [Nat.zero_add]; exact (h.2).cell hu) hq ?_
          try simp only [Act.put, List.setIfInBounds_toArray, List.set_cons_succ, List.set_cons_zero]
          refine rgNext (S := fun w' => Arr w' w.heap.size 37 (bxs b) ∧ Arr w' g5 27 (ccs ⟨p, ((m + 1 : Nat) : Int)⟩)) (i := 7) (by kernel_rfl) rfl ?_
          refine callOp 50 [.agg (ccs ⟨p, ((m + 1 : Nat) : Int)⟩).toArray] [] [] (by kernel_rfl) (by kernel_rfl) rfl rfl rfl ?_
          refine (HF.out _).mono ?_
          rintro e wz ⟨rfl, bz⟩
          replace hq := And.intro (hq.1.below bz hq.1.lt) (hq.2.below bz hq.2.lt)
          replace hb := hb.trans (bz.mono hb.size)
          clear bz
          refine ⟨_, rfl, ?_⟩
          refine rgBack hq ?_
          try simp only [Act.put, List.setIfInBounds_toArray, List.set_cons_succ, List.set_cons_zero]
          refine rgNext (S := fun w' => Arr w' w.heap.size 37 (bxs b) ∧ Arr w' g5 27 (ccs ⟨p, ((m + 1 : Nat) : Int)⟩)) (i := 8) (by kernel_rfl) rfl ?_
          refine callOp 33 [.agg (bxs b).toArray, .agg (pcs (p.far (m + 1))).toArray] [] [] (by kernel_rfl) (by kernel_rfl) rfl rfl rfl ?_
          refine (HC2.out _).mono ?_
          rintro e wz ⟨rfl, bz⟩
          replace hq := And.intro (hq.1.below bz hq.1.lt) (hq.2.below bz hq.2.lt)
          replace hb := hb.trans (bz.mono hb.size)
          clear bz
          refine ⟨_, rfl, ?_⟩
          refine rgBack hq ?_
          try simp only [Act.put, List.setIfInBounds_toArray, List.set_cons_succ, List.set_cons_zero]
          refine rgTake (S := fun w' => Arr w' w.heap.size 37 (bxs b) ∧ Arr w' g5 27 (ccs ⟨p, ((m + 1 : Nat) : Int)⟩)) (i := 9) (v := .bool false) rfl (by kernel_rfl) (by kernel_rfl) (fun _ _ _ h => h) (fun w _ => by kernel_rfl) hq ?_
          refine rgTake (S := fun w' => Arr w' w.heap.size 37 (bxs b) ∧ Arr w' g5 27 (ccs ⟨p, ((m + 1 : Nat) : Int)⟩)) (i := 10) (v := .bool false) rfl (by kernel_rfl) (by kernel_rfl) (fun _ _ _ h => h) (fun w _ => by kernel_rfl) hq ?_
          refine rgDone (by kernel_rfl) ?_
          try simp only [Act.put, List.setIfInBounds_toArray, List.set_cons_succ, List.set_cons_zero]
          obtain ⟨h4, h5⟩ := hq
          have n6 := h5.lt
          replace hb0 := hb0.trans (hb.mono HBS.out)
          have hS0 := SameOrNew.refl (Value.slice A out.length c) w.heap.size
          have hK0 := RowKept.of_below hb (.slice A out.length c)
          have hsz := hb.size
          replace hown := ownsRow_below hown hb (Nat.le_refl _)
          have hn4 : some w.heap.size ≠ (Value.slice A out.length c).ownBlock := own_lt_ne HOWN.out (Nat.le_refl _)
          have hn5 : some g5 ≠ (Value.slice A out.length c).ownBlock := own_lt_ne HOWN.out ls
          clear hb hrd hlen hap
          go_wp2_with fail
          go_loopw [9, 0] (fun kk vv wr => ∃ (k : Nat) (u : Value), u = vv ∧ k ≤ 8 ∧ kk = .int .i64 (k : Int) ∧ wr.ownsRow base 27 4 vv (foldTo (fun i o => cubesL b m (p.child m i) o) k out).length (cus (foldTo (fun i o => cubesL b m (p.child m i) o) k out)) ∧ Below base w0 wr ∧ RowKept w wr (.slice A out.length c) ∧ SameOrNew (.slice A out.length c) vv w.heap.size ∧ w.heap.size ≤ wr.heap.size ∧ Arr wr w.heap.size 37 (bxs b) ∧ Arr wr g5 27 (ccs ⟨p, ((m + 1 : Nat) : Int)⟩) ∧ some w.heap.size ≠ vv.ownBlock ∧ some g5 ≠ vv.ownBlock) (fun kk _ _ => 8 - (intOf kk).toNat)
          case atStart => exact ⟨0, _, rfl, by omega, rfl, hown, hb0, hK0, hS0, hsz, h4, h5, hn4, hn5⟩
          case round =>
            clear hown hb0 hK0 hS0 hsz h4 h5 hn4 hn5 n6
            obtain ⟨k, vv, rfl, hk, rfl, hown, hb0, hK0, hS0, hsz, h4, h5, hn4, hn5⟩ := hrel
            by_cases hlt : k < 8
            · go_wp2_with fail
              have hfl := HLE.out k
              have HFS := Lib.hid (show foldTo (fun i o => cubesL b m (p.child m i) o) (k + 1) out = cubesL b m (p.child m k) (foldTo (fun i o => cubesL b m (p.child m i) o) k out) from rfl)
              generalize foldTo (fun i o => cubesL b m (p.child m i) o) k out = ok at *
              replace h4 := h4.drew
              replace h5 := h5.drew
              refine rgStart (fun w' => Arr w' w.heap.size 37 (bxs b) ∧ Arr w' g5 27 (ccs ⟨p, ((m + 1 : Nat) : Int)⟩)) (by kernel_rfl) ?_
              have hq : (fun w' : World => Arr w' w.heap.size 37 (bxs b) ∧ Arr w' g5 27 (ccs ⟨p, ((m + 1 : Nat) : Int)⟩)) _ := ⟨h4, h5⟩
              replace hown := ownsRow_below hown (drewB wr) (Nat.le_refl _)
              replace hb0 := hb0.drew
              replace hK0 := rk_drew hK0
              replace hsz := (show w.heap.size ≤ wr.drew.heap.size from hsz)
              clear h4 h5
              generalize wr.drew = wd at *
              refine rgTake (S := fun w' => Arr w' w.heap.size 37 (bxs b) ∧ Arr w' g5 27 (ccs ⟨p, ((m + 1 : Nat) : Int)⟩)) (i := 0) (v := vv) rfl (by kernel_rfl) (by kernel_rfl) (fun _ _ _ h => h) (fun w _ => by kernel_rfl) hq ?_
              refine rgLoad (S := fun w' => Arr w' w.heap.size 37 (bxs b) ∧ Arr w' g5 27 (ccs ⟨p, ((m + 1 : Nat) : Int)⟩)) (i := 1) (b := w.heap.size) (off := 0) (.tmp 4) (bxs b) Try.ag_bx rfl (by kernel_rfl) (by kernel_rfl) (fun _ _ _ h => h) rfl (by kernel_rfl) rfl (fun w h j u hu => by rw [Nat.zero_add]; exact (h.1).cell hu) hq ?_
              refine rgLoad (S := fun w' => Arr w' w.heap.size 37 (bxs b) ∧ Arr w' g5 27 (ccs ⟨p, ((m + 1 : Nat) : Int)⟩)) (i := 2) (b := g5) (off := 0) (.tmp 5) (ccs ⟨p, ((m + 1 : Nat) : Int)⟩) Try.ag_cu rfl (by kernel_rfl) (by kernel_rfl) (fun _ _ _ h => h) rfl (by kernel_rfl) rfl (fun w h j u hu => by rw [Nat.zero_add]; exact (h.2).cell hu) hq ?_
              refine rgTake (S := fun w' => Arr w' w.heap.size 37 (bxs b) ∧ Arr w' g5 27 (ccs ⟨p, ((m + 1 : Nat) : Int)⟩)) (i := 3) (v := .int .i64 (k : Int)) rfl (by kernel_rfl) (by kernel_rfl) (fun _ _ _ h => h) (fun w _ => by kernel_rfl) hq ?_
              try simp only [Act.put, List.setIfInBounds_toArray, List.set_cons_succ, List.set_cons_zero]
              refine rgNext (S := fun w' => Arr w' w.heap.size 37 (bxs b) ∧ Arr w' g5 27 (ccs ⟨p, ((m + 1 : Nat) : Int)⟩)) (i := 4) (by kernel_rfl) rfl ?_
              refine callOp 51 [.agg (ccs ⟨p, ((m + 1 : Nat) : Int)⟩).toArray, .int .i64 (k : Int)] [] [] (by kernel_rfl) (by kernel_rfl) rfl rfl rfl ?_
              refine (HCH.out k hlt _).mono ?_
              rintro e wz ⟨rfl, bz⟩
              replace hq := And.intro (hq.1.below bz hq.1.lt) (hq.2.below bz hq.2.lt)
              replace hown := ownsRow_below hown bz (Nat.le_refl _)
              replace hb0 := hb0.trans (bz.mono (Nat.le_trans HBS.out hsz))
              replace hK0 := hK0.trans hsz hS0 (RowKept.of_below bz _)
              replace hsz := Nat.le_trans hsz bz.size
              clear bz
              refine ⟨_, rfl, ?_⟩
              refine rgBack hq ?_
              try simp only [Act.put, List.setIfInBounds_toArray, List.set_cons_succ, List.set_cons_zero]
              refine rgNext (S := fun w' => Arr w' w.heap.size 37 (bxs b) ∧ Arr w' g5 27 (ccs ⟨p, ((m + 1 : Nat) : Int)⟩)) (i := 5) (by kernel_rfl) rfl ?_
              refine callOp 43 [vv, .agg (bxs b).toArray, .agg (ccs ⟨p.child m k, (m : Int)⟩).toArray] [] [] (by kernel_rfl) (by kernel_rfl) rfl rfl rfl ?_
              refine (HRec.out (p.child m k) w0 _ base vv ok (HALC.out k hlt) hfl hbase hown hb0).mono ?_
              rintro e w7 ⟨v', rfl, o7, b7, k7, s7, z7⟩
              have l4 := hq.1.lt
              have l5 := hq.2.lt
              replace hq := And.intro (k7.arr hq.1 hn4) (k7.arr hq.2 hn5)
              replace hK0 := hK0.trans hsz hS0 k7
              replace hn4 := s7.ne hn4 l4
              replace hn5 := s7.ne hn5 l5
              replace hS0 := hS0.app s7 hsz
              replace hsz := Nat.le_trans hsz z7
              clear k7 s7 z7 l4 l5 hown hb0
              refine ⟨_, rfl, ?_⟩
              refine rgBack hq ?_
              try simp only [Act.put, List.setIfInBounds_toArray, List.set_cons_succ, List.set_cons_zero]
              refine rgTake (S := fun w' => Arr w' w.heap.size 37 (bxs b) ∧ Arr w' g5 27 (ccs ⟨p, ((m + 1 : Nat) : Int)⟩)) (i := 6) (v := v') rfl (by kernel_rfl) (by kernel_rfl) (fun _ _ _ h => h) (fun w _ => by kernel_rfl) hq ?_
              refine rgDone (by kernel_rfl) ?_
              try simp only [Act.put, List.setIfInBounds_toArray, List.set_cons_succ, List.set_cons_zero]
              go_wp2_with fail
              refine ⟨⟨k + 1, _, rfl, by omega, by simp, by rw [HFS.out]; exact o7, b7, hK0, hS0, hsz, hq.1, hq.2, hn4, hn5⟩, ?_⟩
              simp [intOf]; omega
            · obtain rfl : k = 8 := by omega
              go_wp2_with fail
              go_ret
              rw [HR.out]
              exact ⟨_, rfl, hown, hb0, hK0, hS0, hsz⟩
      · rw [decide_eq_false hc1] at HC1
        have hnw : ¬ b.whole p l := fun h => hc1 h.1
        have hc1 := ()
        have hl0 : l ≠ 0 := fun e => hnw (HW0.out e hap)
        obtain ⟨m, rfl⟩ : ∃ m, l = m + 1 := ⟨l - 1, by omega⟩
        have HR := Lib.hid (show cubesL b (m + 1) p out = foldTo (fun i o => cubesL b m (p.child m i) o) 8 out from cubesL_div (by intro h; rcases h with h | h; exact hap h; exact hlen h) hnw)
        have HRec := Lib.hid (HIH.out m rfl)
        have HCH := Lib.hid (fun (i : Nat) (hi : i < 8) => refChild_any p m i HAL.out.1 (by omega) hi)
        have HALC := Lib.hid (fun (i : Nat) (hi : i < 8) => al_child HAL.out (by omega) hi)
        have HLE := Lib.hid (fun (i : Nat) => foldTo_le (fun i o => cubesL b m (p.child m i) o) 4097 (fun i o ho => cubesL_le b m _ o ho) i out hout)
        clear hnw hl0
        go_enter Try.func43, Try.ntmps43
        go_wp2_with (with_reducible refine bxArr (cs := bxs b) (.tmp 1) (wn rfl) rfl rfl ?_)
        intro w1 h4 b1
        go_wp2_with (with_reducible refine bxArr (cs := ccs ⟨p, ((m + 1 : Nat) : Int)⟩) (.tmp 2) (wn rfl) rfl rfl ?_)
        intro w2 h5 b2
        have n4 := h4.lt
        have ls := b1.size
        have n5 : w1.heap.size < w2.heap.size := h5.lt
        replace h4 := h4.below b2 n4
        have hb := b1.trans (b2.mono ls)
        clear b1 b2
        generalize w1.heap.size = g5 at *
        go_wp2_with (first | (with_reducible refine ldArr (.tmp 4) Try.ag_bx (wn rfl) rfl rfl rfl h4 ?_) | (with_reducible refine ldArr (.tmp 5) Try.ag_cu (wn rfl) rfl rfl rfl h5 ?_))
        refine (HAP.out _).mono ?_
        rintro e w3 ⟨rfl, b3⟩
        replace h4 := h4.below b3 h4.lt
        replace h5 := h5.below b3 h5.lt
        replace hb := hb.trans (b3.mono hb.size)
        clear b3
        go_wp2_with fail
        replace h4 := h4.drew
        replace h5 := h5.drew
        replace hb := hb.drew
        refine rgStart (fun w' => Arr w' w.heap.size 37 (bxs b) ∧ Arr w' g5 27 (ccs ⟨p, ((m + 1 : Nat) : Int)⟩)) (by kernel_rfl) ?_
        have hq : (fun w' : World => Arr w' w.heap.size 37 (bxs b) ∧ Arr w' g5 27 (ccs ⟨p, ((m + 1 : Nat) : Int)⟩)) _ := ⟨h4, h5⟩
        clear h4 h5
        generalize World.drew _ = wd at *
        refine rgLoad (S := fun w' => Arr w' w.heap.size 37 (bxs b) ∧ Arr w' g5 27 (ccs ⟨p, ((m + 1 : Nat) : Int)⟩)) (i := 0) (b := w.heap.size) (off := 0) (.tmp 4) (bxs b) Try.ag_bx rfl (by kernel_rfl) (by kernel_rfl) (fun _ _ _ h => h) rfl (by kernel_rfl) rfl (fun w h j u hu => by rw [Nat.zero_add]; exact (h.1).cell hu) hq ?_
        refine rgTake (S := fun w' => Arr w' w.heap.size 37 (bxs b) ∧ Arr w' g5 27 (ccs ⟨p, ((m + 1 : Nat) : Int)⟩)) (i := 1) (v := .pointer (some ⟨g5, 0, none⟩)) rfl (by kernel_rfl) (by kernel_rfl) (fun _ _ _ h => h) (fun w _ => by kernel_rfl) hq ?_
        refine rgTake (S := fun w' => Arr w' w.heap.size 37 (bxs b) ∧ Arr w' g5 27 (ccs ⟨p, ((m + 1 : Nat) : Int)⟩)) (i := 2) (v := .agg (pcs p).toArray) rfl (by kernel_rfl) (by kernel_rfl) (fun _ _ _ h => h) (fun w h => ldAgRun (.tmp 21) Try.ag_pt rfl (by kernel_rfl) rfl (fun j u hu => h.2.cell (i := 0 + j) (ccs_at ⟨p, ((m + 1 : Nat) : Int)⟩ hu))) hq ?_
        try simp only [Act.put, List.setIfInBounds_toArray, List.set_cons_succ, List.set_cons_zero]
        refine rgNext (S := fun w' => Arr w' w.heap.size 37 (bxs b) ∧ Arr w' g5 27 (ccs ⟨p, ((m + 1 : Nat) : Int)⟩)) (i := 3) (by kernel_rfl) rfl ?_
        refine callOp 33 [.agg (bxs b).toArray, .agg (pcs p).toArray] [] [] (by kernel_rfl) (by kernel_rfl) rfl rfl rfl ?_
        refine (HC1.out _).mono ?_
        rintro e wz ⟨rfl, bz⟩
        replace hq := And.intro (hq.1.below bz hq.1.lt) (hq.2.below bz hq.2.lt)
        replace hb := hb.trans (bz.mono hb.size)
        clear bz
        refine ⟨_, rfl, ?_⟩
        refine rgBack hq ?_
        refine rgTake (S := fun w' => Arr w' w.heap.size 37 (bxs b) ∧ Arr w' g5 27 (ccs ⟨p, ((m + 1 : Nat) : Int)⟩)) (i := 4) (v := .bool false) rfl (by kernel_rfl) (by kernel_rfl) (fun _ _ _ h => h) (fun w _ => by kernel_rfl) hq ?_
        refine rgSkip (S := fun w' => Arr w' w.heap.size 37 (bxs b) ∧ Arr w' g5 27 (ccs ⟨p, ((m + 1 : Nat) : Int)⟩)) (i := 5) rfl (by kernel_rfl) (by kernel_rfl) (fun _ _ _ h => h) hq ?_
        refine rgSkip (S := fun w' => Arr w' w.heap.size 37 (bxs b) ∧ Arr w' g5 27 (ccs ⟨p, ((m + 1 : Nat) : Int)⟩)) (i := 6) rfl (by kernel_rfl) (by kernel_rfl) (fun _ _ _ h => h) hq ?_
        refine rgSkip (S := fun w' => Arr w' w.heap.size 37 (bxs b) ∧ Arr w' g5 27 (ccs ⟨p, ((m + 1 : Nat) : Int)⟩)) (i := 7) rfl (by kernel_rfl) (by kernel_rfl) (fun _ _ _ h => h) hq ?_
        refine rgSkip (S := fun w' => Arr w' w.heap.size 37 (bxs b) ∧ Arr w' g5 27 (ccs ⟨p, ((m + 1 : Nat) : Int)⟩)) (i := 8) rfl (by kernel_rfl) (by kernel_rfl) (fun _ _ _ h => h) hq ?_
        try simp only [Act.put, List.setIfInBounds_toArray, List.set_cons_succ, List.set_cons_zero]
        refine rgTake (S := fun w' => Arr w' w.heap.size 37 (bxs b) ∧ Arr w' g5 27 (ccs ⟨p, ((m + 1 : Nat) : Int)⟩)) (i := 9) (v := .bool false) rfl (by kernel_rfl) (by kernel_rfl) (fun _ _ _ h => h) (fun w _ => by kernel_rfl) hq ?_
        refine rgTake (S := fun w' => Arr w' w.heap.size 37 (bxs b) ∧ Arr w' g5 27 (ccs ⟨p, ((m + 1 : Nat) : Int)⟩)) (i := 10) (v := .bool false) rfl (by kernel_rfl) (by kernel_rfl) (fun _ _ _ h => h) (fun w _ => by kernel_rfl) hq ?_
        refine rgDone (by kernel_rfl) ?_
        try simp only [Act.put, List.setIfInBounds_toArray, List.set_cons_succ, List.set_cons_zero]
        obtain ⟨h4, h5⟩ := hq
        have n6 := h5.lt
        replace hb0 := hb0.trans (hb.mono HBS.out)
        have hS0 := SameOrNew.refl (Value.slice A out.length c) w.heap.size
        have hK0 := RowKept.of_below hb (.slice A out.length c)
        have hsz := hb.size
        replace hown := ownsRow_below hown hb (Nat.le_refl _)
        have hn4 : some w.heap.size ≠ (Value.slice A out.length c).ownBlock := own_lt_ne HOWN.out (Nat.le_refl _)
        have hn5 : some g5 ≠ (Value.slice A out.length c).ownBlock := own_lt_ne HOWN.out ls
        clear hb hrd hlen hap
        go_wp2_with fail
        go_loopw [9, 0] (fun kk vv wr => ∃ (k : Nat) (u : Value), u = vv ∧ k ≤ 8 ∧ kk = .int .i64 (k : Int) ∧ wr.ownsRow base 27 4 vv (foldTo (fun i o => cubesL b m (p.child m i) o) k out).length (cus (foldTo (fun i o => cubesL b m (p.child m i) o) k out)) ∧ Below base w0 wr ∧ RowKept w wr (.slice A out.length c) ∧ SameOrNew (.slice A out.length c) vv w.heap.size ∧ w.heap.size ≤ wr.heap.size ∧ Arr wr w.heap.size 37 (bxs b) ∧ Arr wr g5 27 (ccs ⟨p, ((m + 1 : Nat) : Int)⟩) ∧ some w.heap.size ≠ vv.ownBlock ∧ some g5 ≠ vv.ownBlock) (fun kk _ _ => 8 - (intOf kk).toNat)
        case atStart => exact ⟨0, _, rfl, by omega, rfl, hown, hb0, hK0, hS0, hsz, h4, h5, hn4, hn5⟩
        case round =>
          clear hown hb0 hK0 hS0 hsz h4 h5 hn4 hn5 n6
          obtain ⟨k, vv, rfl, hk, rfl, hown, hb0, hK0, hS0, hsz, h4, h5, hn4, hn5⟩ := hrel
          by_cases hlt : k < 8
          · go_wp2_with fail
            have hfl := HLE.out k
            have HFS := Lib.hid (show foldTo (fun i o => cubesL b m (p.child m i) o) (k + 1) out = cubesL b m (p.child m k) (foldTo (fun i o => cubesL b m (p.child m i) o) k out) from rfl)
            generalize foldTo (fun i o => cubesL b m (p.child m i) o) k out = ok at *
            replace h4 := h4.drew
            replace h5 := h5.drew
            refine rgStart (fun w' => Arr w' w.heap.size 37 (bxs b) ∧ Arr w' g5 27 (ccs ⟨p, ((m + 1 : Nat) : Int)⟩)) (by kernel_rfl) ?_
            have hq : (fun w' : World => Arr w' w.heap.size 37 (bxs b) ∧ Arr w' g5 27 (ccs ⟨p, ((m + 1 : Nat) : Int)⟩)) _ := ⟨h4, h5⟩
            replace hown := ownsRow_below hown (drewB wr) (Nat.le_refl _)
            replace hb0 := hb0.drew
            replace hK0 := rk_drew hK0
            replace hsz := (show w.heap.size ≤ wr.drew.heap.size from hsz)
            clear h4 h5
            generalize wr.drew = wd at *
            refine rgTake (S := fun w' => Arr w' w.heap.size 37 (bxs b) ∧ Arr w' g5 27 (ccs ⟨p, ((m + 1 : Nat) : Int)⟩)) (i := 0) (v := vv) rfl (by kernel_rfl) (by kernel_rfl) (fun _ _ _ h => h) (fun w _ => by kernel_rfl) hq ?_
            refine rgLoad (S := fun w' => Arr w' w.heap.size 37 (bxs b) ∧ Arr w' g5 27 (ccs ⟨p, ((m + 1 : Nat) : Int)⟩)) (i := 1) (b := w.heap.size) (off := 0) (.tmp 4) (bxs b) Try.ag_bx rfl (by kernel_rfl) (by kernel_rfl) (fun _ _ _ h => h) rfl (by kernel_rfl) rfl (fun w h j u hu => by rw [Nat.zero_add]; exact (h.1).cell hu) hq ?_
            refine rgLoad (S := fun w' => Arr w' w.heap.size 37 (bxs b) ∧ Arr w' g5 27 (ccs ⟨p, ((m + 1 : Nat) : Int)⟩)) (i := 2) (b := g5) (off := 0) (.tmp 5) (ccs ⟨p, ((m + 1 : Nat) : Int)⟩) Try.ag_cu rfl (by kernel_rfl) (by kernel_rfl) (fun _ _ _ h => h) rfl (by kernel_rfl) rfl (fun w h j u hu => by rw [Nat.zero_add]; exact (h.2).cell hu) hq ?_
            refine rgTake (S := fun w' => Arr w' w.heap.size 37 (bxs b) ∧ Arr w' g5 27 (ccs ⟨p, ((m + 1 : Nat) : Int)⟩)) (i := 3) (v := .int .i64 (k : Int)) rfl (by kernel_rfl) (by kernel_rfl) (fun _ _ _ h => h) (fun w _ => by kernel_rfl) hq ?_
            try simp only [Act.put, List.setIfInBounds_toArray, List.set_cons_succ, List.set_cons_zero]
            refine rgNext (S := fun w' => Arr w' w.heap.size 37 (bxs b) ∧ Arr w' g5 27 (ccs ⟨p, ((m + 1 : Nat) : Int)⟩)) (i := 4) (by kernel_rfl) rfl ?_
            refine callOp 51 [.agg (ccs ⟨p, ((m + 1 : Nat) : Int)⟩).toArray, .int .i64 (k : Int)] [] [] (by kernel_rfl) (by kernel_rfl) rfl rfl rfl ?_
            refine (HCH.out k hlt _).mono ?_
            rintro e wz ⟨rfl, bz⟩
            replace hq := And.intro (hq.1.below bz hq.1.lt) (hq.2.below bz hq.2.lt)
            replace hown := ownsRow_below hown bz (Nat.le_refl _)
            replace hb0 := hb0.trans (bz.mono (Nat.le_trans HBS.out hsz))
            replace hK0 := hK0.trans hsz hS0 (RowKept.of_below bz _)
            replace hsz := Nat.le_trans hsz bz.size
            clear bz
            refine ⟨_, rfl, ?_⟩
            refine rgBack hq ?_
            try simp only [Act.put, List.setIfInBounds_toArray, List.set_cons_succ, List.set_cons_zero]
            refine rgNext (S := fun w' => Arr w' w.heap.size 37 (bxs b) ∧ Arr w' g5 27 (ccs ⟨p, ((m + 1 : Nat) : Int)⟩)) (i := 5) (by kernel_rfl) rfl ?_
            refine callOp 43 [vv, .agg (bxs b).toArray, .agg (ccs ⟨p.child m k, (m : Int)⟩).toArray] [] [] (by kernel_rfl) (by kernel_rfl) rfl rfl rfl ?_
            refine (HRec.out (p.child m k) w0 _ base vv ok (HALC.out k hlt) hfl hbase hown hb0).mono ?_
            rintro e w7 ⟨v', rfl, o7, b7, k7, s7, z7⟩
            have l4 := hq.1.lt
            have l5 := hq.2.lt
            replace hq := And.intro (k7.arr hq.1 hn4) (k7.arr hq.2 hn5)
            replace hK0 := hK0.trans hsz hS0 k7
            replace hn4 := s7.ne hn4 l4
            replace hn5 := s7.ne hn5 l5
            replace hS0 := hS0.app s7 hsz
            replace hsz := Nat.le_trans hsz z7
            clear k7 s7 z7 l4 l5 hown hb0
            refine ⟨_, rfl, ?_⟩
            refine rgBack hq ?_
            try simp only [Act.put, List.setIfInBounds_toArray, List.set_cons_succ, List.set_cons_zero]
            refine rgTake (S := fun w' => Arr w' w.heap.size 37 (bxs b) ∧ Arr w' g5 27 (ccs ⟨p, ((m + 1 : Nat) : Int)⟩)) (i := 6) (v := v') rfl (by kernel_rfl) (by kernel_rfl) (fun _ _ _ h => h) (fun w _ => by kernel_rfl) hq ?_
            refine rgDone (by kernel_rfl) ?_
            try simp only [Act.put, List.setIfInBounds_toArray, List.set_cons_succ, List.set_cons_zero]
            go_wp2_with fail
            refine ⟨⟨k + 1, _, rfl, by omega, by simp, by rw [HFS.out]; exact o7, b7, hK0, hS0, hsz, hq.1, hq.2, hn4, hn5⟩, ?_⟩
            simp [intOf]; omega
          · obtain rfl : k = 8 := by omega
            go_wp2_with fail
            go_ret
            rw [HR.out]
            exact ⟨_, rfl, hown, hb0, hK0, hS0, hsz⟩

end Go.Proofs.Ytkfijpghjjnpkaa
/-
  The reference's Cubes. No statement is proved here.
-/
namespace Go.Proofs.Ytkfijpghjjnpkaa
open Go.RowKit
set_option linter.unusedVariables false
set_option linter.unusedSimpArgs false

theorem refCubes_rec (b : Bx) : ∀ l, l ≤ 14 → CubesAt b l
  | 0, h => refCubes_step b 0 h (fun m e => by omega)
  | l + 1, h => refCubes_step b (l + 1) h (fun m e => by
    obtain rfl : m = l := by omega
    exact refCubes_rec b m (by omega))
/-- A box has cells. -/
def Bx.ne (b : Bx) : Prop := b.mn.x < b.mx.x ∧ b.mn.y < b.mx.y ∧ b.mn.z < b.mx.z
instance (b : Bx) : Decidable b.ne := by unfold Bx.ne; infer_instance
def mCubes (b : Bx) : List Cube × Int := if b.ne then (if 4096 < (cubesL b 14 p0 []).length then ([], 2) else (cubesL b 14 p0 [], 0)) else ([], 0)
def RetLE (w : World) (e : TypeId) (size n : Nat) (xs : List Value) (err : Int) (en : Ending) (w' : World) : Prop := ∃ v, en = .returned (.tuple #[v, .int .i64 err]) ∧ w'.ownsRow w.heap.size e size v n xs ∧ Below w.heap.size w w'
set_option maxRecDepth 100000 in
set_option maxHeartbeats 4000000 in
theorem refCubes_any (b : Bx) (w : World) : Calls Try.prog 23 #[.agg (bxs b).toArray] w (RetLE w 27 4 (mCubes b).1.length (cus (mCubes b).1) (mCubes b).2) := by
  by_cases hne : b.ne
  · have HREC := Lib.hid (refCubes_rec b 14 (by omega))
    have HLE := Lib.hid (cubesL_le b 14 p0 [] (by decide))
    have HNE := Lib.hid hne
    obtain ⟨n1, n2, n3⟩ := hne
    go_enter Try.func23, Try.ntmps23
    go_wp2_with (with_reducible refine bxArr (cs := bxs b) (.tmp 0) (wn rfl) rfl rfl ?_)
    intro w1 h1 b1
    have d0 := h1.cell (i := 0) (v := .int .i64 b.mn.x) rfl
    have d1 := h1.cell (i := 1) (v := .int .i64 b.mn.y) rfl
    have d2 := h1.cell (i := 2) (v := .int .i64 b.mn.z) rfl
    have d3 := h1.cell (i := 3) (v := .int .i64 b.mx.x) rfl
    have d4 := h1.cell (i := 4) (v := .int .i64 b.mx.y) rfl
    have d5 := h1.cell (i := 5) (v := .int .i64 b.mx.z) rfl
    go_wp2_with (with_reducible refine ldArr (.tmp 1) Try.ag_bx (wn rfl) rfl rfl rfl h1 ?_)
    refine (HREC.out p0 w1 w1 w1.heap.size (.slice none 0 0) [] al_top (by decide) (Nat.le_refl _) (World.ownsRow_nil _ _ _ _) (Below.refl _ _)).mono ?_
    rintro e w2 ⟨v, rfl, hown, hb, -, -, hsz⟩
    obtain ⟨A, c, rfl, hrd⟩ := Rd.of_own hown
    replace hb := b1.trans (hb.mono b1.size)
    have hown := ownsRow_base hown b1.size
    clear h1 b1 hrd d0 d1 d2 d3 d4 d5
    by_cases hlen : 4096 < (cubesL b 14 p0 []).length
    · have HR := Lib.hid (show mCubes b = ([], 2) by unfold mCubes; rw [if_pos HNE.out, if_pos hlen])
      generalize cubesL b 14 p0 [] = L at *
      go_wp2_with fail
      go_ret2
      exact ⟨.slice none 0 0, by rw [HR.out]; rfl, by rw [HR.out]; exact World.ownsRow_nil _ _ _ _, hb⟩
    · have HR := Lib.hid (show mCubes b = (cubesL b 14 p0 [], 0) by unfold mCubes; rw [if_pos HNE.out, if_neg hlen])
      generalize cubesL b 14 p0 [] = L at *
      go_wp2_with fail
      go_ret2
      exact ⟨.slice A L.length c, by rw [HR.out]; rfl, by rw [HR.out]; exact hown, hb⟩
  · have HR := Lib.hid (show mCubes b = ([], 0) by unfold mCubes; rw [if_neg hne])
    have HNE : Hid (¬ (b.mn.x < b.mx.x ∧ b.mn.y < b.mx.y ∧ b.mn.z < b.mx.z)) := Lib.hid hne
    clear hne
    go_enter Try.func23, Try.ntmps23
    go_wp2_with (with_reducible refine bxArr (cs := bxs b) (.tmp 0) (wn rfl) rfl rfl ?_)
    intro w1 h1 b1
    have d0 := h1.cell (i := 0) (v := .int .i64 b.mn.x) rfl
    have d1 := h1.cell (i := 1) (v := .int .i64 b.mn.y) rfl
    have d2 := h1.cell (i := 2) (v := .int .i64 b.mn.z) rfl
    have d3 := h1.cell (i := 3) (v := .int .i64 b.mx.x) rfl
    have d4 := h1.cell (i := 4) (v := .int .i64 b.mx.y) rfl
    have d5 := h1.cell (i := 5) (v := .int .i64 b.mx.z) rfl
    have hne := HNE.out
    generalize b.mn.x = x1 at *
    generalize b.mn.y = y1 at *
    generalize b.mn.z = z1 at *
    generalize b.mx.x = x2 at *
    generalize b.mx.y = y2 at *
    generalize b.mx.z = z2 at *
    by_cases hx : x2 ≤ x1
    · go_wp2_with fail
      go_ret2
      exact ⟨.slice none 0 0, by rw [HR.out]; rfl, by rw [HR.out]; exact World.ownsRow_nil _ _ _ _, b1⟩
    · by_cases hy : y2 ≤ y1
      · go_wp2_with fail
        go_ret2
        exact ⟨.slice none 0 0, by rw [HR.out]; rfl, by rw [HR.out]; exact World.ownsRow_nil _ _ _ _, b1⟩
      · have hz : z2 ≤ z1 := by omega
        go_wp2_with fail
        go_ret2
        exact ⟨.slice none 0 0, by rw [HR.out]; rfl, by rw [HR.out]; exact World.ownsRow_nil _ _ _ _, b1⟩
end Go.Proofs.Ytkfijpghjjnpkaa
/-
  Shifts to the left, and the last bit, of an int at an operation. No statement is proved here.
-/
namespace Go.Proofs.Ytkfijpghjjnpkaa
open Go.RowKit
section
variable {P : Program} {w : World} {o : Oper} {a : Act} {t ty : TypeId}
theorem shlNat {m n : Nat} (x y : Operand) (ho : o.op = .binOp .shl t x y ty) (hx : a.eval x = .int .i64 (m : Int)) (hy : a.eval y = .int .i64 (n : Int)) (hn : n ≤ 64) (h : m * 2 ^ n < 9223372036854775808) : (execOp a.eval o).run P w = .ok (.value (.int .i64 ((m * 2 ^ n : Nat) : Int))) w := by
  have hC : (m : Int) * 2 ^ n = ((m * 2 ^ n : Nat) : Int) := by simp
  generalize m * 2 ^ n = C at *
  have hw := IntWalk.i64_in (C : Int) (by omega)
  have hn2 : ¬ (64 : Int) < (n : Int) := by omega
  unfold execOp
  simp [ho, hx, hy, eqGuard, binOp_shl]
  first | (rw [hC]; exact hw) | trace_state
theorem bit0Nat {m : Nat} (x y : Operand) (ho : o.op = .binOp .and t x y ty) (hx : a.eval x = .int .i64 (m : Int)) (hy : a.eval y = .int .i64 1) (h : m < 9223372036854775808) : (execOp a.eval o).run P w = .ok (.value (.int .i64 ((m % 2 : Nat) : Int))) w := by
  have h3 := i64_and_n m 1 (by omega) (by omega)
  rw [Nat.and_one_is_mod] at h3
  unfold execOp
  simp [ho, hx, hy, eqGuard, binOp_and, Op.intBits]
  first | exact h3 | trace_state
theorem gtrRun {A B : Int} (x y : Operand) (ho : o.op = .binOp .gtr t x y ty) (hx : a.eval x = .int .i64 A) (hy : a.eval y = .int .i64 B) : (execOp a.eval o).run P w = .ok (.value (.bool (decide (B < A)))) w := by
  unfold execOp
  simp [ho, hx, hy, eqGuard, binOp_gtr]
theorem eqlRun {A B : Int} (x y : Operand) (ho : o.op = .binOp .eql t x y ty) (hx : a.eval x = .int .i64 A) (hy : a.eval y = .int .i64 B) : (execOp a.eval o).run P w = .ok (.value (.bool (decide (A = B)))) w := by
  unfold execOp
  simp [ho, hx, hy, eqGuard, binOp_eql]
  by_cases h : A = B <;> simp [h]
end
end Go.Proofs.Ytkfijpghjjnpkaa
/-
  The closure divide of Cubes. No statement is proved here.
-/
namespace Go.Proofs.Ytkfijpghjjnpkaa
open Go.RowKit
set_option linter.unusedVariables false
set_option linter.unusedSimpArgs false

theorem far_at (p : Pt) (l k : Nat) : (p.far l).at k = p.at k + (((2 ^ l : Nat) : Int) - 1) := by
  unfold Pt.at Pt.far
  split <;> rfl
theorem clipped_apart {b : Bx} {p : Pt} {l : Nat} (hp : p.al l) (hl : l ≤ 14) : b.apart p (p.far l) ↔ ∃ k, k < 3 ∧ ((p.far l).at k < b.lo.at k ∨ b.hi.at k < p.at k) := by
  have hf := al_far hp hl
  obtain ⟨⟨a1, a2⟩, ⟨a3, a4⟩, a5, a6⟩ := hp.1
  obtain ⟨⟨f1, f2⟩, ⟨f3, f4⟩, f5, f6⟩ := hf
  generalize p.far l = f at *
  have e : (∃ k, k < 3 ∧ (f.at k < b.lo.at k ∨ b.hi.at k < p.at k)) ↔ ((f.x < b.lo.x ∨ b.hi.x < p.x) ∨ (f.y < b.lo.y ∨ b.hi.y < p.y) ∨ (f.z < b.lo.z ∨ b.hi.z < p.z)) := by
    constructor
    · rintro ⟨k, hk, h⟩
      rcases (by omega : k = 0 ∨ k = 1 ∨ k = 2) with rfl | rfl | rfl
      · exact Or.inl h
      · exact Or.inr (Or.inl h)
      · exact Or.inr (Or.inr h)
    · rintro (h | h | h)
      · exact ⟨0, by omega, h⟩
      · exact ⟨1, by omega, h⟩
      · exact ⟨2, by omega, h⟩
  rw [e]
  unfold Bx.apart Bx.lo Bx.hi
  simp only
  omega
theorem clipped_whole {b : Bx} {p : Pt} {l : Nat} (hp : p.al l) (hl : l ≤ 14) : b.whole p l ↔ ∀ k, k < 3 → b.lo.at k ≤ p.at k ∧ (p.far l).at k ≤ b.hi.at k := by
  have hf := al_far hp hl
  have ge : p.x ≤ (p.far l).x ∧ p.y ≤ (p.far l).y ∧ p.z ≤ (p.far l).z := by
    have := Nat.two_pow_pos l
    unfold Pt.far
    simp only
    omega
  have hp1 := hp.1
  unfold Bx.whole
  obtain ⟨⟨a1, a2⟩, ⟨a3, a4⟩, a5, a6⟩ := hp.1
  obtain ⟨⟨f1, f2⟩, ⟨f3, f4⟩, f5, f6⟩ := al_far hp hl
  generalize p.far l = f at *
  have e : (∀ k, k < 3 → b.lo.at k ≤ p.at k ∧ f.at k ≤ b.hi.at k) ↔ ((b.lo.x ≤ p.x ∧ f.x ≤ b.hi.x) ∧ (b.lo.y ≤ p.y ∧ f.y ≤ b.hi.y) ∧ (b.lo.z ≤ p.z ∧ f.z ≤ b.hi.z)) := by
    constructor
    · intro h; exact ⟨h 0 (by omega), h 1 (by omega), h 2 (by omega)⟩
    · rintro ⟨h1, h2, h3⟩ k hk
      rcases (by omega : k = 0 ∨ k = 1 ∨ k = 2) with rfl | rfl | rfl
      · exact h1
      · exact h2
      · exact h3
  rw [e, and_iff_right hp1, and_iff_right hf]
  unfold Bx.has Bx.lo Bx.hi
  simp only
  omega
theorem child_at (p : Pt) (m i k : Nat) (h : k < 3) : (p.child m i).at k = p.at k + ((i / 2 ^ k % 2 * 2 ^ m : Nat) : Int) := by
  rcases (by omega : k = 0 ∨ k = 1 ∨ k = 2) with rfl | rfl | rfl <;> simp [Pt.at, Pt.child, Nat.mul_comm]
/-- Blocks that stood stay, but for one and for a row's own block. -/
def Kept2 (w w' : World) (g : Nat) (v : Value) : Prop := ∀ b, b < w.heap.size → b ≠ g → some b ≠ v.ownBlock → w'.heap[b]? = w.heap[b]?
theorem Kept2.of_below {w w' : World} (h : Below w.heap.size w w') (g : Nat) (v : Value) : Kept2 w w' g v := fun b hb _ _ => h.block b hb
theorem Kept2.trans {w w' w'' : World} {g : Nat} {v v' : Value} (h : Kept2 w w' g v) (hs : w.heap.size ≤ w'.heap.size) (hS : SameOrNew v v' w.heap.size) (k : Kept2 w' w'' g v') : Kept2 w w'' g v := fun b hb hg hne => by
  refine (k b (Nat.lt_of_lt_of_le hb hs) hg (fun e => ?_)).trans (h b hb hg hne)
  rcases hS with e2 | ⟨g, e2, h3⟩
  · exact hne (e.trans e2)
  · rw [e2] at e
    injection e with e
    omega
theorem Kept2.arr {w w' : World} {g : Nat} {v : Value} (h : Kept2 w w' g v) {b : Nat} {t : TypeId} {cs : List Value} (hA : Arr w b t cs) (hg : b ≠ g) (hne : some b ≠ v.ownBlock) : Arr w' b t cs := (h b hA.lt hg hne).trans hA
theorem own_cells {w : World} {base size n : Nat} {e : TypeId} {v : Value} {xs : List Value} (h : w.ownsRow base e size v n xs) : v.cells = #[v] := by
  rcases h.2 with ⟨rfl, _⟩ | ⟨g, cap, cur, rfl, _⟩ <;> rfl
theorem own_one {w : World} {base size n : Nat} {e : TypeId} {v : Value} {xs : List Value} (h : w.ownsRow base e size v n xs) : v.oneCell' = true := by
  rcases h.2 with ⟨rfl, _⟩ | ⟨g, cap, cur, rfl, _⟩ <;> rfl
/-- What divide captures. -/
def capsV (gf gl go gd : Nat) : List Value := [.pointer (some ⟨gf, 0, none⟩), .pointer (some ⟨gl, 0, none⟩), .pointer (some ⟨go, 0, none⟩), .pointer (some ⟨gd, 0, none⟩)]
structure Caps (b : Bx) (gf gl go gd : Nat) (v : Value) (w : World) : Prop where
  f : Arr w gf 57 (pcs b.lo)
  l : Arr w gl 57 (pcs b.hi)
  o : Arr w go 38 [v]
  d : Arr w gd 66 [.func (.func 42) #[] (capsV gf gl go gd).toArray]
  nf : gf ≠ go
  nl : gl ≠ go
  nd : gd ≠ go
  vf : some gf ≠ v.ownBlock
  vl : some gl ≠ v.ownBlock
  vo : some go ≠ v.ownBlock
  vd : some gd ≠ v.ownBlock
theorem Caps.below {b : Bx} {gf gl go gd : Nat} {v : Value} {w w' : World} (h : Caps b gf gl go gd v w) (hb : Below w.heap.size w w') : Caps b gf gl go gd v w' :=
  ⟨h.f.below hb h.f.lt, h.l.below hb h.l.lt, h.o.below hb h.o.lt, h.d.below hb h.d.lt, h.nf, h.nl, h.nd, h.vf, h.vl, h.vo, h.vd⟩
theorem Caps.next {b : Bx} {gf gl go gd : Nat} {v v' : Value} {w w' : World} (h : Caps b gf gl go gd v w) (hk : Kept2 w w' go v) (hS : SameOrNew v v' w.heap.size) (ho : Arr w' go 38 [v']) : Caps b gf gl go gd v' w' :=
  ⟨hk.arr h.f h.nf h.vf, hk.arr h.l h.nl h.vl, ho, hk.arr h.d h.nd h.vd, h.nf, h.nl, h.nd, hS.ne h.vf h.f.lt, hS.ne h.vl h.l.lt, hS.ne h.vo h.o.lt, hS.ne h.vd h.d.lt⟩
def RetDiv (b : Bx) (gf gl go gd : Nat) (w0 : World) (base : Nat) (w : World) (v : Value) (out : List Cube) (e : Ending) (w' : World) : Prop :=
  ∃ v', e = .returned (.tuple #[]) ∧ Caps b gf gl go gd v' w' ∧ w'.ownsRow base 27 4 v' out.length (cus out) ∧ Below base w0 w' ∧ Kept2 w w' go v ∧ SameOrNew v v' w.heap.size ∧ w.heap.size ≤ w'.heap.size
def DivAt (b : Bx) (l : Nat) : Prop := ∀ (p : Pt) (gf gl go gd : Nat) (w0 w : World) (base : Nat) (v : Value) (out : List Cube), p.al l → out.length ≤ 4097 → base ≤ w0.heap.size → base ≤ go → Caps b gf gl go gd v w → w.ownsRow base 27 4 v out.length (cus out) → Below base w0 w →
  Calls Try.prog 42 #[.agg (pcs p).toArray, .int .i64 (l : Int), .pointer (some ⟨gf, 0, none⟩), .pointer (some ⟨gl, 0, none⟩), .pointer (some ⟨go, 0, none⟩), .pointer (some ⟨gd, 0, none⟩)] w (RetDiv b gf gl go gd w0 base w v (cubesL b l p out))
theorem div_same {b : Bx} {gf gl go gd : Nat} {w0 w w' : World} {base : Nat} {v : Value} {out : List Cube} (hC : Caps b gf gl go gd v w) (hown : w.ownsRow base 27 4 v out.length (cus out)) (hb0 : Below base w0 w) (hbs : base ≤ w.heap.size) (hb : Below w.heap.size w w') : RetDiv b gf gl go gd w0 base w v out (.returned (.tuple #[])) w' :=
  ⟨v, rfl, hC.below hb, ownsRow_below hown hb (Nat.le_refl _), hb0.trans (hb.mono hbs), Kept2.of_below hb _ v, SameOrNew.refl v _, hb.size⟩

set_option maxRecDepth 100000 in
set_option maxHeartbeats 4000000 in
theorem div_step (b : Bx) (l : Nat) (hl : l ≤ 14) (IH : ∀ m, l = m + 1 → DivAt b m) : DivAt b l := by
  intro p gf gl go gd w0 w base v out hp hout hbase hgo hC hown hb0
  have HBS := Lib.hid (Nat.le_trans hbase hb0.size)
  have HW0 := Lib.hid (fun (e : l = 0) (h : ¬ b.apart p (p.far l)) => show b.whole p l by subst e; exact whole_zero hp.1 h)
  have HAL := Lib.hid hp
  have HIH := Lib.hid IH
  have HC := Lib.hid hC
  have HOWN := Lib.hid hown
  have HCA := Lib.hid (clipped_apart (b := b) hp hl)
  have HCW := Lib.hid (clipped_whole (b := b) hp hl)
  have hs2 : 1 * 2 ^ l ≤ 16384 := by rw [Nat.one_mul]; exact Nat.pow_le_pow_right (n := 2) (by decide) hl
  clear IH hp hC
  obtain ⟨A, c, rfl, hrd⟩ := Rd.of_own hown
  clear hrd
  go_enter Try.func42, Try.ntmps42
  go_wp2_with (with_reducible refine bxArr (cs := pcs p) (.tmp 0) (wn rfl) rfl rfl ?_)
  intro w1 h6 hb
  go_wp2_with fail
  go_loopw [8, 15] (fun vb kk wr => ∃ (k : Nat) (wb : Bool), k ≤ 3 ∧ kk = .int .i64 (k : Int) ∧ vb = .bool wb ∧ Hid (wb = true ↔ ∀ j, j < k → b.lo.at j ≤ p.at j ∧ (p.far l).at j ≤ b.hi.at j) ∧ Hid (∀ j, j < k → ¬ ((p.far l).at j < b.lo.at j ∨ b.hi.at j < p.at j)) ∧ (k = 0 ∨ out.length ≤ 4096) ∧ Arr wr w.heap.size 57 (pcs p) ∧ Below w.heap.size w wr) (fun _ kk _ => 3 - (intOf kk).toNat)
  case atStart => exact ⟨0, true, by omega, rfl, rfl, Lib.hid ⟨fun _ j h => by omega, fun _ => rfl⟩, Lib.hid (fun j h => by omega), Or.inl rfl, h6, hb⟩
  case round =>
    clear h6 hb
    obtain ⟨k, wb, hk, rfl, rfl, HWB, HN, hcnt, h6, hb⟩ := hrel
    by_cases hlt : k < 3
    · have hpk := HAL.out.1.at_ k
      go_wp2_with fail
      replace hb := hb.drew
      replace h6 := h6.drew
      refine rgStart (fun w' => Arr w' w.heap.size 57 (pcs p)) (by kernel_rfl) ?_
      have hq : (fun w' : World => Arr w' w.heap.size 57 (pcs p)) _ := h6
      clear h6
      generalize World.drew _ = wd at *
      refine rgTake (S := fun w' => Arr w' w.heap.size 57 (pcs p)) (i := 0) (v := .int .i64 (k : Int)) rfl (by kernel_rfl) (by kernel_rfl) (fun _ _ _ h => h) (fun w _ => by kernel_rfl) hq ?_
      refine rgTake (S := fun w' => Arr w' w.heap.size 57 (pcs p)) (i := 1) (v := .pointer (some ⟨w.heap.size, 0 + k * 1, none⟩)) rfl (by kernel_rfl) (by kernel_rfl) (fun _ _ _ h => h) (fun w _ => iaRun (n := 3) (kk := .i64) (.tmp 6) (.tmp 18) k Try.und_i3 Try.one_int rfl (by kernel_rfl) (by kernel_rfl) rfl hlt) hq ?_
      refine rgTake (S := fun w' => Arr w' w.heap.size 57 (pcs p)) (i := 2) (v := .int .i64 (p.at k)) rfl (by kernel_rfl) (by kernel_rfl) (fun _ _ _ h => h) (fun w h => ldRun (.tmp 19) (by kernel_rfl) rfl (by kernel_rfl) (show w.cell? ⟨_, 0 + k * 1, none⟩ = _ by rw [Nat.zero_add, Nat.mul_one]; exact h.cell (pcs_get p hlt))) hq ?_
      refine rgTake (S := fun w' => Arr w' w.heap.size 57 (pcs p)) (i := 3) (v := .int .i64 (k : Int)) rfl (by kernel_rfl) (by kernel_rfl) (fun _ _ _ h => h) (fun w _ => by kernel_rfl) hq ?_
      refine rgTake (S := fun w' => Arr w' w.heap.size 57 (pcs p)) (i := 4) (v := .pointer (some ⟨w.heap.size, 0 + k * 1, none⟩)) rfl (by kernel_rfl) (by kernel_rfl) (fun _ _ _ h => h) (fun w _ => iaRun (n := 3) (kk := .i64) (.tmp 6) (.tmp 21) k Try.und_i3 Try.one_int rfl (by kernel_rfl) (by kernel_rfl) rfl hlt) hq ?_
      refine rgTake (S := fun w' => Arr w' w.heap.size 57 (pcs p)) (i := 5) (v := .int .i64 (p.at k)) rfl (by kernel_rfl) (by kernel_rfl) (fun _ _ _ h => h) (fun w h => ldRun (.tmp 22) (by kernel_rfl) rfl (by kernel_rfl) (show w.cell? ⟨_, 0 + k * 1, none⟩ = _ by rw [Nat.zero_add, Nat.mul_one]; exact h.cell (pcs_get p hlt))) hq ?_
      refine rgTake (S := fun w' => Arr w' w.heap.size 57 (pcs p)) (i := 6) (v := .int .i64 (l : Int)) rfl (by kernel_rfl) (by kernel_rfl) (fun _ _ _ h => h) (fun w _ => by kernel_rfl) hq ?_
      refine rgTake (S := fun w' => Arr w' w.heap.size 57 (pcs p)) (i := 7) (v := .int .i64 ((1 * 2 ^ l : Nat) : Int)) rfl (by kernel_rfl) (by kernel_rfl) (fun _ _ _ h => h) (fun w _ => shlNat (m := 1) (n := l) (.const (.int .i64 1)) (.tmp 24) rfl rfl (by kernel_rfl) (by omega) (by omega)) hq ?_
      try simp only [Act.put, List.setIfInBounds_toArray, List.set_cons_succ, List.set_cons_zero]
      refine rgTake (S := fun w' => Arr w' w.heap.size 57 (pcs p)) (i := 8) (v := .int .i64 (p.at k + ((1 * 2 ^ l : Nat) : Int))) rfl (by kernel_rfl) (by kernel_rfl) (fun _ _ _ h => h) (fun w _ => addRun (A := p.at k) (B := ((1 * 2 ^ l : Nat) : Int)) (.tmp 23) (.tmp 25) rfl (by kernel_rfl) (by kernel_rfl) rfl (by omega)) hq ?_
      refine rgTake (S := fun w' => Arr w' w.heap.size 57 (pcs p)) (i := 9) (v := .int .i64 (p.at k + ((1 * 2 ^ l : Nat) : Int) - 1)) rfl (by kernel_rfl) (by kernel_rfl) (fun _ _ _ h => h) (fun w _ => subRun (A := p.at k + ((1 * 2 ^ l : Nat) : Int)) (B := 1) (.tmp 26) (.const (.int .i64 1)) rfl (by kernel_rfl) rfl rfl (by omega)) hq ?_
      refine rgTake (S := fun w' => Arr w' w.heap.size 57 (pcs p)) (i := 10) (v := .int .i64 (p.at k)) rfl (by kernel_rfl) (by kernel_rfl) (fun _ _ _ h => h) (fun w _ => by kernel_rfl) hq ?_
      refine rgTake (S := fun w' => Arr w' w.heap.size 57 (pcs p)) (i := 11) (v := .int .i64 (p.at k + ((1 * 2 ^ l : Nat) : Int) - 1)) rfl (by kernel_rfl) (by kernel_rfl) (fun _ _ _ h => h) (fun w _ => by kernel_rfl) hq ?_
      refine rgDone (by kernel_rfl) ?_
      try simp only [Act.put, List.setIfInBounds_toArray, List.set_cons_succ, List.set_cons_zero]
      replace hC := HC.out.below hb
      have hcF := hC.f.cell (pcs_get b.lo hlt)
      have hcL := hC.l.cell (pcs_get b.hi hlt)
      have hcO := hC.o.cell (i := 0) rfl
      have HFE := Lib.hid (show (p.far l).at k = p.at k + ((1 * 2 ^ l : Nat) : Int) - 1 by rw [far_at, Nat.one_mul]; omega)
      have HCA2 := Lib.hid (show ((p.far l).at k < b.lo.at k ∨ b.hi.at k < p.at k) → b.apart p (p.far l) from fun h => HCA.out.2 ⟨k, hlt, h⟩)
      have HN2 := Lib.hid (show ¬ ((p.far l).at k < b.lo.at k ∨ b.hi.at k < p.at k) → ∀ j, j < k + 1 → ¬ ((p.far l).at j < b.lo.at j ∨ b.hi.at j < p.at j) from fun h j hj => by
        by_cases hjk : j = k
        · subst hjk; exact h
        · exact HN.out j (by omega))
      have HW2 := Lib.hid (show ∀ wb' : Bool, (wb' = true ↔ (wb = true ∧ b.lo.at k ≤ p.at k ∧ (p.far l).at k ≤ b.hi.at k)) → (wb' = true ↔ ∀ j, j < k + 1 → b.lo.at j ≤ p.at j ∧ (p.far l).at j ≤ b.hi.at j) from fun wb' h => by
        rw [h, HWB.out]
        constructor
        · rintro ⟨h1, h2⟩ j hj
          by_cases hjk : j = k
          · subst hjk; exact h2
          · exact h1 j (by omega)
        · intro h1
          exact ⟨fun j hj => h1 j (by omega), h1 k (by omega)⟩)
      rw [HFE.out] at HCA2 HN2 HW2
      clear HFE HWB HN hcnt hC
      have h6 := hq
      clear hq
      generalize p.at k + ((1 * 2 ^ l : Nat) : Int) - 1 = f at *
      generalize p.at k = v at *
      generalize b.lo.at k = L at *
      generalize b.hi.at k = H at *
      by_cases c1 : f < L
      · have HR := Lib.hid (show cubesL b l p out = out from cubesL_out (Or.inl (HCA2.out (Or.inl c1))))
        go_wp2_with fail
        (try simp only [Exit.inBlock, Exit.then]); exact bodyPost_ret (results_none rfl _ _ _) rfl (by rw [HR.out]; exact div_same HC.out hown hb0 HBS.out hb)
      · by_cases c2 : H < v
        · have HR := Lib.hid (show cubesL b l p out = out from cubesL_out (Or.inl (HCA2.out (Or.inr c2))))
          go_wp2_with fail
          (try simp only [Exit.inBlock, Exit.then]); exact bodyPost_ret (results_none rfl _ _ _) rfl (by rw [HR.out]; exact div_same HC.out hown hb0 HBS.out hb)
        · have HN3 := Lib.hid (HN2.out (by omega))
          by_cases c3 : 4096 < out.length
          · have HR := Lib.hid (show cubesL b l p out = out from cubesL_out (Or.inr c3))
            go_wp2_with fail
            (try simp only [Exit.inBlock, Exit.then]); exact bodyPost_ret (results_none rfl _ _ _) rfl (by rw [HR.out]; exact div_same HC.out hown hb0 HBS.out hb)
          · have hlen : out.length ≤ 4096 := by omega
            cases wb with
            | false =>
              have HWF := Lib.hid (HW2.out false (by simp))
              go_wp2_with fail
              refine ⟨⟨k + 1, false, by omega, by simp, rfl, HWF, HN3, Or.inr hlen, h6, hb⟩, ?_⟩
              simp [intOf]; omega
            | true =>
              by_cases c4 : L ≤ v
              · by_cases c5 : f ≤ H
                · have HWF := Lib.hid (HW2.out true (by simp [c4, c5]))
                  go_wp2_with fail
                  refine ⟨⟨k + 1, true, by omega, by simp, by simp [c4, c5], HWF, HN3, Or.inr hlen, h6, hb⟩, ?_⟩
                  simp [intOf]; omega
                · have HWF := Lib.hid (HW2.out false (by simp [c5]))
                  go_wp2_with fail
                  refine ⟨⟨k + 1, false, by omega, by simp, by simp [c5], HWF, HN3, Or.inr hlen, h6, hb⟩, ?_⟩
                  simp [intOf]; omega
              · have HWF := Lib.hid (HW2.out false (by simp [c4]))
                go_wp2_with fail
                refine ⟨⟨k + 1, false, by omega, by simp, by simp [c4], HWF, HN3, Or.inr hlen, h6, hb⟩, ?_⟩
                simp [intOf]; omega
    · obtain rfl : k = 3 := by omega
      have hlen : out.length ≤ 4096 := by omega
      have hnap : ¬ b.apart p (p.far l) := fun h => by
        obtain ⟨j, hj, h2⟩ := HCA.out.1 h
        exact HN.out j hj h2
      have hno : ¬ (b.apart p (p.far l) ∨ 4096 < out.length) := fun h => by rcases h with h | h; exact hnap h; omega
      cases wb with
      | true =>
        have hw : b.whole p l := HCW.out.2 (HWB.out.1 rfl)
        have HR := Lib.hid (show cubesL b l p out = out ++ [⟨p, (l : Int)⟩] from cubesL_in hno hw)
        clear hno hnap hw
        go_wp2_with fail
        have hCw := HC.out.below hb
        have hownw := ownsRow_below hown hb (Nat.le_refl _)
        have hbw := hb0.trans (hb.mono HBS.out)
        have hO := hCw.o.drew
        replace h6 := h6.drew
        replace hb := hb.drew
        replace hownw := ownsRow_below hownw (drewB wr) (Nat.le_refl _)
        replace hbw := hbw.drew
        refine lgStart (fun w' => Arr w' go 38 [.slice A out.length c] ∧ Arr w' w.heap.size 57 (pcs p)) 7 (by kernel_rfl) ?_
        have hq : (fun w' : World => Arr w' go 38 [.slice A out.length c] ∧ Arr w' w.heap.size 57 (pcs p)) _ := ⟨hO, h6⟩
        clear hO h6 hCw
        generalize World.drew _ = wd at *
        refine lgTake [0, 1, 2, 3, 4, 5, 6] (S := fun w' => Arr w' go 38 [.slice A out.length c] ∧ Arr w' w.heap.size 57 (pcs p)) (i := 0) (v := .slice A out.length c) rfl (by kernel_rfl) (by kernel_rfl) (fun _ _ _ h => h) (fun w h => ldRun (.tmp 4) (by kernel_rfl) rfl (by kernel_rfl) (h.1.cell (i := 0) rfl)) hq ?_
        refine lgTake [0, 1, 2, 3, 4, 5, 6] (S := fun w' => Arr w' go 38 [.slice A out.length c] ∧ Arr w' w.heap.size 57 (pcs p)) (i := 1) (v := .agg (pcs p).toArray) rfl (by kernel_rfl) (by kernel_rfl) (fun _ _ _ h => h) (fun w h => ldAgRun (.tmp 6) Try.ag_i3 rfl (by kernel_rfl) rfl (fun j u hu => by rw [Nat.zero_add]; exact h.2.cell hu)) hq ?_
        refine lgTake [0, 1, 2, 3, 4, 5, 6] (S := fun w' => Arr w' go 38 [.slice A out.length c] ∧ Arr w' w.heap.size 57 (pcs p)) (i := 3) (v := .int .i64 (l : Int)) rfl (by kernel_rfl) (by kernel_rfl) (fun _ _ _ h => h) (fun w _ => by kernel_rfl) hq ?_
        try simp only [Act.put, List.setIfInBounds_toArray, List.set_cons_succ, List.set_cons_zero]
        refine lgNextS (S := fun w' => Arr w' go 38 [.slice A out.length c] ∧ Arr w' w.heap.size 57 (pcs p)) (i := 2) (by kernel_rfl) rfl ?_
        refine callOp 34 [.agg (pcs p).toArray] [] [] (by kernel_rfl) (by kernel_rfl) rfl rfl rfl ?_
        refine (point_any p _).mono ?_
        rintro e wz ⟨rfl, bz⟩
        replace hq := And.intro (hq.1.below bz hq.1.lt) (hq.2.below bz hq.2.lt)
        replace hownw := ownsRow_below hownw bz (Nat.le_refl _)
        replace hbw := hbw.trans (bz.mono (Nat.le_trans HBS.out hb.size))
        replace hb := hb.trans (bz.mono hb.size)
        clear bz
        refine ⟨_, rfl, ?_⟩
        refine rgBack hq ?_
        try simp only [Act.put, List.setIfInBounds_toArray, List.set_cons_succ, List.set_cons_zero]
        refine lgTake [0, 1, 2, 3, 4, 5, 6] (S := fun w' => Arr w' go 38 [.slice A out.length c] ∧ Arr w' w.heap.size 57 (pcs p)) (i := 4) (v := .agg (ccs ⟨p, (l : Int)⟩).toArray) rfl (by kernel_rfl) (by kernel_rfl) (fun _ _ _ h => h) (fun w _ => by kernel_rfl) hq ?_
        try simp only [Act.put, List.setIfInBounds_toArray, List.set_cons_succ, List.set_cons_zero]
        refine lgNextS (S := fun w' => Arr w' go 38 [.slice A out.length c] ∧ Arr w' w.heap.size 57 (pcs p)) (i := 5) (by kernel_rfl) rfl ?_
        refine bsG (cs := ccs ⟨p, (l : Int)⟩) (.tmp 66) Try.sl_cu (by kernel_rfl) rfl (by kernel_rfl) rfl (by decide) ?_
        intro w6 h66 b6
        replace hq := And.intro (hq.1.below b6 hq.1.lt) (hq.2.below b6 hq.2.lt)
        replace hownw := ownsRow_below hownw b6 (Nat.le_refl _)
        replace hbw := hbw.trans (b6.mono (Nat.le_trans HBS.out hb.size))
        replace hb := hb.trans (b6.mono hb.size)
        clear b6
        refine rgBack hq ?_
        generalize wz.heap.size = g66 at *
        try simp only [Act.put, List.setIfInBounds_toArray, List.set_cons_succ, List.set_cons_zero]
        refine lgNextS (S := fun w' => Arr w' go 38 [.slice A out.length c] ∧ Arr w' w.heap.size 57 (pcs p)) (i := 6) (by kernel_rfl) rfl ?_
        refine appNB (.tmp 62) (.tmp 67) Try.sl_cu (by kernel_rfl) rfl (by kernel_rfl) (by kernel_rfl) hownw h66 rfl hbw hbase (ccs_one _) (by omega) (by omega) ?_
        intro v' w7 o7 b7 k7 s7
        replace hq := And.intro (hq.1.grown k7 HC.out.vo) (hq.2.grown k7 (own_lt_ne HOWN.out (Nat.le_refl _)))
        refine rgBack hq ?_
        try simp only [Act.put, List.setIfInBounds_toArray, List.set_cons_succ, List.set_cons_zero]
        refine lgNext (S := fun w' => Arr w' go 38 [.slice A out.length c] ∧ Arr w' w.heap.size 57 (pcs p)) (i := 7) (by kernel_rfl) rfl (by kernel_rfl) ?_
        refine stCellG (v := v') (.tmp 4) (.tmp 68) (by kernel_rfl) (by kernel_rfl) rfl (by kernel_rfl) (by kernel_rfl) hq.1 (i := 0) rfl (own_cells o7) (own_one o7) ?_
        intro w8 h8 hg8
        refine lgDone (by kernel_rfl) ?_
        try simp only [Act.put, List.setIfInBounds_toArray, List.set_cons_succ, List.set_cons_zero]
        go_wp2_with fail
        (try simp only [Exit.inBlock, Exit.then]); refine bodyPost_ret (results_none rfl _ _ _) rfl ?_
        rw [HR.out]
        have hk8 : Kept2 w w8 go (.slice A out.length c) := fun k hk hne hnv => (hg8.block k (Nat.lt_of_lt_of_le (Nat.lt_of_lt_of_le hk hb.size) k7.size) (fun e => by injection e with e; exact hne e)).trans ((k7.block k (Nat.lt_of_lt_of_le hk hb.size) hnv).trans (hb.block k hk))
        have s8 := s7.less hb.size
        refine ⟨v', rfl, HC.out.next hk8 s8 h8, ?_, ?_, hk8, s8, Nat.le_trans hb.size (Nat.le_trans k7.size hg8.size)⟩
        · have o8 := o7.kept hg8 (Or.inr (Ne.symm (s8.ne HC.out.vo HC.out.o.lt)))
          exact ownsRow_count o8 (by simp) (by rw [cus_append, cus_one])
        · exact b7.grown hg8 (Nat.le_trans hbase b7.size) (fun k e => by cases e; exact hgo)
      | false =>
        have hnw : ¬ b.whole p l := fun h => by
          have := HWB.out.2 (HCW.out.1 h)
          cases this
        have hl0 : l ≠ 0 := fun e => hnw (HW0.out e hnap)
        obtain ⟨m, rfl⟩ : ∃ m, l = m + 1 := ⟨l - 1, by omega⟩
        have HR := Lib.hid (show cubesL b (m + 1) p out = foldTo (fun i o => cubesL b m (p.child m i) o) 8 out from cubesL_div hno hnw)
        clear hnw hl0 hno hnap
        go_wp2_with fail
        have hb1 := hb
        replace hC := HC.out.below hb
        replace hown := ownsRow_below hown hb (Nat.le_refl _)
        replace hb0 := hb0.trans (hb.mono HBS.out)
        have hK0 := Kept2.of_below hb go (.slice A out.length c)
        have hS0 := SameOrNew.refl (Value.slice A out.length c) w.heap.size
        have hsz := hb.size
        have hn6 : some w.heap.size ≠ (Value.slice A out.length c).ownBlock := own_lt_ne HOWN.out (Nat.le_refl _)
        have HRec := Lib.hid (HIH.out m rfl)
        have HALC := Lib.hid (fun (i : Nat) (hi : i < 8) => al_child HAL.out (by omega) hi)
        have HLE := Lib.hid (fun (i : Nat) => foldTo_le (fun i o => cubesL b m (p.child m i) o) 4097 (fun i o ho => cubesL_le b m _ o ho) i out hout)
        have hm13 : m ≤ 13 := by omega
        have hs13 : 2 ^ m ≤ 8192 := Nat.pow_le_pow_right (n := 2) (by decide) hm13
        clear hb hb1 hcnt HWB HN hlen hs2 hl
        go_wp2_with fail
        go_loopw [69] (fun kk wr => ∃ (i : Nat) (v : Value), i ≤ 8 ∧ kk = .int .i64 (i : Int) ∧ Caps b gf gl go gd v wr ∧ wr.ownsRow base 27 4 v (foldTo (fun i o => cubesL b m (p.child m i) o) i out).length (cus (foldTo (fun i o => cubesL b m (p.child m i) o) i out)) ∧ Below base w0 wr ∧ Kept2 w wr go (.slice A out.length c) ∧ SameOrNew (.slice A out.length c) v w.heap.size ∧ w.heap.size ≤ wr.heap.size ∧ Arr wr w.heap.size 57 (pcs p) ∧ some w.heap.size ≠ v.ownBlock) (fun kk _ => 8 - (intOf kk).toNat)
        case atStart => exact ⟨0, _, by omega, rfl, hC, hown, hb0, hK0, hS0, hsz, h6, hn6⟩
        case round =>
          clear hC hown hb0 hK0 hS0 hsz h6 hn6
          obtain ⟨i, v, hi, rfl, hC, hown, hb0, hK0, hS0, hsz, h6, hn6⟩ := hrel
          generalize wr = wo at *
          by_cases h8 : i < 8
          · have hfl := HLE.out i
            have HFS := Lib.hid (show foldTo (fun i o => cubesL b m (p.child m i) o) (i + 1) out = cubesL b m (p.child m i) (foldTo (fun i o => cubesL b m (p.child m i) o) i out) from rfl)
            generalize foldTo (fun i o => cubesL b m (p.child m i) o) i out = oi at *
            go_wp2_with (first | (with_reducible refine ldArr (.tmp 6) Try.ag_i3 (wn rfl) rfl rfl rfl h6 ?_) | (with_reducible refine alArr (z := pcs p0) Try.ag_i3 (wn rfl) rfl ?_))
            intro w3 hc b3
            go_wp2_with (with_reducible refine stArrG (cs := pcs p) (.tmp 13) (.tmp 72) Try.ag_i3 (wn rfl) rfl rfl (by kernel_rfl) hc rfl rfl (pcs_one _) ?_)
            intro w4 hc hg4
            have hB := b3.grown hg4 b3.size (fun k e => by cases e; exact Nat.le_refl _)
            clear b3 hg4
            obtain ⟨gc, hgc⟩ : ∃ gc, gc = wo.heap.size := ⟨_, rfl⟩
            rw [← hgc] at hc hB
            have hcg : wo.heap.size ≤ gc := by omega
            rw [← hgc]
            rw [← mixT_start p (p.child m i)] at hc
            go_wp2_with fail
            go_loopw [73] (fun kk wr => ∃ k : Nat, k ≤ 3 ∧ kk = .int .i64 (k : Int) ∧ Arr wr gc 57 (pcs (mixT p (p.child m i) k)) ∧ Below gc wo wr) (fun kk _ => 3 - (intOf kk).toNat)
            case atStart => exact ⟨0, by omega, rfl, hc, hB⟩
            case round =>
              clear hc hB
              obtain ⟨k, hk, rfl, hc, hB⟩ := hrel
              by_cases h3 : k < 3
              · have hgk := pcs_get (mixT p (p.child m i) k) h3
                rw [mixT_at _ _ k h3] at hgk
                have hset := mixT_set p (p.child m i) k h3
                rw [child_at p m i k h3] at hset
                have hpk := HAL.out.1.at_ k
                have hbit : i / 2 ^ k % 2 * 2 ^ m ≤ 8192 := by
                  have h1 : i / 2 ^ k % 2 ≤ 1 := by omega
                  have := Nat.mul_le_mul_right (2 ^ m) h1
                  omega
                go_wp2_with fail
                replace hc := hc.drew
                replace hB := hB.drew
                refine lgStart (fun w' => Arr w' gc 57 (pcs (mixT p (p.child m i) k))) 12 (by kernel_rfl) ?_
                have hq : (fun w' : World => Arr w' gc 57 (pcs (mixT p (p.child m i) k))) _ := hc
                clear hc
                generalize World.drew _ = wd at *
                refine lgTake [0, 1, 2, 3, 4, 5, 6, 7, 8, 9, 10, 11] (S := fun w' => Arr w' gc 57 (pcs (mixT p (p.child m i) k))) (i := 0) (v := .int .i64 (k : Int)) rfl (by kernel_rfl) (by kernel_rfl) (fun _ _ _ h => h) (fun w _ => by kernel_rfl) hq ?_
                refine lgTake [0, 1, 2, 3, 4, 5, 6, 7, 8, 9, 10, 11] (S := fun w' => Arr w' gc 57 (pcs (mixT p (p.child m i) k))) (i := 1) (v := .pointer (some ⟨gc, 0 + k * 1, none⟩)) rfl (by kernel_rfl) (by kernel_rfl) (fun _ _ _ h => h) (fun w _ => iaRun (n := 3) (kk := .i64) (.tmp 13) (.tmp 76) k Try.und_i3 Try.one_int rfl (by kernel_rfl) (by kernel_rfl) rfl h3) hq ?_
                refine lgTake [0, 1, 2, 3, 4, 5, 6, 7, 8, 9, 10, 11] (S := fun w' => Arr w' gc 57 (pcs (mixT p (p.child m i) k))) (i := 2) (v := .int .i64 (p.at k)) rfl (by kernel_rfl) (by kernel_rfl) (fun _ _ _ h => h) (fun w h => ldRun (.tmp 77) (by kernel_rfl) rfl (by kernel_rfl) (show w.cell? ⟨_, 0 + k * 1, none⟩ = _ by rw [Nat.zero_add, Nat.mul_one]; exact h.cell hgk)) hq ?_
                refine lgTake [0, 1, 2, 3, 4, 5, 6, 7, 8, 9, 10, 11] (S := fun w' => Arr w' gc 57 (pcs (mixT p (p.child m i) k))) (i := 3) (v := .int .i64 (i : Int)) rfl (by kernel_rfl) (by kernel_rfl) (fun _ _ _ h => h) (fun w _ => by kernel_rfl) hq ?_
                refine lgTake [0, 1, 2, 3, 4, 5, 6, 7, 8, 9, 10, 11] (S := fun w' => Arr w' gc 57 (pcs (mixT p (p.child m i) k))) (i := 4) (v := .int .i64 (k : Int)) rfl (by kernel_rfl) (by kernel_rfl) (fun _ _ _ h => h) (fun w _ => by kernel_rfl) hq ?_
                refine lgTake [0, 1, 2, 3, 4, 5, 6, 7, 8, 9, 10, 11] (S := fun w' => Arr w' gc 57 (pcs (mixT p (p.child m i) k))) (i := 5) (v := .int .i64 ((i / 2 ^ k : Nat) : Int)) rfl (by kernel_rfl) (by kernel_rfl) (fun _ _ _ h => h) (fun w _ => shrNat (m := i) (n := k) (.tmp 79) (.tmp 80) rfl (by kernel_rfl) (by kernel_rfl) (by omega)) hq ?_
                try simp only [Act.put, List.setIfInBounds_toArray, List.set_cons_succ, List.set_cons_zero]
                refine lgTake [0, 1, 2, 3, 4, 5, 6, 7, 8, 9, 10, 11] (S := fun w' => Arr w' gc 57 (pcs (mixT p (p.child m i) k))) (i := 6) (v := .int .i64 ((i / 2 ^ k % 2 : Nat) : Int)) rfl (by kernel_rfl) (by kernel_rfl) (fun _ _ _ h => h) (fun w _ => bit0Nat (m := i / 2 ^ k) (.tmp 81) (.const (.int .i64 1)) rfl (by kernel_rfl) rfl (Nat.lt_of_le_of_lt (Nat.div_le_self _ _) (by omega))) hq ?_
                refine lgTake [0, 1, 2, 3, 4, 5, 6, 7, 8, 9, 10, 11] (S := fun w' => Arr w' gc 57 (pcs (mixT p (p.child m i) k))) (i := 7) (v := .int .i64 ((m + 1 : Nat) : Int)) rfl (by kernel_rfl) (by kernel_rfl) (fun _ _ _ h => h) (fun w _ => by kernel_rfl) hq ?_
                refine lgTake [0, 1, 2, 3, 4, 5, 6, 7, 8, 9, 10, 11] (S := fun w' => Arr w' gc 57 (pcs (mixT p (p.child m i) k))) (i := 8) (v := .int .i64 (m : Int)) rfl (by kernel_rfl) (by kernel_rfl) (fun _ _ _ h => h) (fun w _ => subRun (A := ((m + 1 : Nat) : Int)) (B := 1) (.tmp 83) (.const (.int .i64 1)) rfl (by kernel_rfl) rfl (by omega) (by omega)) hq ?_
                try simp only [Act.put, List.setIfInBounds_toArray, List.set_cons_succ, List.set_cons_zero]
                refine lgTake [0, 1, 2, 3, 4, 5, 6, 7, 8, 9, 10, 11] (S := fun w' => Arr w' gc 57 (pcs (mixT p (p.child m i) k))) (i := 9) (v := .int .i64 ((i / 2 ^ k % 2 * 2 ^ m : Nat) : Int)) rfl (by kernel_rfl) (by kernel_rfl) (fun _ _ _ h => h) (fun w _ => shlNat (m := i / 2 ^ k % 2) (n := m) (.tmp 82) (.tmp 84) rfl (by kernel_rfl) (by kernel_rfl) (by omega) (by omega)) hq ?_
                try simp only [Act.put, List.setIfInBounds_toArray, List.set_cons_succ, List.set_cons_zero]
                refine lgTake [0, 1, 2, 3, 4, 5, 6, 7, 8, 9, 10, 11] (S := fun w' => Arr w' gc 57 (pcs (mixT p (p.child m i) k))) (i := 10) (v := .int .i64 (p.at k + ((i / 2 ^ k % 2 * 2 ^ m : Nat) : Int))) rfl (by kernel_rfl) (by kernel_rfl) (fun _ _ _ h => h) (fun w _ => addRun (A := p.at k) (B := ((i / 2 ^ k % 2 * 2 ^ m : Nat) : Int)) (.tmp 78) (.tmp 85) rfl (by kernel_rfl) (by kernel_rfl) rfl (by omega)) hq ?_
                refine lgTake [0, 1, 2, 3, 4, 5, 6, 7, 8, 9, 10, 11] (S := fun w' => Arr w' gc 57 (pcs (mixT p (p.child m i) k))) (i := 11) (v := .pointer (some ⟨gc, 0 + k * 1, none⟩)) rfl (by kernel_rfl) (by kernel_rfl) (fun _ _ _ h => h) (fun w _ => iaRun (n := 3) (kk := .i64) (.tmp 13) (.tmp 76) k Try.und_i3 Try.one_int rfl (by kernel_rfl) (by kernel_rfl) rfl h3) hq ?_
                try simp only [Act.put, List.setIfInBounds_toArray, List.set_cons_succ, List.set_cons_zero]
                refine lgNext (S := fun w' => Arr w' gc 57 (pcs (mixT p (p.child m i) k))) (i := 12) (by kernel_rfl) rfl (by kernel_rfl) ?_
                refine stCellG (b := gc) (i := 0 + k * 1) (v := .int .i64 (p.at k + ((i / 2 ^ k % 2 * 2 ^ m : Nat) : Int))) (.tmp 87) (.tmp 86) (by kernel_rfl) (by kernel_rfl) rfl (by kernel_rfl) (by kernel_rfl) hq (by rw [Nat.zero_add, Nat.mul_one]; exact hgk) rfl rfl ?_
                intro w8 hc hg8
                rw [Nat.zero_add, Nat.mul_one] at hc
                replace hB := hB.grown hg8 (Nat.le_of_lt hq.lt) (fun k e => by cases e; exact Nat.le_refl _)
                refine lgDone (by kernel_rfl) ?_
                try simp only [Act.put, List.setIfInBounds_toArray, List.set_cons_succ, List.set_cons_zero]
                rw [hset] at hc
                go_wp2_with fail
                refine ⟨⟨k + 1, by omega, by simp, hc, hB⟩, ?_⟩
                simp [intOf]; omega
              · obtain rfl : k = 3 := by omega
                rw [mixT_end] at hc
                have hBr : Below wo.heap.size wo wr := hB.mono hcg
                replace hC := hC.below hBr
                replace hown := ownsRow_below hown hBr (Nat.le_refl _)
                replace hb0 := hb0.trans (hBr.mono (Nat.le_trans HBS.out hsz))
                replace hK0 := hK0.trans hsz hS0 (Kept2.of_below hBr go v)
                replace h6 := h6.below hBr h6.lt
                replace hsz := Nat.le_trans hsz hBr.size
                have hcD := hC.d.cell (i := 0) rfl
                have l6 := h6.lt
                have hR := HRec.out (p.child m i) gf gl go gd w0 wr base v oi (HALC.out i h8) hfl hbase hgo hC hown hb0
                go_wp2_with (with_reducible refine ldArr (.tmp 13) Try.ag_i3 (wn rfl) rfl rfl rfl hc ?_)
                refine hR.mono ?_
                rintro e w9 ⟨v', rfl, C9, o9, b9, k9, s9, z9⟩
                go_wp2_with fail
                refine ⟨?rel, ?measure⟩
                case rel =>
                  (repeat apply Exists.intro)
                  refine ⟨?rr, rfl⟩
                  exact ⟨i + 1, v', by omega, by simp, C9, by rw [HFS.out]; exact o9, b9, hK0.trans hsz hS0 k9, hS0.app s9 hsz, Nat.le_trans hsz z9, k9.arr h6 (by have := HC.out.o.lt; omega) hn6, s9.ne hn6 l6⟩
                case measure => (simp [intOf]; try omega)
          · obtain rfl : i = 8 := by omega
            go_wp2_with fail
            go_end0
            rw [HR.out]
            exact ⟨v, rfl, hC, hown, hb0, hK0, hS0, hsz⟩
theorem div_rec (b : Bx) : ∀ l, l ≤ 14 → DivAt b l
  | 0, h => div_step b 0 h (fun m e => by omega)
  | l + 1, h => div_step b (l + 1) h (fun m e => by
    obtain rfl : m = l := by omega
    exact div_rec b m (by omega))
end Go.Proofs.Ytkfijpghjjnpkaa
