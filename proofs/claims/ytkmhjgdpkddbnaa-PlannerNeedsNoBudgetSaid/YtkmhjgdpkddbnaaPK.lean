/-
  PK: several texts in one. No statement is proved here.
-/
import Derived.Test.YtkmhjgdpkddbnaaPI
import Derived.Test.YtkmhjgdpkddbnaaPC
set_option linter.unusedVariables false
set_option linter.unusedSimpArgs false
namespace Go.Proofs.Ytkmhjgdpkddbnaa
/-- Whatever holds of the first plan and stays with each split holds of the last one. -/
theorem planG_ind {f : Tl → Int} {v : Vw} {depth : Int} (I : List Tl → Int → Prop) (step : ∀ (l : List Tl) (cost : Int) (fu k : Nat) (t : Tl), RoundOk f v depth l cost fu → I l cost → l[k]? = some t → 1 ≤ t.lv → v.tol < err v t → cost + moreP f t ≤ v.bud → I (splitAt l k) (cost + moreP f t)) :
    ∀ (n : Nat) (l : List Tl) (cost : Int), RoundOk f v depth l cost n → I l cost → I (planG f v n l cost).1 (planG f v n l cost).2
  | 0, _, _, _, h => h
  | n + 1, l, cost, hr, h => by
    by_cases hk : 0 ≤ nextP f v cost l
    · obtain ⟨k, t, e, ht, h1, hl, h2, h3⟩ := nextP_ok hk
      rw [planG_step e ht (by omega)]
      exact planG_ind I step n _ _ (hr.next e ht h1 hl) (step l cost _ k t hr h ht h1 h2 h3)
    · rw [planG_stop hk]; exact h
theorem planR_ind {f : Tl → Int} {v : Vw} {depth : Int} (hE : planE f depth v = 0) (I : List Tl → Int → Prop) (h0 : I [wholeT depth] (f (wholeT depth))) (step : ∀ (l : List Tl) (cost : Int) (fu k : Nat) (t : Tl), RoundOk f v depth l cost fu → I l cost → l[k]? = some t → 1 ≤ t.lv → v.tol < err v t → cost + moreP f t ≤ v.bud → I (splitAt l k) (cost + moreP f t)) :
    I (planR f depth v).tiles (planR f depth v).cost := by
  have h := planG_ind I step 600 _ _ (RoundOk.start (f := f) (v := v) (planE_dp hE).1) h0
  have e := planR_eq (l := (planG f v 600 [wholeT depth] (f (wholeT depth))).1) (cost := (planG f v 600 [wholeT depth] (f (wholeT depth))).2) hE rfl
  rw [e]
  exact h
theorem planR_cost {f : Tl → Int} {v : Vw} {depth : Int} (hE : planE f depth v = 0) : (planR f depth v).cost = totalP f (planR f depth v).tiles := by
  obtain ⟨_, h, _⟩ := planR_round hE (planE_dp hE).1
  exact h.sum
theorem nextG_neg {f : Tl → Int} {v : Vw} {cost : Int} : ∀ (l : List Tl) (j : Nat) (best most : Int), 0 ≤ best → 0 ≤ nextG f v cost j best most l
  | [], _, _, _, h => by rw [nextG]; exact h
  | t :: l, j, best, most, h => by
    rw [nextG]
    split
    · exact nextG_neg l _ _ _ (by omega)
    · exact nextG_neg l _ _ _ h
theorem nextG_none {f : Tl → Int} {v : Vw} {cost : Int} : ∀ (l : List Tl) (j : Nat), ¬ 0 ≤ nextG f v cost j (-1) v.tol l → ∀ t ∈ l, ¬ (0 < t.lv ∧ v.tol < err v t ∧ cost + moreP f t ≤ v.bud)
  | [], _, _, t, ht, _ => by cases ht
  | u :: l, j, h, t, ht, hc => by
    rw [nextG] at h
    by_cases hu : 0 < u.lv ∧ v.tol < err v u ∧ cost + moreP f u ≤ v.bud
    · rw [if_pos hu] at h
      exact h (nextG_neg l _ _ _ (by omega))
    · rw [if_neg hu] at h
      rcases List.mem_cons.1 ht with rfl | ht
      · exact hu hc
      · exact nextG_none l _ h t ht hc
theorem planR_none {f : Tl → Int} {v : Vw} {depth : Int} (hE : planE f depth v = 0) (hl : (planR f depth v).tiles.length + 7 ≤ 4096) {t : Tl} (ht : t ∈ (planR f depth v).tiles) : ¬ (0 < t.lv ∧ v.tol < err v t ∧ (planR f depth v).cost + moreP f t ≤ v.bud) := by
  obtain ⟨_, _, h⟩ := planR_round hE (planE_dp hE).1
  unfold nextP at h
  rw [if_neg (by omega)] at h
  exact nextG_none _ _ h t ht
def volT (t : Tl) : Int := 8 ^ (t.lv.toNat + 2)
/-- A tile lies in the cube of a depth. -/
def InD (d : Int) (t : Tl) : Prop := t.lv ≤ d - 2 ∧ t.p.x + sideL t.lv ≤ 2 ^ d.toNat ∧ t.p.y + sideL t.lv ≤ 2 ^ d.toNat ∧ t.p.z + sideL t.lv ≤ 2 ^ d.toNat
/-- The tiles cover the codes from a to b, one behind the other. -/
def Chain : Int → List Tl → Int → Prop
  | a, [], b => a = b
  | a, t :: l, b => mEnc t.p = a ∧ Chain (a + volT t) l b
theorem Chain.app {l m : List Tl} : ∀ {a b c : Int}, Chain a l b → Chain b m c → Chain a (l ++ m) c := by
  induction l with
  | nil => intro a b c h h2; cases h; exact h2
  | cons t l ih => intro a b c h h2; exact ⟨h.1, ih h.2 h2⟩
theorem Chain.parts {l m : List Tl} : ∀ {a c : Int}, Chain a (l ++ m) c → ∃ b, Chain a l b ∧ Chain b m c := by
  induction l with
  | nil => intro a c h; exact ⟨a, rfl, h⟩
  | cons t l ih =>
    intro a c h
    obtain ⟨b, h1, h2⟩ := ih h.2
    exact ⟨b, ⟨h.1, h1⟩, h2⟩
theorem chain_split {t : Tl} (h : t.Ok) (h1 : 1 ≤ t.lv) : Chain (mEnc t.p) (splitT t) (mEnc t.p + volT t) := by
  have e : splitT t = [child t 0, child t 1, child t 2, child t 3, child t 4, child t 5, child t 6, child t 7] := rfl
  have hv : ∀ k, volT (child t k) = 8 ^ (t.lv.toNat + 1) := fun k => by
    unfold volT child
    simp only
    rw [show (t.lv - 1).toNat + 2 = t.lv.toNat + 1 by have := h.lv; omega]
  have hV : volT t = 8 * 8 ^ (t.lv.toNat + 1) := by unfold volT; rw [Int.pow_succ, Int.mul_comm]
  have hc := fun k (hk : k < 8) => enc_part h h1 hk
  rw [e]
  simp only [Chain, hv, hV]
  have c0 := hc 0 (by omega)
  have c1 := hc 1 (by omega)
  have c2 := hc 2 (by omega)
  have c3 := hc 3 (by omega)
  have c4 := hc 4 (by omega)
  have c5 := hc 5 (by omega)
  have c6 := hc 6 (by omega)
  have c7 := hc 7 (by omega)
  generalize (8 : Int) ^ (t.lv.toNat + 1) = w at *
  refine ⟨?_, ?_, ?_, ?_, ?_, ?_, ?_, ?_, ?_⟩ <;> omega
/-- Two tiles have no cell in common. -/
def Apart (t u : Tl) : Prop := (t.p.x + sideL t.lv ≤ u.p.x ∨ u.p.x + sideL u.lv ≤ t.p.x) ∨ (t.p.y + sideL t.lv ≤ u.p.y ∨ u.p.y + sideL u.lv ≤ t.p.y) ∨ (t.p.z + sideL t.lv ≤ u.p.z ∨ u.p.z + sideL u.lv ≤ t.p.z)
theorem child_in {t : Tl} (h : t.Ok) (h1 : 1 ≤ t.lv) (k : Nat) : (t.p.x ≤ (child t k).p.x ∧ (child t k).p.x + sideL (child t k).lv ≤ t.p.x + sideL t.lv) ∧ (t.p.y ≤ (child t k).p.y ∧ (child t k).p.y + sideL (child t k).lv ≤ t.p.y + sideL t.lv) ∧ (t.p.z ≤ (child t k).p.z ∧ (child t k).p.z + sideL (child t k).lv ≤ t.p.z + sideL t.lv) := by
  have hl := h.lv
  have e := side_half ⟨h1, hl.2⟩
  have hb := side_bd (l := t.lv - 1) (by omega)
  have ho := octP_bd k
  unfold child Pt.add Pt.mul
  simp only
  rw [e]
  generalize sideL (t.lv - 1) = S at *
  have m : ∀ i : Int, 0 ≤ i ∧ i ≤ 1 → 0 ≤ i * S ∧ i * S ≤ S := fun i hi => by
    rcases (by omega : i = 0 ∨ i = 1) with rfl | rfl <;> omega
  have mx := m _ ho.1
  have my := m _ ho.2.1
  have mz := m _ ho.2.2
  generalize (octP k).x * S = X at *
  generalize (octP k).y * S = Y at *
  generalize (octP k).z * S = Z at *
  omega
theorem Apart.child {t u : Tl} (hu : u.Ok) (h1 : 1 ≤ u.lv) (h : Apart t u) (k : Nat) : Apart t (child u k) := by
  have hc := child_in hu h1 k
  unfold Apart at *
  omega
theorem Apart.symm {t u : Tl} (h : Apart t u) : Apart u t := by unfold Apart at *; omega
theorem child_apart {t : Tl} (h : t.Ok) (h1 : 1 ≤ t.lv) {i k : Nat} (hi : i < k) (hk : k < 8) : Apart (child t i) (child t k) := by
  have hl := h.lv
  have hb := side_bd (l := t.lv - 1) (by omega)
  unfold Apart Go.Proofs.Ytkmhjgdpkddbnaa.child Pt.add Pt.mul octP
  simp only
  generalize sideL (t.lv - 1) = S at *
  have key : ∀ a b : Nat, a < 2 → b < 2 → a ≠ b → ∀ x : Int, x + (a : Int) * S + S ≤ x + (b : Int) * S ∨ x + (b : Int) * S + S ≤ x + (a : Int) * S := by
    intro a b ha hb' hab x
    rcases (by omega : (a = 0 ∧ b = 1) ∨ (a = 1 ∧ b = 0)) with ⟨rfl, rfl⟩ | ⟨rfl, rfl⟩
    · left; simp
    · right; simp
  by_cases hx : i % 2 = k % 2
  · by_cases hy : i / 2 % 2 = k / 2 % 2
    · have hz : i / 4 % 2 ≠ k / 4 % 2 := by omega
      exact Or.inr (Or.inr (key _ _ (by omega) (by omega) hz _))
    · exact Or.inr (Or.inl (key _ _ (by omega) (by omega) hy _))
  · exact Or.inl (key _ _ (by omega) (by omega) hx _)
theorem split_apart {t : Tl} (h : t.Ok) (h1 : 1 ≤ t.lv) : (splitT t).Pairwise Apart := by
  unfold splitT
  rw [List.pairwise_map]
  have hp : (List.range 8).Pairwise fun i k => i < k ∧ k < 8 := by decide
  exact hp.imp fun hik => child_apart h h1 hik.1 hik.2
structure PlanV (d : Int) (l : List Tl) : Prop where
  ok : ∀ t ∈ l, t.Ok
  inD : ∀ t ∈ l, InD d t
  chain : Chain 0 l (8 ^ d.toNat)
  apart : l.Pairwise Apart
theorem PlanV.start {d : Int} (h : 2 ≤ d ∧ d ≤ 14) : PlanV d [wholeT d] := by
  refine ⟨fun t ht => by rw [List.mem_singleton] at ht; rw [ht]; exact wholeT_ok h, fun t ht => ?_, ?_, List.pairwise_singleton _ _⟩
  · rw [List.mem_singleton] at ht
    subst ht
    have hs : sideL (d - 2) = 2 ^ d.toNat := by
      rcases (by omega : d = 2 ∨ d = 3 ∨ d = 4 ∨ d = 5 ∨ d = 6 ∨ d = 7 ∨ d = 8 ∨ d = 9 ∨ d = 10 ∨ d = 11 ∨ d = 12 ∨ d = 13 ∨ d = 14) with rfl | rfl | rfl | rfl | rfl | rfl | rfl | rfl | rfl | rfl | rfl | rfl | rfl <;> decide
    unfold InD wholeT
    simp only
    rw [hs]
    omega
  · refine ⟨?_, ?_⟩
    · show mEnc ⟨0, 0, 0⟩ = 0
      decide +kernel
    · unfold Chain volT wholeT
      simp only
      rw [show (d - 2).toNat + 2 = d.toNat by omega]
      omega
theorem PlanV.split {d : Int} {l : List Tl} {k : Nat} {t : Tl} (h : PlanV d l) (ht : l[k]? = some t) (h1 : 1 ≤ t.lv) : PlanV d (splitAt l k) := by
  have htok := h.ok t (List.mem_of_getElem? ht)
  have e := split_list ht
  refine ⟨splitAt_ok h.ok ht h1, fun u hu => ?_, ?_, ?_⟩
  · rcases mem_splitAt ht hu with hu | hu
    · exact h.inD u hu
    · obtain ⟨i, _, rfl⟩ := List.mem_map.1 hu
      have hd := h.inD t (List.mem_of_getElem? ht)
      have hc := child_in htok h1 i
      unfold InD at *
      refine ⟨by show t.lv - 1 ≤ d - 2; omega, by omega, by omega, by omega⟩
  · have hc := h.chain
    rw [e] at hc
    obtain ⟨b, hb1, hb2, hb3⟩ := hc.parts
    subst hb2
    rw [splitAt_eq ht]
    exact (hb1.app (chain_split htok h1)).app hb3
  · have ha := h.apart
    rw [e] at ha
    rw [List.pairwise_append, List.pairwise_cons] at ha
    obtain ⟨a1, ⟨a2, a3⟩, a4⟩ := ha
    rw [splitAt_eq ht, List.pairwise_append, List.pairwise_append]
    refine ⟨⟨a1, split_apart htok h1, fun x hx y hy => ?_⟩, a3, fun x hx y hy => ?_⟩
    · obtain ⟨i, _, rfl⟩ := List.mem_map.1 hy
      exact (a4 x hx t (by simp)).child htok h1 i
    · rcases List.mem_append.1 hx with hx | hx
      · exact a4 x hx y (by simp [hy])
      · obtain ⟨i, _, rfl⟩ := List.mem_map.1 hx
        exact ((a2 y hy).symm.child htok h1 i).symm
theorem planR_valid {f : Tl → Int} {v : Vw} {depth : Int} (hE : planE f depth v = 0) : PlanV depth (planR f depth v).tiles :=
  planR_ind hE (fun l _ => PlanV depth l) (PlanV.start (planE_dp hE).1) fun _ _ _ _ _ _ h ht h1 _ _ => h.split ht h1
/-- What the first k tiles hold in all. -/
def volP (l : List Tl) : Int := (l.map volT).sum
theorem Chain.at : ∀ {l : List Tl} {a b : Int} {k : Nat} {t : Tl}, Chain a l b → l[k]? = some t → mEnc t.p = a + volP (l.take k)
  | [], _, _, _, _, _, h => by simp at h
  | u :: l, a, b, 0, t, hc, h => by
    simp at h; subst h
    simp [volP, hc.1]
  | u :: l, a, b, k + 1, t, hc, h => by
    have h2 := Chain.at (l := l) (k := k) hc.2 (by simpa using h)
    rw [h2]
    simp [volP, Int.add_assoc]
theorem Chain.all : ∀ {l : List Tl} {a b : Int}, Chain a l b → a + volP l = b
  | [], a, b, h => by cases h; simp [volP]
  | u :: l, a, b, h => by
    have h2 := Chain.all h.2
    rw [← h2]
    simp [volP, Int.add_assoc]
end Go.Proofs.Ytkmhjgdpkddbnaa
namespace Go.Proofs.Ytkmhjgdpkddbnaa
open Go.RowKit
set_option linter.unusedVariables false
set_option linter.unusedSimpArgs false
def Bx.sz (b : Bx) : Pt := if b.none then p0 else b.mx.sub b.mn
/-- A box within the greatest cube. -/
structure Bx.Small (b : Bx) : Prop where
  x : 0 ≤ b.mn.x ∧ b.mn.x ≤ 16384 ∧ 0 ≤ b.mx.x ∧ b.mx.x ≤ 16384
  y : 0 ≤ b.mn.y ∧ b.mn.y ≤ 16384 ∧ 0 ≤ b.mx.y ∧ b.mx.y ≤ 16384
  z : 0 ≤ b.mn.z ∧ b.mn.z ≤ 16384 ∧ 0 ≤ b.mx.z ∧ b.mx.z ≤ 16384
theorem Bx.Small.size {b : Bx} (h : b.Small) : (0 ≤ b.sz.x ∧ b.sz.x ≤ 16384) ∧ (0 ≤ b.sz.y ∧ b.sz.y ≤ 16384) ∧ (0 ≤ b.sz.z ∧ b.sz.z ≤ 16384) := by
  have hx := h.x
  have hy := h.y
  have hz := h.z
  unfold Bx.sz
  split
  · unfold p0; simp
  · rename_i hn
    unfold Bx.none at hn
    unfold Pt.sub
    simp only
    omega
theorem PlanV.at {d : Int} {l : List Tl} {k : Nat} {t : Tl} (h : PlanV d l) (hk : l[k]? = some t) : mEnc t.p = volP (l.take k) := by
  have h1 := h.chain.at hk
  omega
theorem PlanV.sum {d : Int} {l : List Tl} (h : PlanV d l) : volP l = 8 ^ d.toNat := by
  have h1 := h.chain.all
  omega
end Go.Proofs.Ytkmhjgdpkddbnaa
