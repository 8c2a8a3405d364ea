/-
  PK: several texts in one. No statement is proved here.
-/
import Derived.Test.YtkmhjgdpkddbnaaPI
import Derived.Test.YtkmhjgdpkddbnaaPC
set_option linter.unusedVariables false
set_option linter.unusedSimpArgs false
namespace Go.Proofs.Ytkmhjgdpkddbnaa
/-- Whatever holds of the first plan and stays with each split holds of the last one. -/
theorem planG_ind {f : Tl → Int} {v : Vw} {depth : Int} (I : List Tl → Int → Prop) (step : ∀ (l : List Tl) (cost : Int) (fu k : Nat) (t : Tl), RoundOk f v depth l cost fu → I l cost → l[k]? = some t → 1 ≤ t.lv → v.tol < err v t → cost + moreP f t ≤ v.bud → I (splitAt l k) (cost + moreP f t)) :
    ∀ (n : Nat) (l : List Tl) (cost : Int), RoundOk f v depth l cost n → I l cost → I (planG f v n l cost).1 (planG f v n l cost).2
  | 0, _, _, _, h => h
  | n + 1, l, cost, hr, h => by
    by_cases hk : 0 ≤ nextP f v cost l
    · obtain ⟨k, t, e, ht, h1, hl, h2, h3⟩ := nextP_ok hk
      rw [planG_step e ht (by omega)]
      exact planG_ind I step n _ _ (hr.next e ht h1 hl) (step l cost _ k t hr h ht h1 h2 h3)
    · rw [planG_stop hk]; exact h
theorem planR_ind {f : Tl → Int} {v : Vw} {depth : Int} (hE : planE f depth v = 0) (I : List Tl → Int → Prop) (h0 : I [wholeT depth] (f (wholeT depth))) (step : ∀ (l : List Tl) (cost : Int) (fu k : Nat) (t : Tl), RoundOk f v depth l cost fu → I l cost → l[k]? = some t → 1 ≤ t.lv → v.tol < err v t → cost + moreP f t ≤ v.bud → I (splitAt l k) (cost + moreP f t)) :
    I (planR f depth v).tiles (planR f depth v).cost := by
  have h := planG_ind I step 600 _ _ (RoundOk.start (f := f) (v := v) (planE_dp hE).1) h0
  have e := planR_eq (l := (planG f v 600 [wholeT depth] (f (wholeT depth))).1) (cost := (planG f v 600 [wholeT depth] (f (wholeT depth))).2) hE rfl
  rw [e]
  exact h
theorem planR_bud {f : Tl → Int} {v : Vw} {depth : Int} (hE : planE f depth v = 0) : (planR f depth v).cost ≤ v.bud :=
  planR_ind hE (fun _ c => c ≤ v.bud) (planE_dp hE).2.2 fun _ _ _ _ _ _ _ _ _ _ h => h
theorem planR_cost {f : Tl → Int} {v : Vw} {depth : Int} (hE : planE f depth v = 0) : (planR f depth v).cost = totalP f (planR f depth v).tiles := by
  obtain ⟨_, h, _⟩ := planR_round hE (planE_dp hE).1
  exact h.sum
theorem planR_bound {f : Tl → Int} {v : Vw} {depth : Int} (hE : planE f depth v = 0) : (planR f depth v).bound = boundP (planR f depth v).tiles ∧ (planR f depth v).worst = worstP v (planR f depth v).tiles := by
  have e := planR_eq (l := (planG f v 600 [wholeT depth] (f (wholeT depth))).1) (cost := (planG f v 600 [wholeT depth] (f (wholeT depth))).2) hE rfl
  rw [e]
  exact ⟨rfl, rfl⟩
theorem nextG_neg {f : Tl → Int} {v : Vw} {cost : Int} : ∀ (l : List Tl) (j : Nat) (best most : Int), 0 ≤ best → 0 ≤ nextG f v cost j best most l
  | [], _, _, _, h => by rw [nextG]; exact h
  | t :: l, j, best, most, h => by
    rw [nextG]
    split
    · exact nextG_neg l _ _ _ (by omega)
    · exact nextG_neg l _ _ _ h
theorem nextG_none {f : Tl → Int} {v : Vw} {cost : Int} : ∀ (l : List Tl) (j : Nat), ¬ 0 ≤ nextG f v cost j (-1) v.tol l → ∀ t ∈ l, ¬ (0 < t.lv ∧ v.tol < err v t ∧ cost + moreP f t ≤ v.bud)
  | [], _, _, t, ht, _ => by cases ht
  | u :: l, j, h, t, ht, hc => by
    rw [nextG] at h
    by_cases hu : 0 < u.lv ∧ v.tol < err v u ∧ cost + moreP f u ≤ v.bud
    · rw [if_pos hu] at h
      exact h (nextG_neg l _ _ _ (by omega))
    · rw [if_neg hu] at h
      rcases List.mem_cons.1 ht with rfl | ht
      · exact hu hc
      · exact nextG_none l _ h t ht hc
theorem planR_none {f : Tl → Int} {v : Vw} {depth : Int} (hE : planE f depth v = 0) (hl : (planR f depth v).tiles.length + 7 ≤ 4096) {t : Tl} (ht : t ∈ (planR f depth v).tiles) : ¬ (0 < t.lv ∧ v.tol < err v t ∧ (planR f depth v).cost + moreP f t ≤ v.bud) := by
  obtain ⟨_, _, h⟩ := planR_round hE (planE_dp hE).1
  unfold nextP at h
  rw [if_neg (by omega)] at h
  exact nextG_none _ _ h t ht
def volT (t : Tl) : Int := 8 ^ (t.lv.toNat + 2)
theorem volT_bd {t : Tl} (h : t.Ok) : 64 ≤ volT t ∧ volT t ≤ 4398046511104 := by
  have hl := h.lv
  unfold volT
  generalize t.lv = l at *
  rcases lv_cases hl with rfl | rfl | rfl | rfl | rfl | rfl | rfl | rfl | rfl | rfl | rfl | rfl | rfl <;> decide
/-- A tile lies in the cube of a depth. -/
def InD (d : Int) (t : Tl) : Prop := t.lv ≤ d - 2 ∧ t.p.x + sideL t.lv ≤ 2 ^ d.toNat ∧ t.p.y + sideL t.lv ≤ 2 ^ d.toNat ∧ t.p.z + sideL t.lv ≤ 2 ^ d.toNat
/-- The tiles cover the codes from a to b, one behind the other. -/
def Chain : Int → List Tl → Int → Prop
  | a, [], b => a = b
  | a, t :: l, b => mEnc t.p = a ∧ Chain (a + volT t) l b
theorem Chain.app {l m : List Tl} : ∀ {a b c : Int}, Chain a l b → Chain b m c → Chain a (l ++ m) c := by
  induction l with
  | nil => intro a b c h h2; cases h; exact h2
  | cons t l ih => intro a b c h h2; exact ⟨h.1, ih h.2 h2⟩
theorem Chain.parts {l m : List Tl} : ∀ {a c : Int}, Chain a (l ++ m) c → ∃ b, Chain a l b ∧ Chain b m c := by
  induction l with
  | nil => intro a c h; exact ⟨a, rfl, h⟩
  | cons t l ih =>
    intro a c h
    obtain ⟨b, h1, h2⟩ := ih h.2
    exact ⟨b, ⟨h.1, h1⟩, h2⟩
theorem chain_split {t : Tl} (h : t.Ok) (h1 : 1 ≤ t.lv) : Chain (mEnc t.p) (splitT t) (mEnc t.p + volT t) := by
  have e : splitT t = [child t 0, child t 1, child t 2, child t 3, child t 4, child t 5, child t 6, child t 7] := rfl
  have hv : ∀ k, volT (child t k) = 8 ^ (t.lv.toNat + 1) := fun k => by
    unfold volT child
    simp only
    rw [show (t.lv - 1).toNat + 2 = t.lv.toNat + 1 by have := h.lv; omega]
  have hV : volT t = 8 * 8 ^ (t.lv.toNat + 1) := by unfold volT; rw [Int.pow_succ, Int.mul_comm]
  have hc := fun k (hk : k < 8) => enc_part h h1 hk
  rw [e]
  simp only [Chain, hv, hV]
  have c0 := hc 0 (by omega)
  have c1 := hc 1 (by omega)
  have c2 := hc 2 (by omega)
  have c3 := hc 3 (by omega)
  have c4 := hc 4 (by omega)
  have c5 := hc 5 (by omega)
  have c6 := hc 6 (by omega)
  have c7 := hc 7 (by omega)
  generalize (8 : Int) ^ (t.lv.toNat + 1) = w at *
  refine ⟨?_, ?_, ?_, ?_, ?_, ?_, ?_, ?_, ?_⟩ <;> omega
/-- Two tiles have no cell in common. -/
def Apart (t u : Tl) : Prop := (t.p.x + sideL t.lv ≤ u.p.x ∨ u.p.x + sideL u.lv ≤ t.p.x) ∨ (t.p.y + sideL t.lv ≤ u.p.y ∨ u.p.y + sideL u.lv ≤ t.p.y) ∨ (t.p.z + sideL t.lv ≤ u.p.z ∨ u.p.z + sideL u.lv ≤ t.p.z)
theorem child_in {t : Tl} (h : t.Ok) (h1 : 1 ≤ t.lv) (k : Nat) : (t.p.x ≤ (child t k).p.x ∧ (child t k).p.x + sideL (child t k).lv ≤ t.p.x + sideL t.lv) ∧ (t.p.y ≤ (child t k).p.y ∧ (child t k).p.y + sideL (child t k).lv ≤ t.p.y + sideL t.lv) ∧ (t.p.z ≤ (child t k).p.z ∧ (child t k).p.z + sideL (child t k).lv ≤ t.p.z + sideL t.lv) := by
  have hl := h.lv
  have e := side_half ⟨h1, hl.2⟩
  have hb := side_bd (l := t.lv - 1) (by omega)
  have ho := octP_bd k
  unfold child Pt.add Pt.mul
  simp only
  rw [e]
  generalize sideL (t.lv - 1) = S at *
  have m : ∀ i : Int, 0 ≤ i ∧ i ≤ 1 → 0 ≤ i * S ∧ i * S ≤ S := fun i hi => by
    rcases (by omega : i = 0 ∨ i = 1) with rfl | rfl <;> omega
  have mx := m _ ho.1
  have my := m _ ho.2.1
  have mz := m _ ho.2.2
  generalize (octP k).x * S = X at *
  generalize (octP k).y * S = Y at *
  generalize (octP k).z * S = Z at *
  omega
theorem Apart.child {t u : Tl} (hu : u.Ok) (h1 : 1 ≤ u.lv) (h : Apart t u) (k : Nat) : Apart t (child u k) := by
  have hc := child_in hu h1 k
  unfold Apart at *
  omega
theorem Apart.symm {t u : Tl} (h : Apart t u) : Apart u t := by unfold Apart at *; omega
theorem child_apart {t : Tl} (h : t.Ok) (h1 : 1 ≤ t.lv) {i k : Nat} (hi : i < k) (hk : k < 8) : Apart (child t i) (child t k) := by
  have hl := h.lv
  have hb := side_bd (l := t.lv - 1) (by omega)
  unfold Apart Go.Proofs.Ytkmhjgdpkddbnaa.child Pt.add Pt.mul octP
  simp only
  generalize sideL (t.lv - 1) = S at *
  have key : ∀ a b : Nat, a < 2 → b < 2 → a ≠ b → ∀ x : Int, x + (a : Int) * S + S ≤ x + (b : Int) * S ∨ x + (b : Int) * S + S ≤ x + (a : Int) * S := by
    intro a b ha hb' hab x
    rcases (by omega : (a = 0 ∧ b = 1) ∨ (a = 1 ∧ b = 0)) with ⟨rfl, rfl⟩ | ⟨rfl, rfl⟩
    · left; simp
    · right; simp
  by_cases hx : i % 2 = k % 2
  · by_cases hy : i / 2 % 2 = k / 2 % 2
    · have hz : i / 4 % 2 ≠ k / 4 % 2 := by omega
      exact Or.inr (Or.inr (key _ _ (by omega) (by omega) hz _))
    · exact Or.inr (Or.inl (key _ _ (by omega) (by omega) hy _))
  · exact Or.inl (key _ _ (by omega) (by omega) hx _)
theorem split_apart {t : Tl} (h : t.Ok) (h1 : 1 ≤ t.lv) : (splitT t).Pairwise Apart := by
  unfold splitT
  rw [List.pairwise_map]
  have hp : (List.range 8).Pairwise fun i k => i < k ∧ k < 8 := by decide
  exact hp.imp fun hik => child_apart h h1 hik.1 hik.2
structure PlanV (d : Int) (l : List Tl) : Prop where
  ok : ∀ t ∈ l, t.Ok
  inD : ∀ t ∈ l, InD d t
  chain : Chain 0 l (8 ^ d.toNat)
  apart : l.Pairwise Apart
theorem PlanV.start {d : Int} (h : 2 ≤ d ∧ d ≤ 14) : PlanV d [wholeT d] := by
  refine ⟨fun t ht => by rw [List.mem_singleton] at ht; rw [ht]; exact wholeT_ok h, fun t ht => ?_, ?_, List.pairwise_singleton _ _⟩
  · rw [List.mem_singleton] at ht
    subst ht
    have hs : sideL (d - 2) = 2 ^ d.toNat := by
      rcases (by omega : d = 2 ∨ d = 3 ∨ d = 4 ∨ d = 5 ∨ d = 6 ∨ d = 7 ∨ d = 8 ∨ d = 9 ∨ d = 10 ∨ d = 11 ∨ d = 12 ∨ d = 13 ∨ d = 14) with rfl | rfl | rfl | rfl | rfl | rfl | rfl | rfl | rfl | rfl | rfl | rfl | rfl <;> decide
    unfold InD wholeT
    simp only
    rw [hs]
    omega
  · refine ⟨?_, ?_⟩
    · show mEnc ⟨0, 0, 0⟩ = 0
      decide +kernel
    · unfold Chain volT wholeT
      simp only
      rw [show (d - 2).toNat + 2 = d.toNat by omega]
      omega
theorem PlanV.split {d : Int} {l : List Tl} {k : Nat} {t : Tl} (h : PlanV d l) (ht : l[k]? = some t) (h1 : 1 ≤ t.lv) : PlanV d (splitAt l k) := by
  have htok := h.ok t (List.mem_of_getElem? ht)
  have e := split_list ht
  refine ⟨splitAt_ok h.ok ht h1, fun u hu => ?_, ?_, ?_⟩
  · rcases mem_splitAt ht hu with hu | hu
    · exact h.inD u hu
    · obtain ⟨i, _, rfl⟩ := List.mem_map.1 hu
      have hd := h.inD t (List.mem_of_getElem? ht)
      have hc := child_in htok h1 i
      unfold InD at *
      refine ⟨by show t.lv - 1 ≤ d - 2; omega, by omega, by omega, by omega⟩
  · have hc := h.chain
    rw [e] at hc
    obtain ⟨b, hb1, hb2, hb3⟩ := hc.parts
    subst hb2
    rw [splitAt_eq ht]
    exact (hb1.app (chain_split htok h1)).app hb3
  · have ha := h.apart
    rw [e] at ha
    rw [List.pairwise_append, List.pairwise_cons] at ha
    obtain ⟨a1, ⟨a2, a3⟩, a4⟩ := ha
    rw [splitAt_eq ht, List.pairwise_append, List.pairwise_append]
    refine ⟨⟨a1, split_apart htok h1, fun x hx y hy => ?_⟩, a3, fun x hx y hy => ?_⟩
    · obtain ⟨i, _, rfl⟩ := List.mem_map.1 hy
      exact (a4 x hx t (by simp)).child htok h1 i
    · rcases List.mem_append.1 hx with hx | hx
      · exact a4 x hx y (by simp [hy])
      · obtain ⟨i, _, rfl⟩ := List.mem_map.1 hx
        exact ((a2 y hy).symm.child htok h1 i).symm
theorem planR_valid {f : Tl → Int} {v : Vw} {depth : Int} (hE : planE f depth v = 0) : PlanV depth (planR f depth v).tiles :=
  planR_ind hE (fun l _ => PlanV depth l) (PlanV.start (planE_dp hE).1) fun _ _ _ _ _ _ h ht h1 _ _ => h.split ht h1
/-- What the first k tiles hold in all. -/
def volP (l : List Tl) : Int := (l.map volT).sum
theorem volP_take {l : List Tl} {k : Nat} {t : Tl} (h : l[k]? = some t) : volP (l.take (k + 1)) = volP (l.take k) + volT t := by
  unfold volP
  rw [List.take_add_one, h]
  simp
theorem Chain.at : ∀ {l : List Tl} {a b : Int} {k : Nat} {t : Tl}, Chain a l b → l[k]? = some t → mEnc t.p = a + volP (l.take k)
  | [], _, _, _, _, _, h => by simp at h
  | u :: l, a, b, 0, t, hc, h => by
    simp at h; subst h
    simp [volP, hc.1]
  | u :: l, a, b, k + 1, t, hc, h => by
    have h2 := Chain.at (l := l) (k := k) hc.2 (by simpa using h)
    rw [h2]
    simp [volP, Int.add_assoc]
theorem Chain.all : ∀ {l : List Tl} {a b : Int}, Chain a l b → a + volP l = b
  | [], a, b, h => by cases h; simp [volP]
  | u :: l, a, b, h => by
    have h2 := Chain.all h.2
    rw [← h2]
    simp [volP, Int.add_assoc]
end Go.Proofs.Ytkmhjgdpkddbnaa
namespace Go.Proofs.Ytkmhjgdpkddbnaa
open Go.RowKit
set_option linter.unusedVariables false
set_option linter.unusedSimpArgs false
theorem pow83d {d : Int} (h : 2 ≤ d ∧ d ≤ 14) : (1 : Int) * 2 ^ (3 * d).toNat = 8 ^ d.toNat ∧ (8 : Int) ^ d.toNat ≤ 4398046511104 ∧ 4 ≤ (2 : Int) ^ d.toNat ∧ (2 : Int) ^ d.toNat ≤ 16384 := by
  rcases (by omega : d = 2 ∨ d = 3 ∨ d = 4 ∨ d = 5 ∨ d = 6 ∨ d = 7 ∨ d = 8 ∨ d = 9 ∨ d = 10 ∨ d = 11 ∨ d = 12 ∨ d = 13 ∨ d = 14) with rfl | rfl | rfl | rfl | rfl | rfl | rfl | rfl | rfl | rfl | rfl | rfl | rfl <;> decide
def Bx.sz (b : Bx) : Pt := if b.none then p0 else b.mx.sub b.mn
def Bx.vol (b : Bx) : Int := b.sz.x * b.sz.y * b.sz.z
def Bx.meet (a b : Bx) : Bx := ⟨⟨max a.mn.x b.mn.x, max a.mn.y b.mn.y, max a.mn.z b.mn.z⟩, ⟨min a.mx.x b.mx.x, min a.mx.y b.mx.y, min a.mx.z b.mx.z⟩⟩
def Bx.inter (a b : Bx) : Bx := if (a.meet b).none then ⟨p0, p0⟩ else a.meet b
/-- A box within the greatest cube. -/
structure Bx.Small (b : Bx) : Prop where
  x : 0 ≤ b.mn.x ∧ b.mn.x ≤ 16384 ∧ 0 ≤ b.mx.x ∧ b.mx.x ≤ 16384
  y : 0 ≤ b.mn.y ∧ b.mn.y ≤ 16384 ∧ 0 ≤ b.mx.y ∧ b.mx.y ≤ 16384
  z : 0 ≤ b.mn.z ∧ b.mn.z ≤ 16384 ∧ 0 ≤ b.mx.z ∧ b.mx.z ≤ 16384
theorem Bx.Small.size {b : Bx} (h : b.Small) : (0 ≤ b.sz.x ∧ b.sz.x ≤ 16384) ∧ (0 ≤ b.sz.y ∧ b.sz.y ≤ 16384) ∧ (0 ≤ b.sz.z ∧ b.sz.z ≤ 16384) := by
  have hx := h.x
  have hy := h.y
  have hz := h.z
  unfold Bx.sz
  split
  · unfold p0; simp
  · rename_i hn
    unfold Bx.none at hn
    unfold Pt.sub
    simp only
    omega
theorem Bx.Small.vol_bd {b : Bx} (h : b.Small) : (0 ≤ b.sz.x * b.sz.y ∧ b.sz.x * b.sz.y ≤ 268435456) ∧ (0 ≤ b.sz.x * b.sz.y * b.sz.z ∧ b.sz.x * b.sz.y * b.sz.z ≤ 4398046511104) := by
  obtain ⟨hx, hy, hz⟩ := h.size
  have h1 : 0 ≤ b.sz.x * b.sz.y := Int.mul_nonneg hx.1 hy.1
  have h2 : b.sz.x * b.sz.y ≤ 16384 * 16384 := Int.mul_le_mul hx.2 hy.2 hy.1 (by omega)
  have h3 : 0 ≤ b.sz.x * b.sz.y * b.sz.z := Int.mul_nonneg h1 hz.1
  have h4 : b.sz.x * b.sz.y * b.sz.z ≤ 268435456 * 16384 := Int.mul_le_mul (by omega) hz.2 hz.1 (by omega)
  omega
theorem Bx.Small.inter {a b : Bx} (ha : a.Small) (hb : b.Small) : (a.inter b).Small := by
  have ax := ha.x
  have ay := ha.y
  have az := ha.z
  have bx := hb.x
  have bY := hb.y
  have bz := hb.z
  unfold Bx.inter
  split
  · exact ⟨by unfold p0; simp, by unfold p0; simp, by unfold p0; simp⟩
  · unfold Bx.meet
    exact ⟨by simp only; omega, by simp only; omega, by simp only; omega⟩
theorem Tl.Ok.small {t : Tl} (h : t.Ok) : t.box.Small := by
  have hx := h.x
  have hy := h.y
  have hz := h.z
  have hs := side_bd h.lv
  unfold Tl.box Bx.shift cubeB Pt.add
  exact ⟨by simp only; omega, by simp only; omega, by simp only; omega⟩
theorem side3 {l : Int} (h : 0 ≤ l ∧ l ≤ 12) : sideL l * sideL l * sideL l = 8 ^ (l.toNat + 2) := by
  rcases lv_cases h with rfl | rfl | rfl | rfl | rfl | rfl | rfl | rfl | rfl | rfl | rfl | rfl | rfl <;> decide
theorem box_vol {t : Tl} (h : t.Ok) : t.box.vol = volT t := by
  have hs := side_bd h.lv
  have hn : ¬ t.box.none := by unfold Bx.none Tl.box Bx.shift cubeB Pt.add; simp only; omega
  unfold Bx.vol Bx.sz
  rw [if_neg hn]
  unfold Tl.box Bx.shift cubeB Pt.add Pt.sub volT
  simp only
  rw [← side3 h.lv, show sideL t.lv + t.p.x - (0 + t.p.x) = sideL t.lv by omega, show sideL t.lv + t.p.y - (0 + t.p.y) = sideL t.lv by omega, show sideL t.lv + t.p.z - (0 + t.p.z) = sideL t.lv by omega]
theorem apart_vol {t u : Tl} (h : Apart t u) : (t.box.inter u.box).vol = 0 := by
  have hn : (t.box.meet u.box).none := by
    unfold Apart at h
    unfold Bx.none Bx.meet Tl.box Bx.shift cubeB Pt.add
    simp only
    omega
  unfold Bx.inter
  rw [if_pos hn]
  decide
theorem PlanV.at {d : Int} {l : List Tl} {k : Nat} {t : Tl} (h : PlanV d l) (hk : l[k]? = some t) : mEnc t.p = volP (l.take k) := by
  have h1 := h.chain.at hk
  omega
theorem PlanV.sum {d : Int} {l : List Tl} (h : PlanV d l) : volP l = 8 ^ d.toNat := by
  have h1 := h.chain.all
  omega
theorem PlanV.volB {d : Int} {l : List Tl} {k : Nat} {t : Tl} (h : PlanV d l) (hk : l[k]? = some t) : 0 ≤ volP (l.take k) ∧ volP (l.take k) < 4398046511104 := by
  rw [← h.at hk]
  exact mEnc_in (h.ok t (List.mem_of_getElem? hk)).inP
theorem PlanV.apartAt {d : Int} {l : List Tl} {i k : Nat} {t u : Tl} (h : PlanV d l) (hi : l[i]? = some u) (hk : l[k]? = some t) (hlt : i < k) : Apart u t := by
  obtain ⟨h1, rfl⟩ := List.getElem?_eq_some_iff.1 hi
  obtain ⟨h2, rfl⟩ := List.getElem?_eq_some_iff.1 hk
  exact List.pairwise_iff_getElem.1 h.apart i k h1 h2 hlt
set_option maxRecDepth 100000 in
set_option maxHeartbeats 4000000 in
theorem rsize_any (b : Bx) (hb : b.Small) (w : World) : Calls Try.prog 60 #[.agg (bxs b).toArray] w (RetV w (.agg (pcs b.sz).toArray)) := by
 have hm0 := Mem.nil w
 go_enter Try.func60, Try.ntmps60
 refine litStart 13 [(0, .agg (bxs b).toArray)] (by kernel_rfl) (fun X0 => ?_)
 refine wp_seq_k fun K1 hK1 => ?_
 refine plStart ?_
 refine plBox hm0 (cs := bxs b) (i := 0) rfl (wn rfl) rfl (litEv (by kernel_rfl)) ?_
 intro g2 w4 hm3
 clear hm0
 try simp only [List.cons_append, List.nil_append, List.set_cons_succ, List.set_cons_zero] at hm3
 refine qP rfl ?_
 refine plAlloc (z := [.int .i64 0, .int .i64 0, .int .i64 0]) Ty.ag_voxel_api_Point hm3 (i := 1) rfl (wn rfl) rfl ?_
 intro g5 w7 hm6
 clear hm3
 try simp only [List.cons_append, List.nil_append, List.set_cons_succ, List.set_cons_zero] at hm6
 refine qP rfl ?_
 refine plD ?_
 refine then_normal (hK1 _ _ ?_)
 refine wp_seq_k fun K8 hK8 => ?_
 refine plStart ?_
 refine litVal (v := .agg (bxs b).toArray) rfl (wn rfl) (gLoadAg (vs := bxs b) (k := 0) 0 hm6 rfl (by kernel_rfl) (by kernel_rfl) (.tmp 1) Ty.ag_voxel_api_Box rfl (litEv (by kernel_rfl))) rfl (by decide) ?_
 refine plCall (i := 1) 56 [.agg (bxs b).toArray] [] [] rfl (by kernel_rfl) (wn rfl) rfl (litEv (by kernel_rfl)) (litArgs (by kernel_rfl)) (rempty_any b _) ?_
 rintro e w9 ⟨rfl, hbz⟩
 have hm10 := hm6.below hbz
 clear hbz hm6
 refine ⟨_, rfl, ?_⟩
 refine qP rfl ?_
 rcases bool_or (decide b.none) with h11 | h11
 · rw [h11]
   refine lk (v := .bool false) rfl rfl rfl ?_
   refine plD ?_
   refine then_normal (hK8 _ _ ?_)
   refine wp_seq_k fun K12 hK12 => ?_
   refine wp_seq_k fun K13 hK13 => ?_
   refine plStart ?_
   refine lk (v := .bool false) rfl rfl rfl ?_
   refine plD ?_
   refine then_normal (hK13 _ _ ?_)
   refine wp_cond_false (litEv (by kernel_rfl)) ?_
   refine wp_skip ?_
   refine then_normal (hK12 _ _ ?_)
   refine wp_seq_k fun K14 hK14 => ?_
   refine plStart ?_
   refine lk (v := .pointer (some ⟨g2, 3, none⟩)) rfl rfl rfl ?_
   refine litVal (v := .agg (pcs b.mx).toArray) rfl (wn rfl) (gLoadAg (vs := pcs b.mx) (k := 3) 0 hm10 rfl (by kernel_rfl) (by kernel_rfl) (.tmp 8) Ty.ag_voxel_api_Point rfl (litEv (by kernel_rfl))) rfl (by decide) ?_
   refine lk (v := .pointer (some ⟨g2, 0, none⟩)) rfl rfl rfl ?_
   refine litVal (v := .agg (pcs b.mn).toArray) rfl (wn rfl) (gLoadAg (vs := pcs b.mn) (k := 0) 0 hm10 rfl (by kernel_rfl) (by kernel_rfl) (.tmp 10) Ty.ag_voxel_api_Point rfl (litEv (by kernel_rfl))) rfl (by decide) ?_
   refine plCall (i := 4) 70 [.agg (pcs b.mx).toArray, .agg (pcs b.mn).toArray] [] [] rfl (by kernel_rfl) (wn rfl) rfl (litEv (by kernel_rfl)) (litArgs (by kernel_rfl)) (rsub_any b.mx b.mn (by have hx_ := hb.x; have hy_ := hb.y; have hz_ := hb.z; omega) (by have hx_ := hb.x; have hy_ := hb.y; have hz_ := hb.z; omega) _) ?_
   rintro e w15 ⟨rfl, hbz⟩
   have hm16 := hm10.below hbz
   clear hbz hm10
   refine ⟨_, rfl, ?_⟩
   refine qP rfl ?_
   refine plStore 1 Ty.ag_voxel_api_Point hm16 rfl (i := 5) (cs := pcs (b.mx.sub b.mn)) rfl (wn rfl) rfl (litEv (by kernel_rfl)) (litEv (by kernel_rfl)) rfl rfl (by kernel_rfl) ?_
   intro w18 hm17
   clear hm16
   try simp only [List.cons_append, List.nil_append, List.set_cons_succ, List.set_cons_zero] at hm17
   refine qNone rfl ?_
   refine plD ?_
   refine then_normal (hK14 _ _ ?_)
   refine wp_ret ?_
   refine bodyPost_ret (v := .agg (pcs (b.mx.sub b.mn)).toArray) (gRes1 rfl (gResAg (cs := pcs (b.mx.sub b.mn)) 1 hm17 rfl Ty.ag_voxel_api_Point rfl (litGet (by kernel_rfl)))) rfl ?_
   exact ⟨congrArg (fun p_ => Ending.returned (.agg (pcs p_).toArray)) (show b.mx.sub b.mn = b.sz by unfold Bx.sz; rw [if_neg (of_decide_eq_false h11)]), hm17.bel⟩
 rw [h11]
 refine lk (v := .bool true) rfl rfl rfl ?_
 refine plD ?_
 refine then_normal (hK8 _ _ ?_)
 refine wp_seq_k fun K19 hK19 => ?_
 refine wp_seq_k fun K20 hK20 => ?_
 refine plStart ?_
 refine lk (v := .bool true) rfl rfl rfl ?_
 refine plD ?_
 refine then_normal (hK20 _ _ ?_)
 refine wp_cond_true (litEv (by kernel_rfl)) ?_
 refine wp_seq_k fun K21 hK21 => ?_
 refine plStart ?_
 refine lk (v := .agg (pcs ⟨0, 0, 0⟩).toArray) rfl rfl rfl ?_
 refine plStore 1 Ty.ag_voxel_api_Point hm10 rfl (i := 1) (cs := pcs ⟨0, 0, 0⟩) rfl (wn rfl) rfl (litEv (by kernel_rfl)) (litEv (by kernel_rfl)) rfl rfl (by kernel_rfl) ?_
 intro w23 hm22
 clear hm10
 try simp only [List.cons_append, List.nil_append, List.set_cons_succ, List.set_cons_zero] at hm22
 refine qNone rfl ?_
 refine plD ?_
 refine then_normal (hK21 _ _ ?_)
 refine wp_ret ?_
 refine then_ret ?_
 refine bodyPost_ret (v := .agg (pcs ⟨0, 0, 0⟩).toArray) (gRes1 rfl (gResAg (cs := pcs ⟨0, 0, 0⟩) 1 hm22 rfl Ty.ag_voxel_api_Point rfl (litGet (by kernel_rfl)))) rfl ?_
 exact ⟨congrArg (fun p_ => Ending.returned (.agg (pcs p_).toArray)) (show p0 = b.sz by unfold Bx.sz; rw [if_pos (of_decide_eq_true h11)]), hm22.bel⟩
set_option maxRecDepth 100000 in
set_option maxHeartbeats 4000000 in
theorem rvol_any (b : Bx) (hb : b.Small) (w : World) : Calls Try.prog 40 #[.agg (bxs b).toArray] w (RetV w (.int .i64 b.vol)) := by
 obtain ⟨hv1_, hv2_⟩ := hb.vol_bd
 have hm0 := Mem.nil w
 go_enter Try.func40, Try.ntmps40
 refine litStart 14 [(0, .agg (bxs b).toArray)] (by kernel_rfl) (fun X0 => ?_)
 refine wp_seq_k fun K1 hK1 => ?_
 refine plStart ?_
 refine plBox hm0 (cs := bxs b) (i := 0) rfl (wn rfl) rfl (litEv (by kernel_rfl)) ?_
 intro g2 w4 hm3
 clear hm0
 try simp only [List.cons_append, List.nil_append, List.set_cons_succ, List.set_cons_zero] at hm3
 refine qP rfl ?_
 refine lk (v := .int .i64 0) rfl rfl rfl ?_
 refine plD ?_
 refine then_normal (hK1 _ _ ?_)
 refine wp_seq_k fun K5 hK5 => ?_
 refine plStart ?_
 refine litVal (v := .agg (bxs b).toArray) rfl (wn rfl) (gLoadAg (vs := bxs b) (k := 0) 0 hm3 rfl (by kernel_rfl) (by kernel_rfl) (.tmp 1) Ty.ag_voxel_api_Box rfl (litEv (by kernel_rfl))) rfl (by decide) ?_
 refine plCall (i := 1) 60 [.agg (bxs b).toArray] [] [] rfl (by kernel_rfl) (wn rfl) rfl (litEv (by kernel_rfl)) (litArgs (by kernel_rfl)) (rsize_any b hb _) ?_
 rintro e w6 ⟨rfl, hbz⟩
 have hm7 := hm3.below hbz
 clear hbz hm3
 refine ⟨_, rfl, ?_⟩
 refine qP rfl ?_
 refine plAlloc (z := [.int .i64 0, .int .i64 0, .int .i64 0]) Ty.ag_voxel_api_Point hm7 (i := 2) rfl (wn rfl) rfl ?_
 intro g8 w10 hm9
 clear hm7
 try simp only [List.cons_append, List.nil_append, List.set_cons_succ, List.set_cons_zero] at hm9
 refine qP rfl ?_
 refine plStore 1 Ty.ag_voxel_api_Point hm9 rfl (i := 3) (cs := pcs b.sz) rfl (wn rfl) rfl (litEv (by kernel_rfl)) (litEv (by kernel_rfl)) rfl rfl (by kernel_rfl) ?_
 intro w12 hm11
 clear hm9
 try simp only [List.cons_append, List.nil_append, List.set_cons_succ, List.set_cons_zero] at hm11
 refine qNone rfl ?_
 refine plD ?_
 refine then_normal (hK5 _ _ ?_)
 refine wp_seq_k fun K13 hK13 => ?_
 refine plStart ?_
 refine lk (v := .pointer (some ⟨g8, 0, none⟩)) rfl rfl rfl ?_
 refine litVal (v := .int .i64 b.sz.x) rfl (wn rfl) (gLoad (v := .int .i64 b.sz.x) (k := 0) 1 hm11 rfl (by kernel_rfl) (.tmp 6) (by kernel_rfl) rfl (litEv (by kernel_rfl))) rfl (by decide) ?_
 refine lk (v := .pointer (some ⟨g8, 1, none⟩)) rfl rfl rfl ?_
 refine litVal (v := .int .i64 b.sz.y) rfl (wn rfl) (gLoad (v := .int .i64 b.sz.y) (k := 1) 1 hm11 rfl (by kernel_rfl) (.tmp 8) (by kernel_rfl) rfl (litEv (by kernel_rfl))) rfl (by decide) ?_
 refine litVal (v := .int .i64 (b.sz.x * b.sz.y)) rfl (wn rfl) (mulRun' (A := b.sz.x) (B := b.sz.y) (C := b.sz.x * b.sz.y) (.tmp 7) (.tmp 9) rfl (litEv (by kernel_rfl)) (litEv (by kernel_rfl)) rfl (by omega)) rfl (by decide) ?_
 refine lk (v := .pointer (some ⟨g8, 2, none⟩)) rfl rfl rfl ?_
 refine litVal (v := .int .i64 b.sz.z) rfl (wn rfl) (gLoad (v := .int .i64 b.sz.z) (k := 2) 1 hm11 rfl (by kernel_rfl) (.tmp 11) (by kernel_rfl) rfl (litEv (by kernel_rfl))) rfl (by decide) ?_
 refine litVal (v := .int .i64 (b.sz.x * b.sz.y * b.sz.z)) rfl (wn rfl) (mulRun' (A := (b.sz.x * b.sz.y)) (B := b.sz.z) (C := b.sz.x * b.sz.y * b.sz.z) (.tmp 10) (.tmp 12) rfl (litEv (by kernel_rfl)) (litEv (by kernel_rfl)) rfl (by omega)) rfl (by decide) ?_
 refine lk (v := .int .i64 (b.sz.x * b.sz.y * b.sz.z)) rfl rfl rfl ?_
 refine plD ?_
 refine then_normal (hK13 _ _ ?_)
 refine wpPrune [(2, .int .i64 (b.sz.x * b.sz.y * b.sz.z))] ⟨litGet (by kernel_rfl), trivial⟩ (fun X14 => ?_)
 refine wp_ret ?_
 refine bodyPost_ret (v := .int .i64 (b.sz.x * b.sz.y * b.sz.z)) (gRes1 rfl (gResTmp (t := 2) (v := .int .i64 (b.sz.x * b.sz.y * b.sz.z)) (litGet (by kernel_rfl)))) rfl ?_
 exact ⟨by rfl, hm11.bel⟩
set_option maxRecDepth 100000 in
set_option maxHeartbeats 4000000 in
theorem inter_any (a b : Bx) (w : World) : Calls Try.prog 41 #[.agg (bxs a).toArray, .agg (bxs b).toArray] w (RetV w (.agg (bxs (a.inter b)).toArray)) := by
 have hm0 := Mem.nil w
 go_enter Try.func41, Try.ntmps41
 refine litStart 56 [(0, .agg (bxs a).toArray), (1, .agg (bxs b).toArray)] (by kernel_rfl) (fun X0 => ?_)
 refine wp_seq_k fun K1 hK1 => ?_
 refine plStart ?_
 refine plBox hm0 (cs := bxs a) (i := 0) rfl (wn rfl) rfl (litEv (by kernel_rfl)) ?_
 intro g2 w4 hm3
 clear hm0
 try simp only [List.cons_append, List.nil_append, List.set_cons_succ, List.set_cons_zero] at hm3
 refine qP rfl ?_
 refine plBox hm3 (cs := bxs b) (i := 1) rfl (wn rfl) rfl (litEv (by kernel_rfl)) ?_
 intro g5 w7 hm6
 clear hm3
 try simp only [List.cons_append, List.nil_append, List.set_cons_succ, List.set_cons_zero] at hm6
 refine qP rfl ?_
 refine plAlloc (z := [.int .i64 0, .int .i64 0, .int .i64 0, .int .i64 0, .int .i64 0, .int .i64 0]) Ty.ag_voxel_api_Box hm6 (i := 2) rfl (wn rfl) rfl ?_
 intro g8 w10 hm9
 clear hm6
 try simp only [List.cons_append, List.nil_append, List.set_cons_succ, List.set_cons_zero] at hm9
 refine qP rfl ?_
 refine plD ?_
 refine then_normal (hK1 _ _ ?_)
 refine wp_seq_k fun K11 hK11 => ?_
 refine plStart ?_
 refine lk (v := .pointer (some ⟨g2, 0, none⟩)) rfl rfl rfl ?_
 refine litVal (v := .agg (pcs a.mn).toArray) rfl (wn rfl) (gLoadAg (vs := pcs a.mn) (k := 0) 0 hm9 rfl (by kernel_rfl) (by kernel_rfl) (.tmp 12) Ty.ag_voxel_api_Point rfl (litEv (by kernel_rfl))) rfl (by decide) ?_
 refine plCall (i := 2) 57 [.agg (pcs a.mn).toArray] [] [] rfl (by kernel_rfl) (wn rfl) rfl (litEv (by kernel_rfl)) (litArgs (by kernel_rfl)) (list_any a.mn _) ?_
 rintro e w12 ⟨rfl, hbz⟩
 have hm13 := hm9.below hbz
 clear hbz hm9
 refine ⟨_, rfl, ?_⟩
 refine qP rfl ?_
 refine plAlloc (z := [.int .i64 0, .int .i64 0, .int .i64 0]) Ty.ag_3_int hm13 (i := 3) rfl (wn rfl) rfl ?_
 intro g14 w16 hm15
 clear hm13
 try simp only [List.cons_append, List.nil_append, List.set_cons_succ, List.set_cons_zero] at hm15
 refine qP rfl ?_
 refine plStore 3 Ty.ag_3_int hm15 rfl (i := 4) (cs := pcs a.mn) rfl (wn rfl) rfl (litEv (by kernel_rfl)) (litEv (by kernel_rfl)) rfl rfl (by kernel_rfl) ?_
 intro w18 hm17
 clear hm15
 try simp only [List.cons_append, List.nil_append, List.set_cons_succ, List.set_cons_zero] at hm17
 refine qNone rfl ?_
 refine plD ?_
 refine then_normal (hK11 _ _ ?_)
 refine wp_seq_k fun K19 hK19 => ?_
 refine plStart ?_
 refine lk (v := .pointer (some ⟨g2, 3, none⟩)) rfl rfl rfl ?_
 refine litVal (v := .agg (pcs a.mx).toArray) rfl (wn rfl) (gLoadAg (vs := pcs a.mx) (k := 3) 0 hm17 rfl (by kernel_rfl) (by kernel_rfl) (.tmp 15) Ty.ag_voxel_api_Point rfl (litEv (by kernel_rfl))) rfl (by decide) ?_
 refine plCall (i := 2) 57 [.agg (pcs a.mx).toArray] [] [] rfl (by kernel_rfl) (wn rfl) rfl (litEv (by kernel_rfl)) (litArgs (by kernel_rfl)) (list_any a.mx _) ?_
 rintro e w20 ⟨rfl, hbz⟩
 have hm21 := hm17.below hbz
 clear hbz hm17
 refine ⟨_, rfl, ?_⟩
 refine qP rfl ?_
 refine plAlloc (z := [.int .i64 0, .int .i64 0, .int .i64 0]) Ty.ag_3_int hm21 (i := 3) rfl (wn rfl) rfl ?_
 intro g22 w24 hm23
 clear hm21
 try simp only [List.cons_append, List.nil_append, List.set_cons_succ, List.set_cons_zero] at hm23
 refine qP rfl ?_
 refine plStore 4 Ty.ag_3_int hm23 rfl (i := 4) (cs := pcs a.mx) rfl (wn rfl) rfl (litEv (by kernel_rfl)) (litEv (by kernel_rfl)) rfl rfl (by kernel_rfl) ?_
 intro w26 hm25
 clear hm23
 try simp only [List.cons_append, List.nil_append, List.set_cons_succ, List.set_cons_zero] at hm25
 refine qNone rfl ?_
 refine plD ?_
 refine then_normal (hK19 _ _ ?_)
 refine wp_seq_k fun K27 hK27 => ?_
 refine plStart ?_
 refine lk (v := .pointer (some ⟨g5, 0, none⟩)) rfl rfl rfl ?_
 refine litVal (v := .agg (pcs b.mn).toArray) rfl (wn rfl) (gLoadAg (vs := pcs b.mn) (k := 0) 1 hm25 rfl (by kernel_rfl) (by kernel_rfl) (.tmp 18) Ty.ag_voxel_api_Point rfl (litEv (by kernel_rfl))) rfl (by decide) ?_
 refine plCall (i := 2) 57 [.agg (pcs b.mn).toArray] [] [] rfl (by kernel_rfl) (wn rfl) rfl (litEv (by kernel_rfl)) (litArgs (by kernel_rfl)) (list_any b.mn _) ?_
 rintro e w28 ⟨rfl, hbz⟩
 have hm29 := hm25.below hbz
 clear hbz hm25
 refine ⟨_, rfl, ?_⟩
 refine qP rfl ?_
 refine plAlloc (z := [.int .i64 0, .int .i64 0, .int .i64 0]) Ty.ag_3_int hm29 (i := 3) rfl (wn rfl) rfl ?_
 intro g30 w32 hm31
 clear hm29
 try simp only [List.cons_append, List.nil_append, List.set_cons_succ, List.set_cons_zero] at hm31
 refine qP rfl ?_
 refine plStore 5 Ty.ag_3_int hm31 rfl (i := 4) (cs := pcs b.mn) rfl (wn rfl) rfl (litEv (by kernel_rfl)) (litEv (by kernel_rfl)) rfl rfl (by kernel_rfl) ?_
 intro w34 hm33
 clear hm31
 try simp only [List.cons_append, List.nil_append, List.set_cons_succ, List.set_cons_zero] at hm33
 refine qNone rfl ?_
 refine plD ?_
 refine then_normal (hK27 _ _ ?_)
 refine wp_seq_k fun K35 hK35 => ?_
 refine plStart ?_
 refine lk (v := .pointer (some ⟨g5, 3, none⟩)) rfl rfl rfl ?_
 refine litVal (v := .agg (pcs b.mx).toArray) rfl (wn rfl) (gLoadAg (vs := pcs b.mx) (k := 3) 1 hm33 rfl (by kernel_rfl) (by kernel_rfl) (.tmp 21) Ty.ag_voxel_api_Point rfl (litEv (by kernel_rfl))) rfl (by decide) ?_
 refine plCall (i := 2) 57 [.agg (pcs b.mx).toArray] [] [] rfl (by kernel_rfl) (wn rfl) rfl (litEv (by kernel_rfl)) (litArgs (by kernel_rfl)) (list_any b.mx _) ?_
 rintro e w36 ⟨rfl, hbz⟩
 have hm37 := hm33.below hbz
 clear hbz hm33
 refine ⟨_, rfl, ?_⟩
 refine qP rfl ?_
 refine plAlloc (z := [.int .i64 0, .int .i64 0, .int .i64 0]) Ty.ag_3_int hm37 (i := 3) rfl (wn rfl) rfl ?_
 intro g38 w40 hm39
 clear hm37
 try simp only [List.cons_append, List.nil_append, List.set_cons_succ, List.set_cons_zero] at hm39
 refine qP rfl ?_
 refine plStore 6 Ty.ag_3_int hm39 rfl (i := 4) (cs := pcs b.mx) rfl (wn rfl) rfl (litEv (by kernel_rfl)) (litEv (by kernel_rfl)) rfl rfl (by kernel_rfl) ?_
 intro w42 hm41
 clear hm39
 try simp only [List.cons_append, List.nil_append, List.set_cons_succ, List.set_cons_zero] at hm41
 refine qNone rfl ?_
 refine plD ?_
 refine then_normal (hK35 _ _ ?_)
 refine wpPrune [(4, .pointer (some ⟨g8, 0, none⟩)), (5, .pointer (some ⟨g14, 0, none⟩)), (6, .pointer (some ⟨g22, 0, none⟩)), (7, .pointer (some ⟨g30, 0, none⟩)), (8, .pointer (some ⟨g38, 0, none⟩))] ⟨litGet (by kernel_rfl), ⟨litGet (by kernel_rfl), ⟨litGet (by kernel_rfl), ⟨litGet (by kernel_rfl), ⟨litGet (by kernel_rfl), trivial⟩⟩⟩⟩⟩ (fun X43 => ?_)
 refine wp_seq_k fun K44 hK44 => ?_
 refine wp_seq_k fun K45 hK45 => ?_
 refine plStart ?_
 refine lk (v := .int .i64 0) rfl rfl rfl ?_
 refine plD ?_
 refine then_normal (hK45 _ _ ?_)
 refine wp_block ?_
 refine roundsStart 3 ?_
 refine wp_seq_k fun K46 hK46 => ?_
 refine wp_seq_k fun K47 hK47 => ?_
 refine plStart ?_
 refine lk (v := .int .i64 0) rfl rfl rfl ?_
 refine lk (v := .bool true) rfl rfl rfl ?_
 refine plD ?_
 refine then_normal (hK47 _ _ ?_)
 refine wp_cond_true (litEv (by kernel_rfl)) ?_
 refine wp_skip ?_
 refine then_normal (hK46 _ _ ?_)
 refine wp_seq_k fun K48 hK48 => ?_
 refine wp_block ?_
 refine wp_seq_k fun K49 hK49 => ?_
 refine aoStart (aoV [fun _ => .int .i64 0, fun _ => .int .i64 0, fun _ => .pointer (some ⟨g14, 0, none⟩), fun _ => .int .i64 a.mn.x, fun _ => .int .i64 0, fun _ => .pointer (some ⟨g30, 0, none⟩), fun _ => .int .i64 b.mn.x, fun _ => .int .i64 (max a.mn.x b.mn.x), fun _ => .pointer (some ⟨g14, 0, none⟩), fun _ => undef]) (aoA [0, 1, 2, 3, 4, 5, 6, 7, 8, 9]) (fun b_ g_ => ((.arr g2 55 (bxs a)) :: (.arr g5 55 (bxs b)) :: (.arr g8 55 ([.int .i64 0, .int .i64 0, .int .i64 0, .int .i64 0, .int .i64 0, .int .i64 0])) :: (.arr g14 60 (bsel (b_ 9) [.int .i64 (max a.mn.x b.mn.x), .int .i64 a.mn.y, .int .i64 a.mn.z] (pcs a.mn))) :: (.arr g22 60 (pcs a.mx)) :: (.arr g30 60 (pcs b.mn)) :: (.arr g38 60 (pcs b.mx)) :: [])) hm41 (by kernel_rfl) (by kernel_rfl) (fun w_ h_ => h_) (fun b_ g_ h_ => by show (fun (x9_ : Bool) => (((.arr g2 55 (bxs a)) :: (.arr g5 55 (bxs b)) :: (.arr g8 55 ([.int .i64 0, .int .i64 0, .int .i64 0, .int .i64 0, .int .i64 0, .int .i64 0])) :: (.arr g14 60 (bsel x9_ [.int .i64 (max a.mn.x b.mn.x), .int .i64 a.mn.y, .int .i64 a.mn.z] (pcs a.mn))) :: (.arr g22 60 (pcs a.mx)) :: (.arr g30 60 (pcs b.mn)) :: (.arr g38 60 (pcs b.mx)) :: []) : List Res)) (b_ 9) = _; rw [h_ 9 (by decide)]) ?_ ?_
 · refine aoNext rfl (aoVal (fun g_ => [(9, .int .i64 0)]) (fun g_ a_ h_k => ⟨(h_k.out 9 (by kernel_rfl)).trans (litGet (by kernel_rfl)), trivial⟩) (fun g_ X_ => (wn rfl)) (fun b_ g_ => by kernel_rfl) (fun b_ g_ X_ w_ h_b h_ => valTo (b := .int .i64 0) (by kernel_rfl) (litRun (by kernel_rfl)))) ?_
   refine aoNext rfl (aoVal (fun g_ => [(9, .int .i64 0)]) (fun g_ a_ h_k => ⟨(h_k.out 9 (by kernel_rfl)).trans (litGet (by kernel_rfl)), trivial⟩) (fun g_ X_ => (wn rfl)) (fun b_ g_ => by kernel_rfl) (fun b_ g_ X_ w_ h_b h_ => valTo (b := .int .i64 0) (by kernel_rfl) (litRun (by kernel_rfl)))) ?_
   refine aoNext rfl (aoVal (fun g_ => [(5, .pointer (some ⟨g14, 0, none⟩)), (29, .int .i64 0)]) (fun g_ a_ h_k => ⟨(h_k.out 5 (by kernel_rfl)).trans (litGet (by kernel_rfl)), (h_k.inn 1 _ _ (by kernel_rfl) rfl rfl).trans (by kernel_rfl), trivial⟩) (fun g_ X_ => (wn rfl)) (fun b_ g_ => by kernel_rfl) (fun b_ g_ X_ w_ h_b h_ => valTo (b := .pointer (some ⟨g14, 0, none⟩)) (by kernel_rfl) (iaRun (b := g14) (off := 0) (s := 1) (n := 3) (kk := .i64) (.tmp 5) (.tmp 29) 0 Ty.und_3_int (by kernel_rfl) rfl (litEv (by kernel_rfl)) (litEv (by kernel_rfl)) rfl (by decide)))) ?_
   refine aoNext rfl (aoVal (fun g_ => [(30, .pointer (some ⟨g14, 0, none⟩))]) (fun g_ a_ h_k => ⟨(h_k.inn 2 _ _ (by kernel_rfl) rfl rfl).trans (by kernel_rfl), trivial⟩) (fun g_ X_ => (wn rfl)) (fun b_ g_ => by kernel_rfl) (fun b_ g_ X_ w_ h_b h_ => valTo (b := .int .i64 a.mn.x) (by kernel_rfl) ((fun (h_ : Mem _ w_ ((.arr g2 55 (bxs a)) :: (.arr g5 55 (bxs b)) :: (.arr g8 55 ([.int .i64 0, .int .i64 0, .int .i64 0, .int .i64 0, .int .i64 0, .int .i64 0])) :: (.arr g14 60 (pcs a.mn)) :: (.arr g22 60 (pcs a.mx)) :: (.arr g30 60 (pcs b.mn)) :: (.arr g38 60 (pcs b.mx)) :: [])) => gLoad (v := .int .i64 a.mn.x) (k := 0) 3 h_ rfl (by kernel_rfl) (.tmp 30) (by kernel_rfl) rfl (litEv (by kernel_rfl))) (by have h2_ : Mem w w_ ((.arr g2 55 (bxs a)) :: (.arr g5 55 (bxs b)) :: (.arr g8 55 ([.int .i64 0, .int .i64 0, .int .i64 0, .int .i64 0, .int .i64 0, .int .i64 0])) :: (.arr g14 60 (bsel (b_ 9) [.int .i64 (max a.mn.x b.mn.x), .int .i64 a.mn.y, .int .i64 a.mn.z] (pcs a.mn))) :: (.arr g22 60 (pcs a.mx)) :: (.arr g30 60 (pcs b.mn)) :: (.arr g38 60 (pcs b.mx)) :: []) := h_; rw [bselF (h_b.post 9 (by kernel_rfl))] at h2_; exact h2_)))) ?_
   refine aoNext rfl (aoVal (fun g_ => [(9, .int .i64 0)]) (fun g_ a_ h_k => ⟨(h_k.out 9 (by kernel_rfl)).trans (litGet (by kernel_rfl)), trivial⟩) (fun g_ X_ => (wn rfl)) (fun b_ g_ => by kernel_rfl) (fun b_ g_ X_ w_ h_b h_ => valTo (b := .int .i64 0) (by kernel_rfl) (litRun (by kernel_rfl)))) ?_
   refine aoNext rfl (aoVal (fun g_ => [(7, .pointer (some ⟨g30, 0, none⟩)), (32, .int .i64 0)]) (fun g_ a_ h_k => ⟨(h_k.out 7 (by kernel_rfl)).trans (litGet (by kernel_rfl)), (h_k.inn 4 _ _ (by kernel_rfl) rfl rfl).trans (by kernel_rfl), trivial⟩) (fun g_ X_ => (wn rfl)) (fun b_ g_ => by kernel_rfl) (fun b_ g_ X_ w_ h_b h_ => valTo (b := .pointer (some ⟨g30, 0, none⟩)) (by kernel_rfl) (iaRun (b := g30) (off := 0) (s := 1) (n := 3) (kk := .i64) (.tmp 7) (.tmp 32) 0 Ty.und_3_int (by kernel_rfl) rfl (litEv (by kernel_rfl)) (litEv (by kernel_rfl)) rfl (by decide)))) ?_
   refine aoNext rfl (aoVal (fun g_ => [(33, .pointer (some ⟨g30, 0, none⟩))]) (fun g_ a_ h_k => ⟨(h_k.inn 5 _ _ (by kernel_rfl) rfl rfl).trans (by kernel_rfl), trivial⟩) (fun g_ X_ => (wn rfl)) (fun b_ g_ => by kernel_rfl) (fun b_ g_ X_ w_ h_b h_ => valTo (b := .int .i64 b.mn.x) (by kernel_rfl) ((fun (h_ : Mem _ w_ ((.arr g2 55 (bxs a)) :: (.arr g5 55 (bxs b)) :: (.arr g8 55 ([.int .i64 0, .int .i64 0, .int .i64 0, .int .i64 0, .int .i64 0, .int .i64 0])) :: (.arr g14 60 (pcs a.mn)) :: (.arr g22 60 (pcs a.mx)) :: (.arr g30 60 (pcs b.mn)) :: (.arr g38 60 (pcs b.mx)) :: [])) => gLoad (v := .int .i64 b.mn.x) (k := 0) 5 h_ rfl (by kernel_rfl) (.tmp 33) (by kernel_rfl) rfl (litEv (by kernel_rfl))) (by have h2_ : Mem w w_ ((.arr g2 55 (bxs a)) :: (.arr g5 55 (bxs b)) :: (.arr g8 55 ([.int .i64 0, .int .i64 0, .int .i64 0, .int .i64 0, .int .i64 0, .int .i64 0])) :: (.arr g14 60 (bsel (b_ 9) [.int .i64 (max a.mn.x b.mn.x), .int .i64 a.mn.y, .int .i64 a.mn.z] (pcs a.mn))) :: (.arr g22 60 (pcs a.mx)) :: (.arr g30 60 (pcs b.mn)) :: (.arr g38 60 (pcs b.mx)) :: []) := h_; rw [bselF (h_b.post 9 (by kernel_rfl))] at h2_; exact h2_)))) ?_
   refine aoNext rfl (aoVal (fun g_ => [(31, .int .i64 a.mn.x), (34, .int .i64 b.mn.x)]) (fun g_ a_ h_k => ⟨(h_k.inn 3 _ _ (by kernel_rfl) rfl rfl).trans (by kernel_rfl), (h_k.inn 6 _ _ (by kernel_rfl) rfl rfl).trans (by kernel_rfl), trivial⟩) (fun g_ X_ => (wn rfl)) (fun b_ g_ => by kernel_rfl) (fun b_ g_ X_ w_ h_b h_ => valTo (b := .int .i64 (max a.mn.x b.mn.x)) (by kernel_rfl) (gMax (.tmp 31) (.tmp 34) rfl (litEv (by kernel_rfl)) (litEv (by kernel_rfl))))) ?_
   refine aoNext rfl (aoVal (fun g_ => [(5, .pointer (some ⟨g14, 0, none⟩)), (28, .int .i64 0)]) (fun g_ a_ h_k => ⟨(h_k.out 5 (by kernel_rfl)).trans (litGet (by kernel_rfl)), (h_k.inn 0 _ _ (by kernel_rfl) rfl rfl).trans (by kernel_rfl), trivial⟩) (fun g_ X_ => (wn rfl)) (fun b_ g_ => by kernel_rfl) (fun b_ g_ X_ w_ h_b h_ => valTo (b := .pointer (some ⟨g14, 0, none⟩)) (by kernel_rfl) (iaRun (b := g14) (off := 0) (s := 1) (n := 3) (kk := .i64) (.tmp 5) (.tmp 28) 0 Ty.und_3_int (by kernel_rfl) rfl (litEv (by kernel_rfl)) (litEv (by kernel_rfl)) rfl (by decide)))) ?_
   refine aoNext rfl (aoStore1 (gb := fun g_ => g14) (k := 0) (cur := fun g_ => pcs a.mn) (v := fun g_ => .int .i64 (max a.mn.x b.mn.x)) (v0 := fun g_ => .int .i64 a.mn.x) 3 (fun g_ => [(35, .int .i64 (max a.mn.x b.mn.x)), (36, .pointer (some ⟨g14, 0, none⟩))]) (fun g_ a_ h_k => ⟨(h_k.inn 7 _ _ (by kernel_rfl) rfl rfl).trans (by kernel_rfl), (h_k.inn 8 _ _ (by kernel_rfl) rfl rfl).trans (by kernel_rfl), trivial⟩) (by kernel_rfl) (fun b_ g_ h_b => by show some (Res.arr g14 60 (bsel (b_ 9) [.int .i64 (max a.mn.x b.mn.x), .int .i64 a.mn.y, .int .i64 a.mn.z] (pcs a.mn))) = some (Res.arr g14 60 (pcs a.mn)); rw [bselF h_b.no]) (fun g_ X_ => (wn rfl)) rfl (fun g_ X_ => litEv (by kernel_rfl)) (fun g_ X_ => litEv (by kernel_rfl)) (fun _ => rfl) (fun _ => rfl) (fun _ => rfl) (fun b_ g_ h_b => by kernel_rfl) rfl) ?_
   exact aoDone (by decide)
 intro g_ a_ w51 hF_ hm50
 obtain ⟨X52, rfl⟩ := frLit (⟨hF_.size, hF_.defers, ⟨(hF_.out 4 (by kernel_rfl)).trans (litGet (by kernel_rfl)), (hF_.out 5 (by kernel_rfl)).trans (litGet (by kernel_rfl)), (hF_.out 6 (by kernel_rfl)).trans (litGet (by kernel_rfl)), (hF_.out 7 (by kernel_rfl)).trans (litGet (by kernel_rfl)), (hF_.out 8 (by kernel_rfl)).trans (litGet (by kernel_rfl)), (hF_.out 9 (by kernel_rfl)).trans (litGet (by kernel_rfl)), (hF_.out 24 (by kernel_rfl)).trans (litGet (by kernel_rfl)), (hF_.out 25 (by kernel_rfl)).trans (litGet (by kernel_rfl)), (hF_.inn 0 _ _ rfl rfl).trans (by kernel_rfl), (hF_.inn 1 _ _ rfl rfl).trans (by kernel_rfl), (hF_.inn 2 _ _ rfl rfl).trans (by kernel_rfl), (hF_.inn 3 _ _ rfl rfl).trans (by kernel_rfl), (hF_.inn 4 _ _ rfl rfl).trans (by kernel_rfl), (hF_.inn 5 _ _ rfl rfl).trans (by kernel_rfl), (hF_.inn 6 _ _ rfl rfl).trans (by kernel_rfl), (hF_.inn 7 _ _ rfl rfl).trans (by kernel_rfl), (hF_.inn 8 _ _ rfl rfl).trans (by kernel_rfl), trivial⟩⟩ : Fr _ 56 [(4, .pointer (some ⟨g8, 0, none⟩)), (5, .pointer (some ⟨g14, 0, none⟩)), (6, .pointer (some ⟨g22, 0, none⟩)), (7, .pointer (some ⟨g30, 0, none⟩)), (8, .pointer (some ⟨g38, 0, none⟩)), (9, .int .i64 0), (24, .int .i64 0), (25, .bool true), (28, .int .i64 0), (29, .int .i64 0), (30, .pointer (some ⟨g14, 0, none⟩)), (31, .int .i64 a.mn.x), (32, .int .i64 0), (33, .pointer (some ⟨g30, 0, none⟩)), (34, .int .i64 b.mn.x), (35, .int .i64 (max a.mn.x b.mn.x)), (36, .pointer (some ⟨g14, 0, none⟩))])
 clear hF_
 have hm53 : Mem w w51 [.arr g2 55 (bxs a), .arr g5 55 (bxs b), .arr g8 55 ([.int .i64 0, .int .i64 0, .int .i64 0, .int .i64 0, .int .i64 0, .int .i64 0]), .arr g14 60 ([.int .i64 (max a.mn.x b.mn.x), .int .i64 a.mn.y, .int .i64 a.mn.z]), .arr g22 60 (pcs a.mx), .arr g30 60 (pcs b.mn), .arr g38 60 (pcs b.mx)] := hm50
 clear hm50 hm41
 refine then_normal (hK49 _ _ ?_)
 refine aoStart (aoV [fun _ => .int .i64 0, fun _ => .int .i64 0, fun _ => .pointer (some ⟨g22, 0, none⟩), fun _ => .int .i64 a.mx.x, fun _ => .int .i64 0, fun _ => .pointer (some ⟨g38, 0, none⟩), fun _ => .int .i64 b.mx.x, fun _ => .int .i64 (min a.mx.x b.mx.x), fun _ => .pointer (some ⟨g22, 0, none⟩), fun _ => undef]) (aoA [0, 1, 2, 3, 4, 5, 6, 7, 8, 9]) (fun b_ g_ => ((.arr g2 55 (bxs a)) :: (.arr g5 55 (bxs b)) :: (.arr g8 55 ([.int .i64 0, .int .i64 0, .int .i64 0, .int .i64 0, .int .i64 0, .int .i64 0])) :: (.arr g14 60 ([.int .i64 (max a.mn.x b.mn.x), .int .i64 a.mn.y, .int .i64 a.mn.z])) :: (.arr g22 60 (bsel (b_ 9) [.int .i64 (min a.mx.x b.mx.x), .int .i64 a.mx.y, .int .i64 a.mx.z] (pcs a.mx))) :: (.arr g30 60 (pcs b.mn)) :: (.arr g38 60 (pcs b.mx)) :: [])) hm53 (by kernel_rfl) (by kernel_rfl) (fun w_ h_ => h_) (fun b_ g_ h_ => by show (fun (x9_ : Bool) => (((.arr g2 55 (bxs a)) :: (.arr g5 55 (bxs b)) :: (.arr g8 55 ([.int .i64 0, .int .i64 0, .int .i64 0, .int .i64 0, .int .i64 0, .int .i64 0])) :: (.arr g14 60 ([.int .i64 (max a.mn.x b.mn.x), .int .i64 a.mn.y, .int .i64 a.mn.z])) :: (.arr g22 60 (bsel x9_ [.int .i64 (min a.mx.x b.mx.x), .int .i64 a.mx.y, .int .i64 a.mx.z] (pcs a.mx))) :: (.arr g30 60 (pcs b.mn)) :: (.arr g38 60 (pcs b.mx)) :: []) : List Res)) (b_ 9) = _; rw [h_ 9 (by decide)]) ?_ ?_
 · refine aoNext rfl (aoVal (fun g_ => [(9, .int .i64 0)]) (fun g_ a_ h_k => ⟨(h_k.out 9 (by kernel_rfl)).trans (litGet (by kernel_rfl)), trivial⟩) (fun g_ X_ => (wn rfl)) (fun b_ g_ => by kernel_rfl) (fun b_ g_ X_ w_ h_b h_ => valTo (b := .int .i64 0) (by kernel_rfl) (litRun (by kernel_rfl)))) ?_
   refine aoNext rfl (aoVal (fun g_ => [(9, .int .i64 0)]) (fun g_ a_ h_k => ⟨(h_k.out 9 (by kernel_rfl)).trans (litGet (by kernel_rfl)), trivial⟩) (fun g_ X_ => (wn rfl)) (fun b_ g_ => by kernel_rfl) (fun b_ g_ X_ w_ h_b h_ => valTo (b := .int .i64 0) (by kernel_rfl) (litRun (by kernel_rfl)))) ?_
   refine aoNext rfl (aoVal (fun g_ => [(6, .pointer (some ⟨g22, 0, none⟩)), (38, .int .i64 0)]) (fun g_ a_ h_k => ⟨(h_k.out 6 (by kernel_rfl)).trans (litGet (by kernel_rfl)), (h_k.inn 1 _ _ (by kernel_rfl) rfl rfl).trans (by kernel_rfl), trivial⟩) (fun g_ X_ => (wn rfl)) (fun b_ g_ => by kernel_rfl) (fun b_ g_ X_ w_ h_b h_ => valTo (b := .pointer (some ⟨g22, 0, none⟩)) (by kernel_rfl) (iaRun (b := g22) (off := 0) (s := 1) (n := 3) (kk := .i64) (.tmp 6) (.tmp 38) 0 Ty.und_3_int (by kernel_rfl) rfl (litEv (by kernel_rfl)) (litEv (by kernel_rfl)) rfl (by decide)))) ?_
   refine aoNext rfl (aoVal (fun g_ => [(39, .pointer (some ⟨g22, 0, none⟩))]) (fun g_ a_ h_k => ⟨(h_k.inn 2 _ _ (by kernel_rfl) rfl rfl).trans (by kernel_rfl), trivial⟩) (fun g_ X_ => (wn rfl)) (fun b_ g_ => by kernel_rfl) (fun b_ g_ X_ w_ h_b h_ => valTo (b := .int .i64 a.mx.x) (by kernel_rfl) ((fun (h_ : Mem _ w_ ((.arr g2 55 (bxs a)) :: (.arr g5 55 (bxs b)) :: (.arr g8 55 ([.int .i64 0, .int .i64 0, .int .i64 0, .int .i64 0, .int .i64 0, .int .i64 0])) :: (.arr g14 60 ([.int .i64 (max a.mn.x b.mn.x), .int .i64 a.mn.y, .int .i64 a.mn.z])) :: (.arr g22 60 (pcs a.mx)) :: (.arr g30 60 (pcs b.mn)) :: (.arr g38 60 (pcs b.mx)) :: [])) => gLoad (v := .int .i64 a.mx.x) (k := 0) 4 h_ rfl (by kernel_rfl) (.tmp 39) (by kernel_rfl) rfl (litEv (by kernel_rfl))) (by have h2_ : Mem w w_ ((.arr g2 55 (bxs a)) :: (.arr g5 55 (bxs b)) :: (.arr g8 55 ([.int .i64 0, .int .i64 0, .int .i64 0, .int .i64 0, .int .i64 0, .int .i64 0])) :: (.arr g14 60 ([.int .i64 (max a.mn.x b.mn.x), .int .i64 a.mn.y, .int .i64 a.mn.z])) :: (.arr g22 60 (bsel (b_ 9) [.int .i64 (min a.mx.x b.mx.x), .int .i64 a.mx.y, .int .i64 a.mx.z] (pcs a.mx))) :: (.arr g30 60 (pcs b.mn)) :: (.arr g38 60 (pcs b.mx)) :: []) := h_; rw [bselF (h_b.post 9 (by kernel_rfl))] at h2_; exact h2_)))) ?_
   refine aoNext rfl (aoVal (fun g_ => [(9, .int .i64 0)]) (fun g_ a_ h_k => ⟨(h_k.out 9 (by kernel_rfl)).trans (litGet (by kernel_rfl)), trivial⟩) (fun g_ X_ => (wn rfl)) (fun b_ g_ => by kernel_rfl) (fun b_ g_ X_ w_ h_b h_ => valTo (b := .int .i64 0) (by kernel_rfl) (litRun (by kernel_rfl)))) ?_
   refine aoNext rfl (aoVal (fun g_ => [(8, .pointer (some ⟨g38, 0, none⟩)), (41, .int .i64 0)]) (fun g_ a_ h_k => ⟨(h_k.out 8 (by kernel_rfl)).trans (litGet (by kernel_rfl)), (h_k.inn 4 _ _ (by kernel_rfl) rfl rfl).trans (by kernel_rfl), trivial⟩) (fun g_ X_ => (wn rfl)) (fun b_ g_ => by kernel_rfl) (fun b_ g_ X_ w_ h_b h_ => valTo (b := .pointer (some ⟨g38, 0, none⟩)) (by kernel_rfl) (iaRun (b := g38) (off := 0) (s := 1) (n := 3) (kk := .i64) (.tmp 8) (.tmp 41) 0 Ty.und_3_int (by kernel_rfl) rfl (litEv (by kernel_rfl)) (litEv (by kernel_rfl)) rfl (by decide)))) ?_
   refine aoNext rfl (aoVal (fun g_ => [(42, .pointer (some ⟨g38, 0, none⟩))]) (fun g_ a_ h_k => ⟨(h_k.inn 5 _ _ (by kernel_rfl) rfl rfl).trans (by kernel_rfl), trivial⟩) (fun g_ X_ => (wn rfl)) (fun b_ g_ => by kernel_rfl) (fun b_ g_ X_ w_ h_b h_ => valTo (b := .int .i64 b.mx.x) (by kernel_rfl) ((fun (h_ : Mem _ w_ ((.arr g2 55 (bxs a)) :: (.arr g5 55 (bxs b)) :: (.arr g8 55 ([.int .i64 0, .int .i64 0, .int .i64 0, .int .i64 0, .int .i64 0, .int .i64 0])) :: (.arr g14 60 ([.int .i64 (max a.mn.x b.mn.x), .int .i64 a.mn.y, .int .i64 a.mn.z])) :: (.arr g22 60 (pcs a.mx)) :: (.arr g30 60 (pcs b.mn)) :: (.arr g38 60 (pcs b.mx)) :: [])) => gLoad (v := .int .i64 b.mx.x) (k := 0) 6 h_ rfl (by kernel_rfl) (.tmp 42) (by kernel_rfl) rfl (litEv (by kernel_rfl))) (by have h2_ : Mem w w_ ((.arr g2 55 (bxs a)) :: (.arr g5 55 (bxs b)) :: (.arr g8 55 ([.int .i64 0, .int .i64 0, .int .i64 0, .int .i64 0, .int .i64 0, .int .i64 0])) :: (.arr g14 60 ([.int .i64 (max a.mn.x b.mn.x), .int .i64 a.mn.y, .int .i64 a.mn.z])) :: (.arr g22 60 (bsel (b_ 9) [.int .i64 (min a.mx.x b.mx.x), .int .i64 a.mx.y, .int .i64 a.mx.z] (pcs a.mx))) :: (.arr g30 60 (pcs b.mn)) :: (.arr g38 60 (pcs b.mx)) :: []) := h_; rw [bselF (h_b.post 9 (by kernel_rfl))] at h2_; exact h2_)))) ?_
   refine aoNext rfl (aoVal (fun g_ => [(40, .int .i64 a.mx.x), (43, .int .i64 b.mx.x)]) (fun g_ a_ h_k => ⟨(h_k.inn 3 _ _ (by kernel_rfl) rfl rfl).trans (by kernel_rfl), (h_k.inn 6 _ _ (by kernel_rfl) rfl rfl).trans (by kernel_rfl), trivial⟩) (fun g_ X_ => (wn rfl)) (fun b_ g_ => by kernel_rfl) (fun b_ g_ X_ w_ h_b h_ => valTo (b := .int .i64 (min a.mx.x b.mx.x)) (by kernel_rfl) (gMin (.tmp 40) (.tmp 43) rfl (litEv (by kernel_rfl)) (litEv (by kernel_rfl))))) ?_
   refine aoNext rfl (aoVal (fun g_ => [(6, .pointer (some ⟨g22, 0, none⟩)), (37, .int .i64 0)]) (fun g_ a_ h_k => ⟨(h_k.out 6 (by kernel_rfl)).trans (litGet (by kernel_rfl)), (h_k.inn 0 _ _ (by kernel_rfl) rfl rfl).trans (by kernel_rfl), trivial⟩) (fun g_ X_ => (wn rfl)) (fun b_ g_ => by kernel_rfl) (fun b_ g_ X_ w_ h_b h_ => valTo (b := .pointer (some ⟨g22, 0, none⟩)) (by kernel_rfl) (iaRun (b := g22) (off := 0) (s := 1) (n := 3) (kk := .i64) (.tmp 6) (.tmp 37) 0 Ty.und_3_int (by kernel_rfl) rfl (litEv (by kernel_rfl)) (litEv (by kernel_rfl)) rfl (by decide)))) ?_
   refine aoNext rfl (aoStore1 (gb := fun g_ => g22) (k := 0) (cur := fun g_ => pcs a.mx) (v := fun g_ => .int .i64 (min a.mx.x b.mx.x)) (v0 := fun g_ => .int .i64 a.mx.x) 4 (fun g_ => [(44, .int .i64 (min a.mx.x b.mx.x)), (45, .pointer (some ⟨g22, 0, none⟩))]) (fun g_ a_ h_k => ⟨(h_k.inn 7 _ _ (by kernel_rfl) rfl rfl).trans (by kernel_rfl), (h_k.inn 8 _ _ (by kernel_rfl) rfl rfl).trans (by kernel_rfl), trivial⟩) (by kernel_rfl) (fun b_ g_ h_b => by show some (Res.arr g22 60 (bsel (b_ 9) [.int .i64 (min a.mx.x b.mx.x), .int .i64 a.mx.y, .int .i64 a.mx.z] (pcs a.mx))) = some (Res.arr g22 60 (pcs a.mx)); rw [bselF h_b.no]) (fun g_ X_ => (wn rfl)) rfl (fun g_ X_ => litEv (by kernel_rfl)) (fun g_ X_ => litEv (by kernel_rfl)) (fun _ => rfl) (fun _ => rfl) (fun _ => rfl) (fun b_ g_ h_b => by kernel_rfl) rfl) ?_
   exact aoDone (by decide)
 intro g_ a_ w55 hF_ hm54
 obtain ⟨X56, rfl⟩ := frLit (⟨hF_.size, hF_.defers, ⟨(hF_.out 4 (by kernel_rfl)).trans (litGet (by kernel_rfl)), (hF_.out 5 (by kernel_rfl)).trans (litGet (by kernel_rfl)), (hF_.out 6 (by kernel_rfl)).trans (litGet (by kernel_rfl)), (hF_.out 7 (by kernel_rfl)).trans (litGet (by kernel_rfl)), (hF_.out 8 (by kernel_rfl)).trans (litGet (by kernel_rfl)), (hF_.out 9 (by kernel_rfl)).trans (litGet (by kernel_rfl)), (hF_.out 24 (by kernel_rfl)).trans (litGet (by kernel_rfl)), (hF_.out 25 (by kernel_rfl)).trans (litGet (by kernel_rfl)), (hF_.out 28 (by kernel_rfl)).trans (litGet (by kernel_rfl)), (hF_.out 29 (by kernel_rfl)).trans (litGet (by kernel_rfl)), (hF_.out 30 (by kernel_rfl)).trans (litGet (by kernel_rfl)), (hF_.out 31 (by kernel_rfl)).trans (litGet (by kernel_rfl)), (hF_.out 32 (by kernel_rfl)).trans (litGet (by kernel_rfl)), (hF_.out 33 (by kernel_rfl)).trans (litGet (by kernel_rfl)), (hF_.out 34 (by kernel_rfl)).trans (litGet (by kernel_rfl)), (hF_.out 35 (by kernel_rfl)).trans (litGet (by kernel_rfl)), (hF_.out 36 (by kernel_rfl)).trans (litGet (by kernel_rfl)), (hF_.inn 0 _ _ rfl rfl).trans (by kernel_rfl), (hF_.inn 1 _ _ rfl rfl).trans (by kernel_rfl), (hF_.inn 2 _ _ rfl rfl).trans (by kernel_rfl), (hF_.inn 3 _ _ rfl rfl).trans (by kernel_rfl), (hF_.inn 4 _ _ rfl rfl).trans (by kernel_rfl), (hF_.inn 5 _ _ rfl rfl).trans (by kernel_rfl), (hF_.inn 6 _ _ rfl rfl).trans (by kernel_rfl), (hF_.inn 7 _ _ rfl rfl).trans (by kernel_rfl), (hF_.inn 8 _ _ rfl rfl).trans (by kernel_rfl), trivial⟩⟩ : Fr _ 56 [(4, .pointer (some ⟨g8, 0, none⟩)), (5, .pointer (some ⟨g14, 0, none⟩)), (6, .pointer (some ⟨g22, 0, none⟩)), (7, .pointer (some ⟨g30, 0, none⟩)), (8, .pointer (some ⟨g38, 0, none⟩)), (9, .int .i64 0), (24, .int .i64 0), (25, .bool true), (28, .int .i64 0), (29, .int .i64 0), (30, .pointer (some ⟨g14, 0, none⟩)), (31, .int .i64 a.mn.x), (32, .int .i64 0), (33, .pointer (some ⟨g30, 0, none⟩)), (34, .int .i64 b.mn.x), (35, .int .i64 (max a.mn.x b.mn.x)), (36, .pointer (some ⟨g14, 0, none⟩)), (37, .int .i64 0), (38, .int .i64 0), (39, .pointer (some ⟨g22, 0, none⟩)), (40, .int .i64 a.mx.x), (41, .int .i64 0), (42, .pointer (some ⟨g38, 0, none⟩)), (43, .int .i64 b.mx.x), (44, .int .i64 (min a.mx.x b.mx.x)), (45, .pointer (some ⟨g22, 0, none⟩))])
 clear hF_
 have hm57 : Mem w w55 [.arr g2 55 (bxs a), .arr g5 55 (bxs b), .arr g8 55 ([.int .i64 0, .int .i64 0, .int .i64 0, .int .i64 0, .int .i64 0, .int .i64 0]), .arr g14 60 ([.int .i64 (max a.mn.x b.mn.x), .int .i64 a.mn.y, .int .i64 a.mn.z]), .arr g22 60 ([.int .i64 (min a.mx.x b.mx.x), .int .i64 a.mx.y, .int .i64 a.mx.z]), .arr g30 60 (pcs b.mn), .arr g38 60 (pcs b.mx)] := hm54
 clear hm54 hm53
 refine inBlock_normal ?_
 refine then_normal (hK48 _ _ ?_)
 refine plStart ?_
 refine lk (v := .int .i64 0) rfl rfl rfl ?_
 refine lk (v := .int .i64 1) rfl rfl rfl ?_
 refine lk (v := .int .i64 1) rfl rfl rfl ?_
 refine plD ?_
 refine then_normal (roundsNext ?_)
 refine wp_seq_k fun K58 hK58 => ?_
 refine wp_seq_k fun K59 hK59 => ?_
 refine plStart ?_
 refine lk (v := .int .i64 1) rfl rfl rfl ?_
 refine lk (v := .bool true) rfl rfl rfl ?_
 refine plD ?_
 refine then_normal (hK59 _ _ ?_)
 refine wp_cond_true (litEv (by kernel_rfl)) ?_
 refine wp_skip ?_
 refine then_normal (hK58 _ _ ?_)
 refine wp_seq_k fun K60 hK60 => ?_
 refine wp_block ?_
 refine wp_seq_k fun K61 hK61 => ?_
 refine aoStart (aoV [fun _ => .int .i64 1, fun _ => .int .i64 1, fun _ => .pointer (some ⟨g14, 1, none⟩), fun _ => .int .i64 a.mn.y, fun _ => .int .i64 1, fun _ => .pointer (some ⟨g30, 1, none⟩), fun _ => .int .i64 b.mn.y, fun _ => .int .i64 (max a.mn.y b.mn.y), fun _ => .pointer (some ⟨g14, 1, none⟩), fun _ => undef]) (aoA [0, 1, 2, 3, 4, 5, 6, 7, 8, 9]) (fun b_ g_ => ((.arr g2 55 (bxs a)) :: (.arr g5 55 (bxs b)) :: (.arr g8 55 ([.int .i64 0, .int .i64 0, .int .i64 0, .int .i64 0, .int .i64 0, .int .i64 0])) :: (.arr g14 60 (bsel (b_ 9) [.int .i64 (max a.mn.x b.mn.x), .int .i64 (max a.mn.y b.mn.y), .int .i64 a.mn.z] [.int .i64 (max a.mn.x b.mn.x), .int .i64 a.mn.y, .int .i64 a.mn.z])) :: (.arr g22 60 ([.int .i64 (min a.mx.x b.mx.x), .int .i64 a.mx.y, .int .i64 a.mx.z])) :: (.arr g30 60 (pcs b.mn)) :: (.arr g38 60 (pcs b.mx)) :: [])) hm57 (by kernel_rfl) (by kernel_rfl) (fun w_ h_ => h_) (fun b_ g_ h_ => by show (fun (x9_ : Bool) => (((.arr g2 55 (bxs a)) :: (.arr g5 55 (bxs b)) :: (.arr g8 55 ([.int .i64 0, .int .i64 0, .int .i64 0, .int .i64 0, .int .i64 0, .int .i64 0])) :: (.arr g14 60 (bsel x9_ [.int .i64 (max a.mn.x b.mn.x), .int .i64 (max a.mn.y b.mn.y), .int .i64 a.mn.z] [.int .i64 (max a.mn.x b.mn.x), .int .i64 a.mn.y, .int .i64 a.mn.z])) :: (.arr g22 60 ([.int .i64 (min a.mx.x b.mx.x), .int .i64 a.mx.y, .int .i64 a.mx.z])) :: (.arr g30 60 (pcs b.mn)) :: (.arr g38 60 (pcs b.mx)) :: []) : List Res)) (b_ 9) = _; rw [h_ 9 (by decide)]) ?_ ?_
 · refine aoNext rfl (aoVal (fun g_ => [(9, .int .i64 1)]) (fun g_ a_ h_k => ⟨(h_k.out 9 (by kernel_rfl)).trans (litGet (by kernel_rfl)), trivial⟩) (fun g_ X_ => (wn rfl)) (fun b_ g_ => by kernel_rfl) (fun b_ g_ X_ w_ h_b h_ => valTo (b := .int .i64 1) (by kernel_rfl) (litRun (by kernel_rfl)))) ?_
   refine aoNext rfl (aoVal (fun g_ => [(9, .int .i64 1)]) (fun g_ a_ h_k => ⟨(h_k.out 9 (by kernel_rfl)).trans (litGet (by kernel_rfl)), trivial⟩) (fun g_ X_ => (wn rfl)) (fun b_ g_ => by kernel_rfl) (fun b_ g_ X_ w_ h_b h_ => valTo (b := .int .i64 1) (by kernel_rfl) (litRun (by kernel_rfl)))) ?_
   refine aoNext rfl (aoVal (fun g_ => [(5, .pointer (some ⟨g14, 0, none⟩)), (29, .int .i64 1)]) (fun g_ a_ h_k => ⟨(h_k.out 5 (by kernel_rfl)).trans (litGet (by kernel_rfl)), (h_k.inn 1 _ _ (by kernel_rfl) rfl rfl).trans (by kernel_rfl), trivial⟩) (fun g_ X_ => (wn rfl)) (fun b_ g_ => by kernel_rfl) (fun b_ g_ X_ w_ h_b h_ => valTo (b := .pointer (some ⟨g14, 1, none⟩)) (by kernel_rfl) (iaRun (b := g14) (off := 0) (s := 1) (n := 3) (kk := .i64) (.tmp 5) (.tmp 29) 1 Ty.und_3_int (by kernel_rfl) rfl (litEv (by kernel_rfl)) (litEv (by kernel_rfl)) rfl (by decide)))) ?_
   refine aoNext rfl (aoVal (fun g_ => [(30, .pointer (some ⟨g14, 1, none⟩))]) (fun g_ a_ h_k => ⟨(h_k.inn 2 _ _ (by kernel_rfl) rfl rfl).trans (by kernel_rfl), trivial⟩) (fun g_ X_ => (wn rfl)) (fun b_ g_ => by kernel_rfl) (fun b_ g_ X_ w_ h_b h_ => valTo (b := .int .i64 a.mn.y) (by kernel_rfl) ((fun (h_ : Mem _ w_ ((.arr g2 55 (bxs a)) :: (.arr g5 55 (bxs b)) :: (.arr g8 55 ([.int .i64 0, .int .i64 0, .int .i64 0, .int .i64 0, .int .i64 0, .int .i64 0])) :: (.arr g14 60 ([.int .i64 (max a.mn.x b.mn.x), .int .i64 a.mn.y, .int .i64 a.mn.z])) :: (.arr g22 60 ([.int .i64 (min a.mx.x b.mx.x), .int .i64 a.mx.y, .int .i64 a.mx.z])) :: (.arr g30 60 (pcs b.mn)) :: (.arr g38 60 (pcs b.mx)) :: [])) => gLoad (v := .int .i64 a.mn.y) (k := 1) 3 h_ rfl (by kernel_rfl) (.tmp 30) (by kernel_rfl) rfl (litEv (by kernel_rfl))) (by have h2_ : Mem w w_ ((.arr g2 55 (bxs a)) :: (.arr g5 55 (bxs b)) :: (.arr g8 55 ([.int .i64 0, .int .i64 0, .int .i64 0, .int .i64 0, .int .i64 0, .int .i64 0])) :: (.arr g14 60 (bsel (b_ 9) [.int .i64 (max a.mn.x b.mn.x), .int .i64 (max a.mn.y b.mn.y), .int .i64 a.mn.z] [.int .i64 (max a.mn.x b.mn.x), .int .i64 a.mn.y, .int .i64 a.mn.z])) :: (.arr g22 60 ([.int .i64 (min a.mx.x b.mx.x), .int .i64 a.mx.y, .int .i64 a.mx.z])) :: (.arr g30 60 (pcs b.mn)) :: (.arr g38 60 (pcs b.mx)) :: []) := h_; rw [bselF (h_b.post 9 (by kernel_rfl))] at h2_; exact h2_)))) ?_
   refine aoNext rfl (aoVal (fun g_ => [(9, .int .i64 1)]) (fun g_ a_ h_k => ⟨(h_k.out 9 (by kernel_rfl)).trans (litGet (by kernel_rfl)), trivial⟩) (fun g_ X_ => (wn rfl)) (fun b_ g_ => by kernel_rfl) (fun b_ g_ X_ w_ h_b h_ => valTo (b := .int .i64 1) (by kernel_rfl) (litRun (by kernel_rfl)))) ?_
   refine aoNext rfl (aoVal (fun g_ => [(7, .pointer (some ⟨g30, 0, none⟩)), (32, .int .i64 1)]) (fun g_ a_ h_k => ⟨(h_k.out 7 (by kernel_rfl)).trans (litGet (by kernel_rfl)), (h_k.inn 4 _ _ (by kernel_rfl) rfl rfl).trans (by kernel_rfl), trivial⟩) (fun g_ X_ => (wn rfl)) (fun b_ g_ => by kernel_rfl) (fun b_ g_ X_ w_ h_b h_ => valTo (b := .pointer (some ⟨g30, 1, none⟩)) (by kernel_rfl) (iaRun (b := g30) (off := 0) (s := 1) (n := 3) (kk := .i64) (.tmp 7) (.tmp 32) 1 Ty.und_3_int (by kernel_rfl) rfl (litEv (by kernel_rfl)) (litEv (by kernel_rfl)) rfl (by decide)))) ?_
   refine aoNext rfl (aoVal (fun g_ => [(33, .pointer (some ⟨g30, 1, none⟩))]) (fun g_ a_ h_k => ⟨(h_k.inn 5 _ _ (by kernel_rfl) rfl rfl).trans (by kernel_rfl), trivial⟩) (fun g_ X_ => (wn rfl)) (fun b_ g_ => by kernel_rfl) (fun b_ g_ X_ w_ h_b h_ => valTo (b := .int .i64 b.mn.y) (by kernel_rfl) ((fun (h_ : Mem _ w_ ((.arr g2 55 (bxs a)) :: (.arr g5 55 (bxs b)) :: (.arr g8 55 ([.int .i64 0, .int .i64 0, .int .i64 0, .int .i64 0, .int .i64 0, .int .i64 0])) :: (.arr g14 60 ([.int .i64 (max a.mn.x b.mn.x), .int .i64 a.mn.y, .int .i64 a.mn.z])) :: (.arr g22 60 ([.int .i64 (min a.mx.x b.mx.x), .int .i64 a.mx.y, .int .i64 a.mx.z])) :: (.arr g30 60 (pcs b.mn)) :: (.arr g38 60 (pcs b.mx)) :: [])) => gLoad (v := .int .i64 b.mn.y) (k := 1) 5 h_ rfl (by kernel_rfl) (.tmp 33) (by kernel_rfl) rfl (litEv (by kernel_rfl))) (by have h2_ : Mem w w_ ((.arr g2 55 (bxs a)) :: (.arr g5 55 (bxs b)) :: (.arr g8 55 ([.int .i64 0, .int .i64 0, .int .i64 0, .int .i64 0, .int .i64 0, .int .i64 0])) :: (.arr g14 60 (bsel (b_ 9) [.int .i64 (max a.mn.x b.mn.x), .int .i64 (max a.mn.y b.mn.y), .int .i64 a.mn.z] [.int .i64 (max a.mn.x b.mn.x), .int .i64 a.mn.y, .int .i64 a.mn.z])) :: (.arr g22 60 ([.int .i64 (min a.mx.x b.mx.x), .int .i64 a.mx.y, .int .i64 a.mx.z])) :: (.arr g30 60 (pcs b.mn)) :: (.arr g38 60 (pcs b.mx)) :: []) := h_; rw [bselF (h_b.post 9 (by kernel_rfl))] at h2_; exact h2_)))) ?_
   refine aoNext rfl (aoVal (fun g_ => [(31, .int .i64 a.mn.y), (34, .int .i64 b.mn.y)]) (fun g_ a_ h_k => ⟨(h_k.inn 3 _ _ (by kernel_rfl) rfl rfl).trans (by kernel_rfl), (h_k.inn 6 _ _ (by kernel_rfl) rfl rfl).trans (by kernel_rfl), trivial⟩) (fun g_ X_ => (wn rfl)) (fun b_ g_ => by kernel_rfl) (fun b_ g_ X_ w_ h_b h_ => valTo (b := .int .i64 (max a.mn.y b.mn.y)) (by kernel_rfl) (gMax (.tmp 31) (.tmp 34) rfl (litEv (by kernel_rfl)) (litEv (by kernel_rfl))))) ?_
   refine aoNext rfl (aoVal (fun g_ => [(5, .pointer (some ⟨g14, 0, none⟩)), (28, .int .i64 1)]) (fun g_ a_ h_k => ⟨(h_k.out 5 (by kernel_rfl)).trans (litGet (by kernel_rfl)), (h_k.inn 0 _ _ (by kernel_rfl) rfl rfl).trans (by kernel_rfl), trivial⟩) (fun g_ X_ => (wn rfl)) (fun b_ g_ => by kernel_rfl) (fun b_ g_ X_ w_ h_b h_ => valTo (b := .pointer (some ⟨g14, 1, none⟩)) (by kernel_rfl) (iaRun (b := g14) (off := 0) (s := 1) (n := 3) (kk := .i64) (.tmp 5) (.tmp 28) 1 Ty.und_3_int (by kernel_rfl) rfl (litEv (by kernel_rfl)) (litEv (by kernel_rfl)) rfl (by decide)))) ?_
   refine aoNext rfl (aoStore1 (gb := fun g_ => g14) (k := 1) (cur := fun g_ => [.int .i64 (max a.mn.x b.mn.x), .int .i64 a.mn.y, .int .i64 a.mn.z]) (v := fun g_ => .int .i64 (max a.mn.y b.mn.y)) (v0 := fun g_ => .int .i64 a.mn.y) 3 (fun g_ => [(35, .int .i64 (max a.mn.y b.mn.y)), (36, .pointer (some ⟨g14, 1, none⟩))]) (fun g_ a_ h_k => ⟨(h_k.inn 7 _ _ (by kernel_rfl) rfl rfl).trans (by kernel_rfl), (h_k.inn 8 _ _ (by kernel_rfl) rfl rfl).trans (by kernel_rfl), trivial⟩) (by kernel_rfl) (fun b_ g_ h_b => by show some (Res.arr g14 60 (bsel (b_ 9) [.int .i64 (max a.mn.x b.mn.x), .int .i64 (max a.mn.y b.mn.y), .int .i64 a.mn.z] [.int .i64 (max a.mn.x b.mn.x), .int .i64 a.mn.y, .int .i64 a.mn.z])) = some (Res.arr g14 60 ([.int .i64 (max a.mn.x b.mn.x), .int .i64 a.mn.y, .int .i64 a.mn.z])); rw [bselF h_b.no]) (fun g_ X_ => (wn rfl)) rfl (fun g_ X_ => litEv (by kernel_rfl)) (fun g_ X_ => litEv (by kernel_rfl)) (fun _ => rfl) (fun _ => rfl) (fun _ => rfl) (fun b_ g_ h_b => by kernel_rfl) rfl) ?_
   exact aoDone (by decide)
 intro g_ a_ w63 hF_ hm62
 obtain ⟨X64, rfl⟩ := frLit (⟨hF_.size, hF_.defers, ⟨(hF_.out 4 (by kernel_rfl)).trans (litGet (by kernel_rfl)), (hF_.out 5 (by kernel_rfl)).trans (litGet (by kernel_rfl)), (hF_.out 6 (by kernel_rfl)).trans (litGet (by kernel_rfl)), (hF_.out 7 (by kernel_rfl)).trans (litGet (by kernel_rfl)), (hF_.out 8 (by kernel_rfl)).trans (litGet (by kernel_rfl)), (hF_.out 9 (by kernel_rfl)).trans (litGet (by kernel_rfl)), (hF_.out 24 (by kernel_rfl)).trans (litGet (by kernel_rfl)), (hF_.out 25 (by kernel_rfl)).trans (litGet (by kernel_rfl)), (hF_.out 26 (by kernel_rfl)).trans (litGet (by kernel_rfl)), (hF_.out 27 (by kernel_rfl)).trans (litGet (by kernel_rfl)), (hF_.inn 0 _ _ rfl rfl).trans (by kernel_rfl), (hF_.inn 1 _ _ rfl rfl).trans (by kernel_rfl), (hF_.inn 2 _ _ rfl rfl).trans (by kernel_rfl), (hF_.inn 3 _ _ rfl rfl).trans (by kernel_rfl), (hF_.inn 4 _ _ rfl rfl).trans (by kernel_rfl), (hF_.inn 5 _ _ rfl rfl).trans (by kernel_rfl), (hF_.inn 6 _ _ rfl rfl).trans (by kernel_rfl), (hF_.inn 7 _ _ rfl rfl).trans (by kernel_rfl), (hF_.inn 8 _ _ rfl rfl).trans (by kernel_rfl), (hF_.out 37 (by kernel_rfl)).trans (litGet (by kernel_rfl)), (hF_.out 38 (by kernel_rfl)).trans (litGet (by kernel_rfl)), (hF_.out 39 (by kernel_rfl)).trans (litGet (by kernel_rfl)), (hF_.out 40 (by kernel_rfl)).trans (litGet (by kernel_rfl)), (hF_.out 41 (by kernel_rfl)).trans (litGet (by kernel_rfl)), (hF_.out 42 (by kernel_rfl)).trans (litGet (by kernel_rfl)), (hF_.out 43 (by kernel_rfl)).trans (litGet (by kernel_rfl)), (hF_.out 44 (by kernel_rfl)).trans (litGet (by kernel_rfl)), (hF_.out 45 (by kernel_rfl)).trans (litGet (by kernel_rfl)), trivial⟩⟩ : Fr _ 56 [(4, .pointer (some ⟨g8, 0, none⟩)), (5, .pointer (some ⟨g14, 0, none⟩)), (6, .pointer (some ⟨g22, 0, none⟩)), (7, .pointer (some ⟨g30, 0, none⟩)), (8, .pointer (some ⟨g38, 0, none⟩)), (9, .int .i64 1), (24, .int .i64 1), (25, .bool true), (26, .int .i64 0), (27, .int .i64 1), (28, .int .i64 1), (29, .int .i64 1), (30, .pointer (some ⟨g14, 1, none⟩)), (31, .int .i64 a.mn.y), (32, .int .i64 1), (33, .pointer (some ⟨g30, 1, none⟩)), (34, .int .i64 b.mn.y), (35, .int .i64 (max a.mn.y b.mn.y)), (36, .pointer (some ⟨g14, 1, none⟩)), (37, .int .i64 0), (38, .int .i64 0), (39, .pointer (some ⟨g22, 0, none⟩)), (40, .int .i64 a.mx.x), (41, .int .i64 0), (42, .pointer (some ⟨g38, 0, none⟩)), (43, .int .i64 b.mx.x), (44, .int .i64 (min a.mx.x b.mx.x)), (45, .pointer (some ⟨g22, 0, none⟩))])
 clear hF_
 have hm65 : Mem w w63 [.arr g2 55 (bxs a), .arr g5 55 (bxs b), .arr g8 55 ([.int .i64 0, .int .i64 0, .int .i64 0, .int .i64 0, .int .i64 0, .int .i64 0]), .arr g14 60 ([.int .i64 (max a.mn.x b.mn.x), .int .i64 (max a.mn.y b.mn.y), .int .i64 a.mn.z]), .arr g22 60 ([.int .i64 (min a.mx.x b.mx.x), .int .i64 a.mx.y, .int .i64 a.mx.z]), .arr g30 60 (pcs b.mn), .arr g38 60 (pcs b.mx)] := hm62
 clear hm62 hm57
 refine then_normal (hK61 _ _ ?_)
 refine aoStart (aoV [fun _ => .int .i64 1, fun _ => .int .i64 1, fun _ => .pointer (some ⟨g22, 1, none⟩), fun _ => .int .i64 a.mx.y, fun _ => .int .i64 1, fun _ => .pointer (some ⟨g38, 1, none⟩), fun _ => .int .i64 b.mx.y, fun _ => .int .i64 (min a.mx.y b.mx.y), fun _ => .pointer (some ⟨g22, 1, none⟩), fun _ => undef]) (aoA [0, 1, 2, 3, 4, 5, 6, 7, 8, 9]) (fun b_ g_ => ((.arr g2 55 (bxs a)) :: (.arr g5 55 (bxs b)) :: (.arr g8 55 ([.int .i64 0, .int .i64 0, .int .i64 0, .int .i64 0, .int .i64 0, .int .i64 0])) :: (.arr g14 60 ([.int .i64 (max a.mn.x b.mn.x), .int .i64 (max a.mn.y b.mn.y), .int .i64 a.mn.z])) :: (.arr g22 60 (bsel (b_ 9) [.int .i64 (min a.mx.x b.mx.x), .int .i64 (min a.mx.y b.mx.y), .int .i64 a.mx.z] [.int .i64 (min a.mx.x b.mx.x), .int .i64 a.mx.y, .int .i64 a.mx.z])) :: (.arr g30 60 (pcs b.mn)) :: (.arr g38 60 (pcs b.mx)) :: [])) hm65 (by kernel_rfl) (by kernel_rfl) (fun w_ h_ => h_) (fun b_ g_ h_ => by show (fun (x9_ : Bool) => (((.arr g2 55 (bxs a)) :: (.arr g5 55 (bxs b)) :: (.arr g8 55 ([.int .i64 0, .int .i64 0, .int .i64 0, .int .i64 0, .int .i64 0, .int .i64 0])) :: (.arr g14 60 ([.int .i64 (max a.mn.x b.mn.x), .int .i64 (max a.mn.y b.mn.y), .int .i64 a.mn.z])) :: (.arr g22 60 (bsel x9_ [.int .i64 (min a.mx.x b.mx.x), .int .i64 (min a.mx.y b.mx.y), .int .i64 a.mx.z] [.int .i64 (min a.mx.x b.mx.x), .int .i64 a.mx.y, .int .i64 a.mx.z])) :: (.arr g30 60 (pcs b.mn)) :: (.arr g38 60 (pcs b.mx)) :: []) : List Res)) (b_ 9) = _; rw [h_ 9 (by decide)]) ?_ ?_
 · refine aoNext rfl (aoVal (fun g_ => [(9, .int .i64 1)]) (fun g_ a_ h_k => ⟨(h_k.out 9 (by kernel_rfl)).trans (litGet (by kernel_rfl)), trivial⟩) (fun g_ X_ => (wn rfl)) (fun b_ g_ => by kernel_rfl) (fun b_ g_ X_ w_ h_b h_ => valTo (b := .int .i64 1) (by kernel_rfl) (litRun (by kernel_rfl)))) ?_
   refine aoNext rfl (aoVal (fun g_ => [(9, .int .i64 1)]) (fun g_ a_ h_k => ⟨(h_k.out 9 (by kernel_rfl)).trans (litGet (by kernel_rfl)), trivial⟩) (fun g_ X_ => (wn rfl)) (fun b_ g_ => by kernel_rfl) (fun b_ g_ X_ w_ h_b h_ => valTo (b := .int .i64 1) (by kernel_rfl) (litRun (by kernel_rfl)))) ?_
   refine aoNext rfl (aoVal (fun g_ => [(6, .pointer (some ⟨g22, 0, none⟩)), (38, .int .i64 1)]) (fun g_ a_ h_k => ⟨(h_k.out 6 (by kernel_rfl)).trans (litGet (by kernel_rfl)), (h_k.inn 1 _ _ (by kernel_rfl) rfl rfl).trans (by kernel_rfl), trivial⟩) (fun g_ X_ => (wn rfl)) (fun b_ g_ => by kernel_rfl) (fun b_ g_ X_ w_ h_b h_ => valTo (b := .pointer (some ⟨g22, 1, none⟩)) (by kernel_rfl) (iaRun (b := g22) (off := 0) (s := 1) (n := 3) (kk := .i64) (.tmp 6) (.tmp 38) 1 Ty.und_3_int (by kernel_rfl) rfl (litEv (by kernel_rfl)) (litEv (by kernel_rfl)) rfl (by decide)))) ?_
   refine aoNext rfl (aoVal (fun g_ => [(39, .pointer (some ⟨g22, 1, none⟩))]) (fun g_ a_ h_k => ⟨(h_k.inn 2 _ _ (by kernel_rfl) rfl rfl).trans (by kernel_rfl), trivial⟩) (fun g_ X_ => (wn rfl)) (fun b_ g_ => by kernel_rfl) (fun b_ g_ X_ w_ h_b h_ => valTo (b := .int .i64 a.mx.y) (by kernel_rfl) ((fun (h_ : Mem _ w_ ((.arr g2 55 (bxs a)) :: (.arr g5 55 (bxs b)) :: (.arr g8 55 ([.int .i64 0, .int .i64 0, .int .i64 0, .int .i64 0, .int .i64 0, .int .i64 0])) :: (.arr g14 60 ([.int .i64 (max a.mn.x b.mn.x), .int .i64 (max a.mn.y b.mn.y), .int .i64 a.mn.z])) :: (.arr g22 60 ([.int .i64 (min a.mx.x b.mx.x), .int .i64 a.mx.y, .int .i64 a.mx.z])) :: (.arr g30 60 (pcs b.mn)) :: (.arr g38 60 (pcs b.mx)) :: [])) => gLoad (v := .int .i64 a.mx.y) (k := 1) 4 h_ rfl (by kernel_rfl) (.tmp 39) (by kernel_rfl) rfl (litEv (by kernel_rfl))) (by have h2_ : Mem w w_ ((.arr g2 55 (bxs a)) :: (.arr g5 55 (bxs b)) :: (.arr g8 55 ([.int .i64 0, .int .i64 0, .int .i64 0, .int .i64 0, .int .i64 0, .int .i64 0])) :: (.arr g14 60 ([.int .i64 (max a.mn.x b.mn.x), .int .i64 (max a.mn.y b.mn.y), .int .i64 a.mn.z])) :: (.arr g22 60 (bsel (b_ 9) [.int .i64 (min a.mx.x b.mx.x), .int .i64 (min a.mx.y b.mx.y), .int .i64 a.mx.z] [.int .i64 (min a.mx.x b.mx.x), .int .i64 a.mx.y, .int .i64 a.mx.z])) :: (.arr g30 60 (pcs b.mn)) :: (.arr g38 60 (pcs b.mx)) :: []) := h_; rw [bselF (h_b.post 9 (by kernel_rfl))] at h2_; exact h2_)))) ?_
   refine aoNext rfl (aoVal (fun g_ => [(9, .int .i64 1)]) (fun g_ a_ h_k => ⟨(h_k.out 9 (by kernel_rfl)).trans (litGet (by kernel_rfl)), trivial⟩) (fun g_ X_ => (wn rfl)) (fun b_ g_ => by kernel_rfl) (fun b_ g_ X_ w_ h_b h_ => valTo (b := .int .i64 1) (by kernel_rfl) (litRun (by kernel_rfl)))) ?_
   refine aoNext rfl (aoVal (fun g_ => [(8, .pointer (some ⟨g38, 0, none⟩)), (41, .int .i64 1)]) (fun g_ a_ h_k => ⟨(h_k.out 8 (by kernel_rfl)).trans (litGet (by kernel_rfl)), (h_k.inn 4 _ _ (by kernel_rfl) rfl rfl).trans (by kernel_rfl), trivial⟩) (fun g_ X_ => (wn rfl)) (fun b_ g_ => by kernel_rfl) (fun b_ g_ X_ w_ h_b h_ => valTo (b := .pointer (some ⟨g38, 1, none⟩)) (by kernel_rfl) (iaRun (b := g38) (off := 0) (s := 1) (n := 3) (kk := .i64) (.tmp 8) (.tmp 41) 1 Ty.und_3_int (by kernel_rfl) rfl (litEv (by kernel_rfl)) (litEv (by kernel_rfl)) rfl (by decide)))) ?_
   refine aoNext rfl (aoVal (fun g_ => [(42, .pointer (some ⟨g38, 1, none⟩))]) (fun g_ a_ h_k => ⟨(h_k.inn 5 _ _ (by kernel_rfl) rfl rfl).trans (by kernel_rfl), trivial⟩) (fun g_ X_ => (wn rfl)) (fun b_ g_ => by kernel_rfl) (fun b_ g_ X_ w_ h_b h_ => valTo (b := .int .i64 b.mx.y) (by kernel_rfl) ((fun (h_ : Mem _ w_ ((.arr g2 55 (bxs a)) :: (.arr g5 55 (bxs b)) :: (.arr g8 55 ([.int .i64 0, .int .i64 0, .int .i64 0, .int .i64 0, .int .i64 0, .int .i64 0])) :: (.arr g14 60 ([.int .i64 (max a.mn.x b.mn.x), .int .i64 (max a.mn.y b.mn.y), .int .i64 a.mn.z])) :: (.arr g22 60 ([.int .i64 (min a.mx.x b.mx.x), .int .i64 a.mx.y, .int .i64 a.mx.z])) :: (.arr g30 60 (pcs b.mn)) :: (.arr g38 60 (pcs b.mx)) :: [])) => gLoad (v := .int .i64 b.mx.y) (k := 1) 6 h_ rfl (by kernel_rfl) (.tmp 42) (by kernel_rfl) rfl (litEv (by kernel_rfl))) (by have h2_ : Mem w w_ ((.arr g2 55 (bxs a)) :: (.arr g5 55 (bxs b)) :: (.arr g8 55 ([.int .i64 0, .int .i64 0, .int .i64 0, .int .i64 0, .int .i64 0, .int .i64 0])) :: (.arr g14 60 ([.int .i64 (max a.mn.x b.mn.x), .int .i64 (max a.mn.y b.mn.y), .int .i64 a.mn.z])) :: (.arr g22 60 (bsel (b_ 9) [.int .i64 (min a.mx.x b.mx.x), .int .i64 (min a.mx.y b.mx.y), .int .i64 a.mx.z] [.int .i64 (min a.mx.x b.mx.x), .int .i64 a.mx.y, .int .i64 a.mx.z])) :: (.arr g30 60 (pcs b.mn)) :: (.arr g38 60 (pcs b.mx)) :: []) := h_; rw [bselF (h_b.post 9 (by kernel_rfl))] at h2_; exact h2_)))) ?_
   refine aoNext rfl (aoVal (fun g_ => [(40, .int .i64 a.mx.y), (43, .int .i64 b.mx.y)]) (fun g_ a_ h_k => ⟨(h_k.inn 3 _ _ (by kernel_rfl) rfl rfl).trans (by kernel_rfl), (h_k.inn 6 _ _ (by kernel_rfl) rfl rfl).trans (by kernel_rfl), trivial⟩) (fun g_ X_ => (wn rfl)) (fun b_ g_ => by kernel_rfl) (fun b_ g_ X_ w_ h_b h_ => valTo (b := .int .i64 (min a.mx.y b.mx.y)) (by kernel_rfl) (gMin (.tmp 40) (.tmp 43) rfl (litEv (by kernel_rfl)) (litEv (by kernel_rfl))))) ?_
   refine aoNext rfl (aoVal (fun g_ => [(6, .pointer (some ⟨g22, 0, none⟩)), (37, .int .i64 1)]) (fun g_ a_ h_k => ⟨(h_k.out 6 (by kernel_rfl)).trans (litGet (by kernel_rfl)), (h_k.inn 0 _ _ (by kernel_rfl) rfl rfl).trans (by kernel_rfl), trivial⟩) (fun g_ X_ => (wn rfl)) (fun b_ g_ => by kernel_rfl) (fun b_ g_ X_ w_ h_b h_ => valTo (b := .pointer (some ⟨g22, 1, none⟩)) (by kernel_rfl) (iaRun (b := g22) (off := 0) (s := 1) (n := 3) (kk := .i64) (.tmp 6) (.tmp 37) 1 Ty.und_3_int (by kernel_rfl) rfl (litEv (by kernel_rfl)) (litEv (by kernel_rfl)) rfl (by decide)))) ?_
   refine aoNext rfl (aoStore1 (gb := fun g_ => g22) (k := 1) (cur := fun g_ => [.int .i64 (min a.mx.x b.mx.x), .int .i64 a.mx.y, .int .i64 a.mx.z]) (v := fun g_ => .int .i64 (min a.mx.y b.mx.y)) (v0 := fun g_ => .int .i64 a.mx.y) 4 (fun g_ => [(44, .int .i64 (min a.mx.y b.mx.y)), (45, .pointer (some ⟨g22, 1, none⟩))]) (fun g_ a_ h_k => ⟨(h_k.inn 7 _ _ (by kernel_rfl) rfl rfl).trans (by kernel_rfl), (h_k.inn 8 _ _ (by kernel_rfl) rfl rfl).trans (by kernel_rfl), trivial⟩) (by kernel_rfl) (fun b_ g_ h_b => by show some (Res.arr g22 60 (bsel (b_ 9) [.int .i64 (min a.mx.x b.mx.x), .int .i64 (min a.mx.y b.mx.y), .int .i64 a.mx.z] [.int .i64 (min a.mx.x b.mx.x), .int .i64 a.mx.y, .int .i64 a.mx.z])) = some (Res.arr g22 60 ([.int .i64 (min a.mx.x b.mx.x), .int .i64 a.mx.y, .int .i64 a.mx.z])); rw [bselF h_b.no]) (fun g_ X_ => (wn rfl)) rfl (fun g_ X_ => litEv (by kernel_rfl)) (fun g_ X_ => litEv (by kernel_rfl)) (fun _ => rfl) (fun _ => rfl) (fun _ => rfl) (fun b_ g_ h_b => by kernel_rfl) rfl) ?_
   exact aoDone (by decide)
 intro g_ a_ w67 hF_ hm66
 obtain ⟨X68, rfl⟩ := frLit (⟨hF_.size, hF_.defers, ⟨(hF_.out 4 (by kernel_rfl)).trans (litGet (by kernel_rfl)), (hF_.out 5 (by kernel_rfl)).trans (litGet (by kernel_rfl)), (hF_.out 6 (by kernel_rfl)).trans (litGet (by kernel_rfl)), (hF_.out 7 (by kernel_rfl)).trans (litGet (by kernel_rfl)), (hF_.out 8 (by kernel_rfl)).trans (litGet (by kernel_rfl)), (hF_.out 9 (by kernel_rfl)).trans (litGet (by kernel_rfl)), (hF_.out 24 (by kernel_rfl)).trans (litGet (by kernel_rfl)), (hF_.out 25 (by kernel_rfl)).trans (litGet (by kernel_rfl)), (hF_.out 26 (by kernel_rfl)).trans (litGet (by kernel_rfl)), (hF_.out 27 (by kernel_rfl)).trans (litGet (by kernel_rfl)), (hF_.out 28 (by kernel_rfl)).trans (litGet (by kernel_rfl)), (hF_.out 29 (by kernel_rfl)).trans (litGet (by kernel_rfl)), (hF_.out 30 (by kernel_rfl)).trans (litGet (by kernel_rfl)), (hF_.out 31 (by kernel_rfl)).trans (litGet (by kernel_rfl)), (hF_.out 32 (by kernel_rfl)).trans (litGet (by kernel_rfl)), (hF_.out 33 (by kernel_rfl)).trans (litGet (by kernel_rfl)), (hF_.out 34 (by kernel_rfl)).trans (litGet (by kernel_rfl)), (hF_.out 35 (by kernel_rfl)).trans (litGet (by kernel_rfl)), (hF_.out 36 (by kernel_rfl)).trans (litGet (by kernel_rfl)), (hF_.inn 0 _ _ rfl rfl).trans (by kernel_rfl), (hF_.inn 1 _ _ rfl rfl).trans (by kernel_rfl), (hF_.inn 2 _ _ rfl rfl).trans (by kernel_rfl), (hF_.inn 3 _ _ rfl rfl).trans (by kernel_rfl), (hF_.inn 4 _ _ rfl rfl).trans (by kernel_rfl), (hF_.inn 5 _ _ rfl rfl).trans (by kernel_rfl), (hF_.inn 6 _ _ rfl rfl).trans (by kernel_rfl), (hF_.inn 7 _ _ rfl rfl).trans (by kernel_rfl), (hF_.inn 8 _ _ rfl rfl).trans (by kernel_rfl), trivial⟩⟩ : Fr _ 56 [(4, .pointer (some ⟨g8, 0, none⟩)), (5, .pointer (some ⟨g14, 0, none⟩)), (6, .pointer (some ⟨g22, 0, none⟩)), (7, .pointer (some ⟨g30, 0, none⟩)), (8, .pointer (some ⟨g38, 0, none⟩)), (9, .int .i64 1), (24, .int .i64 1), (25, .bool true), (26, .int .i64 0), (27, .int .i64 1), (28, .int .i64 1), (29, .int .i64 1), (30, .pointer (some ⟨g14, 1, none⟩)), (31, .int .i64 a.mn.y), (32, .int .i64 1), (33, .pointer (some ⟨g30, 1, none⟩)), (34, .int .i64 b.mn.y), (35, .int .i64 (max a.mn.y b.mn.y)), (36, .pointer (some ⟨g14, 1, none⟩)), (37, .int .i64 1), (38, .int .i64 1), (39, .pointer (some ⟨g22, 1, none⟩)), (40, .int .i64 a.mx.y), (41, .int .i64 1), (42, .pointer (some ⟨g38, 1, none⟩)), (43, .int .i64 b.mx.y), (44, .int .i64 (min a.mx.y b.mx.y)), (45, .pointer (some ⟨g22, 1, none⟩))])
 clear hF_
 have hm69 : Mem w w67 [.arr g2 55 (bxs a), .arr g5 55 (bxs b), .arr g8 55 ([.int .i64 0, .int .i64 0, .int .i64 0, .int .i64 0, .int .i64 0, .int .i64 0]), .arr g14 60 ([.int .i64 (max a.mn.x b.mn.x), .int .i64 (max a.mn.y b.mn.y), .int .i64 a.mn.z]), .arr g22 60 ([.int .i64 (min a.mx.x b.mx.x), .int .i64 (min a.mx.y b.mx.y), .int .i64 a.mx.z]), .arr g30 60 (pcs b.mn), .arr g38 60 (pcs b.mx)] := hm66
 clear hm66 hm65
 refine inBlock_normal ?_
 refine then_normal (hK60 _ _ ?_)
 refine plStart ?_
 refine lk (v := .int .i64 1) rfl rfl rfl ?_
 refine lk (v := .int .i64 2) rfl rfl rfl ?_
 refine lk (v := .int .i64 2) rfl rfl rfl ?_
 refine plD ?_
 refine then_normal (roundsNext ?_)
 refine wp_seq_k fun K70 hK70 => ?_
 refine wp_seq_k fun K71 hK71 => ?_
 refine plStart ?_
 refine lk (v := .int .i64 2) rfl rfl rfl ?_
 refine lk (v := .bool true) rfl rfl rfl ?_
 refine plD ?_
 refine then_normal (hK71 _ _ ?_)
 refine wp_cond_true (litEv (by kernel_rfl)) ?_
 refine wp_skip ?_
 refine then_normal (hK70 _ _ ?_)
 refine wp_seq_k fun K72 hK72 => ?_
 refine wp_block ?_
 refine wp_seq_k fun K73 hK73 => ?_
 refine aoStart (aoV [fun _ => .int .i64 2, fun _ => .int .i64 2, fun _ => .pointer (some ⟨g14, 2, none⟩), fun _ => .int .i64 a.mn.z, fun _ => .int .i64 2, fun _ => .pointer (some ⟨g30, 2, none⟩), fun _ => .int .i64 b.mn.z, fun _ => .int .i64 (max a.mn.z b.mn.z), fun _ => .pointer (some ⟨g14, 2, none⟩), fun _ => undef]) (aoA [0, 1, 2, 3, 4, 5, 6, 7, 8, 9]) (fun b_ g_ => ((.arr g2 55 (bxs a)) :: (.arr g5 55 (bxs b)) :: (.arr g8 55 ([.int .i64 0, .int .i64 0, .int .i64 0, .int .i64 0, .int .i64 0, .int .i64 0])) :: (.arr g14 60 (bsel (b_ 9) [.int .i64 (max a.mn.x b.mn.x), .int .i64 (max a.mn.y b.mn.y), .int .i64 (max a.mn.z b.mn.z)] [.int .i64 (max a.mn.x b.mn.x), .int .i64 (max a.mn.y b.mn.y), .int .i64 a.mn.z])) :: (.arr g22 60 ([.int .i64 (min a.mx.x b.mx.x), .int .i64 (min a.mx.y b.mx.y), .int .i64 a.mx.z])) :: (.arr g30 60 (pcs b.mn)) :: (.arr g38 60 (pcs b.mx)) :: [])) hm69 (by kernel_rfl) (by kernel_rfl) (fun w_ h_ => h_) (fun b_ g_ h_ => by show (fun (x9_ : Bool) => (((.arr g2 55 (bxs a)) :: (.arr g5 55 (bxs b)) :: (.arr g8 55 ([.int .i64 0, .int .i64 0, .int .i64 0, .int .i64 0, .int .i64 0, .int .i64 0])) :: (.arr g14 60 (bsel x9_ [.int .i64 (max a.mn.x b.mn.x), .int .i64 (max a.mn.y b.mn.y), .int .i64 (max a.mn.z b.mn.z)] [.int .i64 (max a.mn.x b.mn.x), .int .i64 (max a.mn.y b.mn.y), .int .i64 a.mn.z])) :: (.arr g22 60 ([.int .i64 (min a.mx.x b.mx.x), .int .i64 (min a.mx.y b.mx.y), .int .i64 a.mx.z])) :: (.arr g30 60 (pcs b.mn)) :: (.arr g38 60 (pcs b.mx)) :: []) : List Res)) (b_ 9) = _; rw [h_ 9 (by decide)]) ?_ ?_
 · refine aoNext rfl (aoVal (fun g_ => [(9, .int .i64 2)]) (fun g_ a_ h_k => ⟨(h_k.out 9 (by kernel_rfl)).trans (litGet (by kernel_rfl)), trivial⟩) (fun g_ X_ => (wn rfl)) (fun b_ g_ => by kernel_rfl) (fun b_ g_ X_ w_ h_b h_ => valTo (b := .int .i64 2) (by kernel_rfl) (litRun (by kernel_rfl)))) ?_
   refine aoNext rfl (aoVal (fun g_ => [(9, .int .i64 2)]) (fun g_ a_ h_k => ⟨(h_k.out 9 (by kernel_rfl)).trans (litGet (by kernel_rfl)), trivial⟩) (fun g_ X_ => (wn rfl)) (fun b_ g_ => by kernel_rfl) (fun b_ g_ X_ w_ h_b h_ => valTo (b := .int .i64 2) (by kernel_rfl) (litRun (by kernel_rfl)))) ?_
   refine aoNext rfl (aoVal (fun g_ => [(5, .pointer (some ⟨g14, 0, none⟩)), (29, .int .i64 2)]) (fun g_ a_ h_k => ⟨(h_k.out 5 (by kernel_rfl)).trans (litGet (by kernel_rfl)), (h_k.inn 1 _ _ (by kernel_rfl) rfl rfl).trans (by kernel_rfl), trivial⟩) (fun g_ X_ => (wn rfl)) (fun b_ g_ => by kernel_rfl) (fun b_ g_ X_ w_ h_b h_ => valTo (b := .pointer (some ⟨g14, 2, none⟩)) (by kernel_rfl) (iaRun (b := g14) (off := 0) (s := 1) (n := 3) (kk := .i64) (.tmp 5) (.tmp 29) 2 Ty.und_3_int (by kernel_rfl) rfl (litEv (by kernel_rfl)) (litEv (by kernel_rfl)) rfl (by decide)))) ?_
   refine aoNext rfl (aoVal (fun g_ => [(30, .pointer (some ⟨g14, 2, none⟩))]) (fun g_ a_ h_k => ⟨(h_k.inn 2 _ _ (by kernel_rfl) rfl rfl).trans (by kernel_rfl), trivial⟩) (fun g_ X_ => (wn rfl)) (fun b_ g_ => by kernel_rfl) (fun b_ g_ X_ w_ h_b h_ => valTo (b := .int .i64 a.mn.z) (by kernel_rfl) ((fun (h_ : Mem _ w_ ((.arr g2 55 (bxs a)) :: (.arr g5 55 (bxs b)) :: (.arr g8 55 ([.int .i64 0, .int .i64 0, .int .i64 0, .int .i64 0, .int .i64 0, .int .i64 0])) :: (.arr g14 60 ([.int .i64 (max a.mn.x b.mn.x), .int .i64 (max a.mn.y b.mn.y), .int .i64 a.mn.z])) :: (.arr g22 60 ([.int .i64 (min a.mx.x b.mx.x), .int .i64 (min a.mx.y b.mx.y), .int .i64 a.mx.z])) :: (.arr g30 60 (pcs b.mn)) :: (.arr g38 60 (pcs b.mx)) :: [])) => gLoad (v := .int .i64 a.mn.z) (k := 2) 3 h_ rfl (by kernel_rfl) (.tmp 30) (by kernel_rfl) rfl (litEv (by kernel_rfl))) (by have h2_ : Mem w w_ ((.arr g2 55 (bxs a)) :: (.arr g5 55 (bxs b)) :: (.arr g8 55 ([.int .i64 0, .int .i64 0, .int .i64 0, .int .i64 0, .int .i64 0, .int .i64 0])) :: (.arr g14 60 (bsel (b_ 9) [.int .i64 (max a.mn.x b.mn.x), .int .i64 (max a.mn.y b.mn.y), .int .i64 (max a.mn.z b.mn.z)] [.int .i64 (max a.mn.x b.mn.x), .int .i64 (max a.mn.y b.mn.y), .int .i64 a.mn.z])) :: (.arr g22 60 ([.int .i64 (min a.mx.x b.mx.x), .int .i64 (min a.mx.y b.mx.y), .int .i64 a.mx.z])) :: (.arr g30 60 (pcs b.mn)) :: (.arr g38 60 (pcs b.mx)) :: []) := h_; rw [bselF (h_b.post 9 (by kernel_rfl))] at h2_; exact h2_)))) ?_
   refine aoNext rfl (aoVal (fun g_ => [(9, .int .i64 2)]) (fun g_ a_ h_k => ⟨(h_k.out 9 (by kernel_rfl)).trans (litGet (by kernel_rfl)), trivial⟩) (fun g_ X_ => (wn rfl)) (fun b_ g_ => by kernel_rfl) (fun b_ g_ X_ w_ h_b h_ => valTo (b := .int .i64 2) (by kernel_rfl) (litRun (by kernel_rfl)))) ?_
   refine aoNext rfl (aoVal (fun g_ => [(7, .pointer (some ⟨g30, 0, none⟩)), (32, .int .i64 2)]) (fun g_ a_ h_k => ⟨(h_k.out 7 (by kernel_rfl)).trans (litGet (by kernel_rfl)), (h_k.inn 4 _ _ (by kernel_rfl) rfl rfl).trans (by kernel_rfl), trivial⟩) (fun g_ X_ => (wn rfl)) (fun b_ g_ => by kernel_rfl) (fun b_ g_ X_ w_ h_b h_ => valTo (b := .pointer (some ⟨g30, 2, none⟩)) (by kernel_rfl) (iaRun (b := g30) (off := 0) (s := 1) (n := 3) (kk := .i64) (.tmp 7) (.tmp 32) 2 Ty.und_3_int (by kernel_rfl) rfl (litEv (by kernel_rfl)) (litEv (by kernel_rfl)) rfl (by decide)))) ?_
   refine aoNext rfl (aoVal (fun g_ => [(33, .pointer (some ⟨g30, 2, none⟩))]) (fun g_ a_ h_k => ⟨(h_k.inn 5 _ _ (by kernel_rfl) rfl rfl).trans (by kernel_rfl), trivial⟩) (fun g_ X_ => (wn rfl)) (fun b_ g_ => by kernel_rfl) (fun b_ g_ X_ w_ h_b h_ => valTo (b := .int .i64 b.mn.z) (by kernel_rfl) ((fun (h_ : Mem _ w_ ((.arr g2 55 (bxs a)) :: (.arr g5 55 (bxs b)) :: (.arr g8 55 ([.int .i64 0, .int .i64 0, .int .i64 0, .int .i64 0, .int .i64 0, .int .i64 0])) :: (.arr g14 60 ([.int .i64 (max a.mn.x b.mn.x), .int .i64 (max a.mn.y b.mn.y), .int .i64 a.mn.z])) :: (.arr g22 60 ([.int .i64 (min a.mx.x b.mx.x), .int .i64 (min a.mx.y b.mx.y), .int .i64 a.mx.z])) :: (.arr g30 60 (pcs b.mn)) :: (.arr g38 60 (pcs b.mx)) :: [])) => gLoad (v := .int .i64 b.mn.z) (k := 2) 5 h_ rfl (by kernel_rfl) (.tmp 33) (by kernel_rfl) rfl (litEv (by kernel_rfl))) (by have h2_ : Mem w w_ ((.arr g2 55 (bxs a)) :: (.arr g5 55 (bxs b)) :: (.arr g8 55 ([.int .i64 0, .int .i64 0, .int .i64 0, .int .i64 0, .int .i64 0, .int .i64 0])) :: (.arr g14 60 (bsel (b_ 9) [.int .i64 (max a.mn.x b.mn.x), .int .i64 (max a.mn.y b.mn.y), .int .i64 (max a.mn.z b.mn.z)] [.int .i64 (max a.mn.x b.mn.x), .int .i64 (max a.mn.y b.mn.y), .int .i64 a.mn.z])) :: (.arr g22 60 ([.int .i64 (min a.mx.x b.mx.x), .int .i64 (min a.mx.y b.mx.y), .int .i64 a.mx.z])) :: (.arr g30 60 (pcs b.mn)) :: (.arr g38 60 (pcs b.mx)) :: []) := h_; rw [bselF (h_b.post 9 (by kernel_rfl))] at h2_; exact h2_)))) ?_
   refine aoNext rfl (aoVal (fun g_ => [(31, .int .i64 a.mn.z), (34, .int .i64 b.mn.z)]) (fun g_ a_ h_k => ⟨(h_k.inn 3 _ _ (by kernel_rfl) rfl rfl).trans (by kernel_rfl), (h_k.inn 6 _ _ (by kernel_rfl) rfl rfl).trans (by kernel_rfl), trivial⟩) (fun g_ X_ => (wn rfl)) (fun b_ g_ => by kernel_rfl) (fun b_ g_ X_ w_ h_b h_ => valTo (b := .int .i64 (max a.mn.z b.mn.z)) (by kernel_rfl) (gMax (.tmp 31) (.tmp 34) rfl (litEv (by kernel_rfl)) (litEv (by kernel_rfl))))) ?_
   refine aoNext rfl (aoVal (fun g_ => [(5, .pointer (some ⟨g14, 0, none⟩)), (28, .int .i64 2)]) (fun g_ a_ h_k => ⟨(h_k.out 5 (by kernel_rfl)).trans (litGet (by kernel_rfl)), (h_k.inn 0 _ _ (by kernel_rfl) rfl rfl).trans (by kernel_rfl), trivial⟩) (fun g_ X_ => (wn rfl)) (fun b_ g_ => by kernel_rfl) (fun b_ g_ X_ w_ h_b h_ => valTo (b := .pointer (some ⟨g14, 2, none⟩)) (by kernel_rfl) (iaRun (b := g14) (off := 0) (s := 1) (n := 3) (kk := .i64) (.tmp 5) (.tmp 28) 2 Ty.und_3_int (by kernel_rfl) rfl (litEv (by kernel_rfl)) (litEv (by kernel_rfl)) rfl (by decide)))) ?_
   refine aoNext rfl (aoStore1 (gb := fun g_ => g14) (k := 2) (cur := fun g_ => [.int .i64 (max a.mn.x b.mn.x), .int .i64 (max a.mn.y b.mn.y), .int .i64 a.mn.z]) (v := fun g_ => .int .i64 (max a.mn.z b.mn.z)) (v0 := fun g_ => .int .i64 a.mn.z) 3 (fun g_ => [(35, .int .i64 (max a.mn.z b.mn.z)), (36, .pointer (some ⟨g14, 2, none⟩))]) (fun g_ a_ h_k => ⟨(h_k.inn 7 _ _ (by kernel_rfl) rfl rfl).trans (by kernel_rfl), (h_k.inn 8 _ _ (by kernel_rfl) rfl rfl).trans (by kernel_rfl), trivial⟩) (by kernel_rfl) (fun b_ g_ h_b => by show some (Res.arr g14 60 (bsel (b_ 9) [.int .i64 (max a.mn.x b.mn.x), .int .i64 (max a.mn.y b.mn.y), .int .i64 (max a.mn.z b.mn.z)] [.int .i64 (max a.mn.x b.mn.x), .int .i64 (max a.mn.y b.mn.y), .int .i64 a.mn.z])) = some (Res.arr g14 60 ([.int .i64 (max a.mn.x b.mn.x), .int .i64 (max a.mn.y b.mn.y), .int .i64 a.mn.z])); rw [bselF h_b.no]) (fun g_ X_ => (wn rfl)) rfl (fun g_ X_ => litEv (by kernel_rfl)) (fun g_ X_ => litEv (by kernel_rfl)) (fun _ => rfl) (fun _ => rfl) (fun _ => rfl) (fun b_ g_ h_b => by kernel_rfl) rfl) ?_
   exact aoDone (by decide)
 intro g_ a_ w75 hF_ hm74
 obtain ⟨X76, rfl⟩ := frLit (⟨hF_.size, hF_.defers, ⟨(hF_.out 4 (by kernel_rfl)).trans (litGet (by kernel_rfl)), (hF_.out 5 (by kernel_rfl)).trans (litGet (by kernel_rfl)), (hF_.out 6 (by kernel_rfl)).trans (litGet (by kernel_rfl)), (hF_.out 7 (by kernel_rfl)).trans (litGet (by kernel_rfl)), (hF_.out 8 (by kernel_rfl)).trans (litGet (by kernel_rfl)), (hF_.out 9 (by kernel_rfl)).trans (litGet (by kernel_rfl)), (hF_.out 24 (by kernel_rfl)).trans (litGet (by kernel_rfl)), (hF_.out 25 (by kernel_rfl)).trans (litGet (by kernel_rfl)), (hF_.out 26 (by kernel_rfl)).trans (litGet (by kernel_rfl)), (hF_.out 27 (by kernel_rfl)).trans (litGet (by kernel_rfl)), (hF_.inn 0 _ _ rfl rfl).trans (by kernel_rfl), (hF_.inn 1 _ _ rfl rfl).trans (by kernel_rfl), (hF_.inn 2 _ _ rfl rfl).trans (by kernel_rfl), (hF_.inn 3 _ _ rfl rfl).trans (by kernel_rfl), (hF_.inn 4 _ _ rfl rfl).trans (by kernel_rfl), (hF_.inn 5 _ _ rfl rfl).trans (by kernel_rfl), (hF_.inn 6 _ _ rfl rfl).trans (by kernel_rfl), (hF_.inn 7 _ _ rfl rfl).trans (by kernel_rfl), (hF_.inn 8 _ _ rfl rfl).trans (by kernel_rfl), (hF_.out 37 (by kernel_rfl)).trans (litGet (by kernel_rfl)), (hF_.out 38 (by kernel_rfl)).trans (litGet (by kernel_rfl)), (hF_.out 39 (by kernel_rfl)).trans (litGet (by kernel_rfl)), (hF_.out 40 (by kernel_rfl)).trans (litGet (by kernel_rfl)), (hF_.out 41 (by kernel_rfl)).trans (litGet (by kernel_rfl)), (hF_.out 42 (by kernel_rfl)).trans (litGet (by kernel_rfl)), (hF_.out 43 (by kernel_rfl)).trans (litGet (by kernel_rfl)), (hF_.out 44 (by kernel_rfl)).trans (litGet (by kernel_rfl)), (hF_.out 45 (by kernel_rfl)).trans (litGet (by kernel_rfl)), trivial⟩⟩ : Fr _ 56 [(4, .pointer (some ⟨g8, 0, none⟩)), (5, .pointer (some ⟨g14, 0, none⟩)), (6, .pointer (some ⟨g22, 0, none⟩)), (7, .pointer (some ⟨g30, 0, none⟩)), (8, .pointer (some ⟨g38, 0, none⟩)), (9, .int .i64 2), (24, .int .i64 2), (25, .bool true), (26, .int .i64 1), (27, .int .i64 2), (28, .int .i64 2), (29, .int .i64 2), (30, .pointer (some ⟨g14, 2, none⟩)), (31, .int .i64 a.mn.z), (32, .int .i64 2), (33, .pointer (some ⟨g30, 2, none⟩)), (34, .int .i64 b.mn.z), (35, .int .i64 (max a.mn.z b.mn.z)), (36, .pointer (some ⟨g14, 2, none⟩)), (37, .int .i64 1), (38, .int .i64 1), (39, .pointer (some ⟨g22, 1, none⟩)), (40, .int .i64 a.mx.y), (41, .int .i64 1), (42, .pointer (some ⟨g38, 1, none⟩)), (43, .int .i64 b.mx.y), (44, .int .i64 (min a.mx.y b.mx.y)), (45, .pointer (some ⟨g22, 1, none⟩))])
 clear hF_
 have hm77 : Mem w w75 [.arr g2 55 (bxs a), .arr g5 55 (bxs b), .arr g8 55 ([.int .i64 0, .int .i64 0, .int .i64 0, .int .i64 0, .int .i64 0, .int .i64 0]), .arr g14 60 ([.int .i64 (max a.mn.x b.mn.x), .int .i64 (max a.mn.y b.mn.y), .int .i64 (max a.mn.z b.mn.z)]), .arr g22 60 ([.int .i64 (min a.mx.x b.mx.x), .int .i64 (min a.mx.y b.mx.y), .int .i64 a.mx.z]), .arr g30 60 (pcs b.mn), .arr g38 60 (pcs b.mx)] := hm74
 clear hm74 hm69
 refine then_normal (hK73 _ _ ?_)
 refine aoStart (aoV [fun _ => .int .i64 2, fun _ => .int .i64 2, fun _ => .pointer (some ⟨g22, 2, none⟩), fun _ => .int .i64 a.mx.z, fun _ => .int .i64 2, fun _ => .pointer (some ⟨g38, 2, none⟩), fun _ => .int .i64 b.mx.z, fun _ => .int .i64 (min a.mx.z b.mx.z), fun _ => .pointer (some ⟨g22, 2, none⟩), fun _ => undef]) (aoA [0, 1, 2, 3, 4, 5, 6, 7, 8, 9]) (fun b_ g_ => ((.arr g2 55 (bxs a)) :: (.arr g5 55 (bxs b)) :: (.arr g8 55 ([.int .i64 0, .int .i64 0, .int .i64 0, .int .i64 0, .int .i64 0, .int .i64 0])) :: (.arr g14 60 ([.int .i64 (max a.mn.x b.mn.x), .int .i64 (max a.mn.y b.mn.y), .int .i64 (max a.mn.z b.mn.z)])) :: (.arr g22 60 (bsel (b_ 9) [.int .i64 (min a.mx.x b.mx.x), .int .i64 (min a.mx.y b.mx.y), .int .i64 (min a.mx.z b.mx.z)] [.int .i64 (min a.mx.x b.mx.x), .int .i64 (min a.mx.y b.mx.y), .int .i64 a.mx.z])) :: (.arr g30 60 (pcs b.mn)) :: (.arr g38 60 (pcs b.mx)) :: [])) hm77 (by kernel_rfl) (by kernel_rfl) (fun w_ h_ => h_) (fun b_ g_ h_ => by show (fun (x9_ : Bool) => (((.arr g2 55 (bxs a)) :: (.arr g5 55 (bxs b)) :: (.arr g8 55 ([.int .i64 0, .int .i64 0, .int .i64 0, .int .i64 0, .int .i64 0, .int .i64 0])) :: (.arr g14 60 ([.int .i64 (max a.mn.x b.mn.x), .int .i64 (max a.mn.y b.mn.y), .int .i64 (max a.mn.z b.mn.z)])) :: (.arr g22 60 (bsel x9_ [.int .i64 (min a.mx.x b.mx.x), .int .i64 (min a.mx.y b.mx.y), .int .i64 (min a.mx.z b.mx.z)] [.int .i64 (min a.mx.x b.mx.x), .int .i64 (min a.mx.y b.mx.y), .int .i64 a.mx.z])) :: (.arr g30 60 (pcs b.mn)) :: (.arr g38 60 (pcs b.mx)) :: []) : List Res)) (b_ 9) = _; rw [h_ 9 (by decide)]) ?_ ?_
 · refine aoNext rfl (aoVal (fun g_ => [(9, .int .i64 2)]) (fun g_ a_ h_k => ⟨(h_k.out 9 (by kernel_rfl)).trans (litGet (by kernel_rfl)), trivial⟩) (fun g_ X_ => (wn rfl)) (fun b_ g_ => by kernel_rfl) (fun b_ g_ X_ w_ h_b h_ => valTo (b := .int .i64 2) (by kernel_rfl) (litRun (by kernel_rfl)))) ?_
   refine aoNext rfl (aoVal (fun g_ => [(9, .int .i64 2)]) (fun g_ a_ h_k => ⟨(h_k.out 9 (by kernel_rfl)).trans (litGet (by kernel_rfl)), trivial⟩) (fun g_ X_ => (wn rfl)) (fun b_ g_ => by kernel_rfl) (fun b_ g_ X_ w_ h_b h_ => valTo (b := .int .i64 2) (by kernel_rfl) (litRun (by kernel_rfl)))) ?_
   refine aoNext rfl (aoVal (fun g_ => [(6, .pointer (some ⟨g22, 0, none⟩)), (38, .int .i64 2)]) (fun g_ a_ h_k => ⟨(h_k.out 6 (by kernel_rfl)).trans (litGet (by kernel_rfl)), (h_k.inn 1 _ _ (by kernel_rfl) rfl rfl).trans (by kernel_rfl), trivial⟩) (fun g_ X_ => (wn rfl)) (fun b_ g_ => by kernel_rfl) (fun b_ g_ X_ w_ h_b h_ => valTo (b := .pointer (some ⟨g22, 2, none⟩)) (by kernel_rfl) (iaRun (b := g22) (off := 0) (s := 1) (n := 3) (kk := .i64) (.tmp 6) (.tmp 38) 2 Ty.und_3_int (by kernel_rfl) rfl (litEv (by kernel_rfl)) (litEv (by kernel_rfl)) rfl (by decide)))) ?_
   refine aoNext rfl (aoVal (fun g_ => [(39, .pointer (some ⟨g22, 2, none⟩))]) (fun g_ a_ h_k => ⟨(h_k.inn 2 _ _ (by kernel_rfl) rfl rfl).trans (by kernel_rfl), trivial⟩) (fun g_ X_ => (wn rfl)) (fun b_ g_ => by kernel_rfl) (fun b_ g_ X_ w_ h_b h_ => valTo (b := .int .i64 a.mx.z) (by kernel_rfl) ((fun (h_ : Mem _ w_ ((.arr g2 55 (bxs a)) :: (.arr g5 55 (bxs b)) :: (.arr g8 55 ([.int .i64 0, .int .i64 0, .int .i64 0, .int .i64 0, .int .i64 0, .int .i64 0])) :: (.arr g14 60 ([.int .i64 (max a.mn.x b.mn.x), .int .i64 (max a.mn.y b.mn.y), .int .i64 (max a.mn.z b.mn.z)])) :: (.arr g22 60 ([.int .i64 (min a.mx.x b.mx.x), .int .i64 (min a.mx.y b.mx.y), .int .i64 a.mx.z])) :: (.arr g30 60 (pcs b.mn)) :: (.arr g38 60 (pcs b.mx)) :: [])) => gLoad (v := .int .i64 a.mx.z) (k := 2) 4 h_ rfl (by kernel_rfl) (.tmp 39) (by kernel_rfl) rfl (litEv (by kernel_rfl))) (by have h2_ : Mem w w_ ((.arr g2 55 (bxs a)) :: (.arr g5 55 (bxs b)) :: (.arr g8 55 ([.int .i64 0, .int .i64 0, .int .i64 0, .int .i64 0, .int .i64 0, .int .i64 0])) :: (.arr g14 60 ([.int .i64 (max a.mn.x b.mn.x), .int .i64 (max a.mn.y b.mn.y), .int .i64 (max a.mn.z b.mn.z)])) :: (.arr g22 60 (bsel (b_ 9) [.int .i64 (min a.mx.x b.mx.x), .int .i64 (min a.mx.y b.mx.y), .int .i64 (min a.mx.z b.mx.z)] [.int .i64 (min a.mx.x b.mx.x), .int .i64 (min a.mx.y b.mx.y), .int .i64 a.mx.z])) :: (.arr g30 60 (pcs b.mn)) :: (.arr g38 60 (pcs b.mx)) :: []) := h_; rw [bselF (h_b.post 9 (by kernel_rfl))] at h2_; exact h2_)))) ?_
   refine aoNext rfl (aoVal (fun g_ => [(9, .int .i64 2)]) (fun g_ a_ h_k => ⟨(h_k.out 9 (by kernel_rfl)).trans (litGet (by kernel_rfl)), trivial⟩) (fun g_ X_ => (wn rfl)) (fun b_ g_ => by kernel_rfl) (fun b_ g_ X_ w_ h_b h_ => valTo (b := .int .i64 2) (by kernel_rfl) (litRun (by kernel_rfl)))) ?_
   refine aoNext rfl (aoVal (fun g_ => [(8, .pointer (some ⟨g38, 0, none⟩)), (41, .int .i64 2)]) (fun g_ a_ h_k => ⟨(h_k.out 8 (by kernel_rfl)).trans (litGet (by kernel_rfl)), (h_k.inn 4 _ _ (by kernel_rfl) rfl rfl).trans (by kernel_rfl), trivial⟩) (fun g_ X_ => (wn rfl)) (fun b_ g_ => by kernel_rfl) (fun b_ g_ X_ w_ h_b h_ => valTo (b := .pointer (some ⟨g38, 2, none⟩)) (by kernel_rfl) (iaRun (b := g38) (off := 0) (s := 1) (n := 3) (kk := .i64) (.tmp 8) (.tmp 41) 2 Ty.und_3_int (by kernel_rfl) rfl (litEv (by kernel_rfl)) (litEv (by kernel_rfl)) rfl (by decide)))) ?_
   refine aoNext rfl (aoVal (fun g_ => [(42, .pointer (some ⟨g38, 2, none⟩))]) (fun g_ a_ h_k => ⟨(h_k.inn 5 _ _ (by kernel_rfl) rfl rfl).trans (by kernel_rfl), trivial⟩) (fun g_ X_ => (wn rfl)) (fun b_ g_ => by kernel_rfl) (fun b_ g_ X_ w_ h_b h_ => valTo (b := .int .i64 b.mx.z) (by kernel_rfl) ((fun (h_ : Mem _ w_ ((.arr g2 55 (bxs a)) :: (.arr g5 55 (bxs b)) :: (.arr g8 55 ([.int .i64 0, .int .i64 0, .int .i64 0, .int .i64 0, .int .i64 0, .int .i64 0])) :: (.arr g14 60 ([.int .i64 (max a.mn.x b.mn.x), .int .i64 (max a.mn.y b.mn.y), .int .i64 (max a.mn.z b.mn.z)])) :: (.arr g22 60 ([.int .i64 (min a.mx.x b.mx.x), .int .i64 (min a.mx.y b.mx.y), .int .i64 a.mx.z])) :: (.arr g30 60 (pcs b.mn)) :: (.arr g38 60 (pcs b.mx)) :: [])) => gLoad (v := .int .i64 b.mx.z) (k := 2) 6 h_ rfl (by kernel_rfl) (.tmp 42) (by kernel_rfl) rfl (litEv (by kernel_rfl))) (by have h2_ : Mem w w_ ((.arr g2 55 (bxs a)) :: (.arr g5 55 (bxs b)) :: (.arr g8 55 ([.int .i64 0, .int .i64 0, .int .i64 0, .int .i64 0, .int .i64 0, .int .i64 0])) :: (.arr g14 60 ([.int .i64 (max a.mn.x b.mn.x), .int .i64 (max a.mn.y b.mn.y), .int .i64 (max a.mn.z b.mn.z)])) :: (.arr g22 60 (bsel (b_ 9) [.int .i64 (min a.mx.x b.mx.x), .int .i64 (min a.mx.y b.mx.y), .int .i64 (min a.mx.z b.mx.z)] [.int .i64 (min a.mx.x b.mx.x), .int .i64 (min a.mx.y b.mx.y), .int .i64 a.mx.z])) :: (.arr g30 60 (pcs b.mn)) :: (.arr g38 60 (pcs b.mx)) :: []) := h_; rw [bselF (h_b.post 9 (by kernel_rfl))] at h2_; exact h2_)))) ?_
   refine aoNext rfl (aoVal (fun g_ => [(40, .int .i64 a.mx.z), (43, .int .i64 b.mx.z)]) (fun g_ a_ h_k => ⟨(h_k.inn 3 _ _ (by kernel_rfl) rfl rfl).trans (by kernel_rfl), (h_k.inn 6 _ _ (by kernel_rfl) rfl rfl).trans (by kernel_rfl), trivial⟩) (fun g_ X_ => (wn rfl)) (fun b_ g_ => by kernel_rfl) (fun b_ g_ X_ w_ h_b h_ => valTo (b := .int .i64 (min a.mx.z b.mx.z)) (by kernel_rfl) (gMin (.tmp 40) (.tmp 43) rfl (litEv (by kernel_rfl)) (litEv (by kernel_rfl))))) ?_
   refine aoNext rfl (aoVal (fun g_ => [(6, .pointer (some ⟨g22, 0, none⟩)), (37, .int .i64 2)]) (fun g_ a_ h_k => ⟨(h_k.out 6 (by kernel_rfl)).trans (litGet (by kernel_rfl)), (h_k.inn 0 _ _ (by kernel_rfl) rfl rfl).trans (by kernel_rfl), trivial⟩) (fun g_ X_ => (wn rfl)) (fun b_ g_ => by kernel_rfl) (fun b_ g_ X_ w_ h_b h_ => valTo (b := .pointer (some ⟨g22, 2, none⟩)) (by kernel_rfl) (iaRun (b := g22) (off := 0) (s := 1) (n := 3) (kk := .i64) (.tmp 6) (.tmp 37) 2 Ty.und_3_int (by kernel_rfl) rfl (litEv (by kernel_rfl)) (litEv (by kernel_rfl)) rfl (by decide)))) ?_
   refine aoNext rfl (aoStore1 (gb := fun g_ => g22) (k := 2) (cur := fun g_ => [.int .i64 (min a.mx.x b.mx.x), .int .i64 (min a.mx.y b.mx.y), .int .i64 a.mx.z]) (v := fun g_ => .int .i64 (min a.mx.z b.mx.z)) (v0 := fun g_ => .int .i64 a.mx.z) 4 (fun g_ => [(44, .int .i64 (min a.mx.z b.mx.z)), (45, .pointer (some ⟨g22, 2, none⟩))]) (fun g_ a_ h_k => ⟨(h_k.inn 7 _ _ (by kernel_rfl) rfl rfl).trans (by kernel_rfl), (h_k.inn 8 _ _ (by kernel_rfl) rfl rfl).trans (by kernel_rfl), trivial⟩) (by kernel_rfl) (fun b_ g_ h_b => by show some (Res.arr g22 60 (bsel (b_ 9) [.int .i64 (min a.mx.x b.mx.x), .int .i64 (min a.mx.y b.mx.y), .int .i64 (min a.mx.z b.mx.z)] [.int .i64 (min a.mx.x b.mx.x), .int .i64 (min a.mx.y b.mx.y), .int .i64 a.mx.z])) = some (Res.arr g22 60 ([.int .i64 (min a.mx.x b.mx.x), .int .i64 (min a.mx.y b.mx.y), .int .i64 a.mx.z])); rw [bselF h_b.no]) (fun g_ X_ => (wn rfl)) rfl (fun g_ X_ => litEv (by kernel_rfl)) (fun g_ X_ => litEv (by kernel_rfl)) (fun _ => rfl) (fun _ => rfl) (fun _ => rfl) (fun b_ g_ h_b => by kernel_rfl) rfl) ?_
   exact aoDone (by decide)
 intro g_ a_ w79 hF_ hm78
 obtain ⟨X80, rfl⟩ := frLit (⟨hF_.size, hF_.defers, ⟨(hF_.out 4 (by kernel_rfl)).trans (litGet (by kernel_rfl)), (hF_.out 5 (by kernel_rfl)).trans (litGet (by kernel_rfl)), (hF_.out 6 (by kernel_rfl)).trans (litGet (by kernel_rfl)), (hF_.out 7 (by kernel_rfl)).trans (litGet (by kernel_rfl)), (hF_.out 8 (by kernel_rfl)).trans (litGet (by kernel_rfl)), (hF_.out 9 (by kernel_rfl)).trans (litGet (by kernel_rfl)), (hF_.out 24 (by kernel_rfl)).trans (litGet (by kernel_rfl)), (hF_.out 25 (by kernel_rfl)).trans (litGet (by kernel_rfl)), (hF_.out 26 (by kernel_rfl)).trans (litGet (by kernel_rfl)), (hF_.out 27 (by kernel_rfl)).trans (litGet (by kernel_rfl)), (hF_.out 28 (by kernel_rfl)).trans (litGet (by kernel_rfl)), (hF_.out 29 (by kernel_rfl)).trans (litGet (by kernel_rfl)), (hF_.out 30 (by kernel_rfl)).trans (litGet (by kernel_rfl)), (hF_.out 31 (by kernel_rfl)).trans (litGet (by kernel_rfl)), (hF_.out 32 (by kernel_rfl)).trans (litGet (by kernel_rfl)), (hF_.out 33 (by kernel_rfl)).trans (litGet (by kernel_rfl)), (hF_.out 34 (by kernel_rfl)).trans (litGet (by kernel_rfl)), (hF_.out 35 (by kernel_rfl)).trans (litGet (by kernel_rfl)), (hF_.out 36 (by kernel_rfl)).trans (litGet (by kernel_rfl)), (hF_.inn 0 _ _ rfl rfl).trans (by kernel_rfl), (hF_.inn 1 _ _ rfl rfl).trans (by kernel_rfl), (hF_.inn 2 _ _ rfl rfl).trans (by kernel_rfl), (hF_.inn 3 _ _ rfl rfl).trans (by kernel_rfl), (hF_.inn 4 _ _ rfl rfl).trans (by kernel_rfl), (hF_.inn 5 _ _ rfl rfl).trans (by kernel_rfl), (hF_.inn 6 _ _ rfl rfl).trans (by kernel_rfl), (hF_.inn 7 _ _ rfl rfl).trans (by kernel_rfl), (hF_.inn 8 _ _ rfl rfl).trans (by kernel_rfl), trivial⟩⟩ : Fr _ 56 [(4, .pointer (some ⟨g8, 0, none⟩)), (5, .pointer (some ⟨g14, 0, none⟩)), (6, .pointer (some ⟨g22, 0, none⟩)), (7, .pointer (some ⟨g30, 0, none⟩)), (8, .pointer (some ⟨g38, 0, none⟩)), (9, .int .i64 2), (24, .int .i64 2), (25, .bool true), (26, .int .i64 1), (27, .int .i64 2), (28, .int .i64 2), (29, .int .i64 2), (30, .pointer (some ⟨g14, 2, none⟩)), (31, .int .i64 a.mn.z), (32, .int .i64 2), (33, .pointer (some ⟨g30, 2, none⟩)), (34, .int .i64 b.mn.z), (35, .int .i64 (max a.mn.z b.mn.z)), (36, .pointer (some ⟨g14, 2, none⟩)), (37, .int .i64 2), (38, .int .i64 2), (39, .pointer (some ⟨g22, 2, none⟩)), (40, .int .i64 a.mx.z), (41, .int .i64 2), (42, .pointer (some ⟨g38, 2, none⟩)), (43, .int .i64 b.mx.z), (44, .int .i64 (min a.mx.z b.mx.z)), (45, .pointer (some ⟨g22, 2, none⟩))])
 clear hF_
 have hm81 : Mem w w79 [.arr g2 55 (bxs a), .arr g5 55 (bxs b), .arr g8 55 ([.int .i64 0, .int .i64 0, .int .i64 0, .int .i64 0, .int .i64 0, .int .i64 0]), .arr g14 60 ([.int .i64 (max a.mn.x b.mn.x), .int .i64 (max a.mn.y b.mn.y), .int .i64 (max a.mn.z b.mn.z)]), .arr g22 60 ([.int .i64 (min a.mx.x b.mx.x), .int .i64 (min a.mx.y b.mx.y), .int .i64 (min a.mx.z b.mx.z)]), .arr g30 60 (pcs b.mn), .arr g38 60 (pcs b.mx)] := hm78
 clear hm78 hm77
 refine inBlock_normal ?_
 refine then_normal (hK72 _ _ ?_)
 refine plStart ?_
 refine lk (v := .int .i64 2) rfl rfl rfl ?_
 refine lk (v := .int .i64 3) rfl rfl rfl ?_
 refine lk (v := .int .i64 3) rfl rfl rfl ?_
 refine plD ?_
 refine then_normal (roundsNext ?_)
 refine wp_seq_k fun K82 hK82 => ?_
 refine wp_seq_k fun K83 hK83 => ?_
 refine plStart ?_
 refine lk (v := .int .i64 3) rfl rfl rfl ?_
 refine lk (v := .bool false) rfl rfl rfl ?_
 refine plD ?_
 refine then_normal (hK83 _ _ ?_)
 refine wp_cond_false (litEv (by kernel_rfl)) ?_
 refine wp_exit ?_
 refine then_exit ?_
 refine then_exit ?_
 refine inBlock_exit ?_
 refine then_normal (hK44 _ _ ?_)
 refine wpPrune [(4, .pointer (some ⟨g8, 0, none⟩)), (5, .pointer (some ⟨g14, 0, none⟩)), (6, .pointer (some ⟨g22, 0, none⟩))] ⟨litGet (by kernel_rfl), ⟨litGet (by kernel_rfl), ⟨litGet (by kernel_rfl), trivial⟩⟩⟩ (fun X84 => ?_)
 refine wp_seq_k fun K85 hK85 => ?_
 refine aoStart (aoV [fun _ => .agg (pcs ⟨max a.mn.x b.mn.x, max a.mn.y b.mn.y, max a.mn.z b.mn.z⟩).toArray, fun _ => .agg (pcs ⟨max a.mn.x b.mn.x, max a.mn.y b.mn.y, max a.mn.z b.mn.z⟩).toArray, fun _ => .agg (pcs ⟨min a.mx.x b.mx.x, min a.mx.y b.mx.y, min a.mx.z b.mx.z⟩).toArray, fun _ => .agg (pcs ⟨min a.mx.x b.mx.x, min a.mx.y b.mx.y, min a.mx.z b.mx.z⟩).toArray, fun _ => .agg ([.int .i64 (max a.mn.x b.mn.x), .int .i64 (max a.mn.y b.mn.y), .int .i64 (max a.mn.z b.mn.z), .int .i64 (min a.mx.x b.mx.x), .int .i64 (min a.mx.y b.mx.y), .int .i64 (min a.mx.z b.mx.z)]).toArray, fun γ_ => .pointer (some ⟨γ_, 0, none⟩), fun _ => undef]) (aoA [0, 1, 2, 3, 4, 5, 6]) (fun b_ g_ => ((.arr g2 55 (bxs a)) :: (.arr g5 55 (bxs b)) :: (.arr g8 55 ([.int .i64 0, .int .i64 0, .int .i64 0, .int .i64 0, .int .i64 0, .int .i64 0])) :: (.arr g14 60 ([.int .i64 (max a.mn.x b.mn.x), .int .i64 (max a.mn.y b.mn.y), .int .i64 (max a.mn.z b.mn.z)])) :: (.arr g22 60 ([.int .i64 (min a.mx.x b.mx.x), .int .i64 (min a.mx.y b.mx.y), .int .i64 (min a.mx.z b.mx.z)])) :: (.arr g30 60 (pcs b.mn)) :: (.arr g38 60 (pcs b.mx)) :: (bsel (b_ 5) (.arr (g_ 5) 55 (bsel (b_ 6) [.int .i64 (max a.mn.x b.mn.x), .int .i64 (max a.mn.y b.mn.y), .int .i64 (max a.mn.z b.mn.z), .int .i64 (min a.mx.x b.mx.x), .int .i64 (min a.mx.y b.mx.y), .int .i64 (min a.mx.z b.mx.z)] [.int .i64 0, .int .i64 0, .int .i64 0, .int .i64 0, .int .i64 0, .int .i64 0])) .free) :: [])) hm81 (by kernel_rfl) (by kernel_rfl) (fun w_ h_ => h_.pushFree) (fun b_ g_ h_ => by show (fun (x5_ x6_ : Bool) => (((.arr g2 55 (bxs a)) :: (.arr g5 55 (bxs b)) :: (.arr g8 55 ([.int .i64 0, .int .i64 0, .int .i64 0, .int .i64 0, .int .i64 0, .int .i64 0])) :: (.arr g14 60 ([.int .i64 (max a.mn.x b.mn.x), .int .i64 (max a.mn.y b.mn.y), .int .i64 (max a.mn.z b.mn.z)])) :: (.arr g22 60 ([.int .i64 (min a.mx.x b.mx.x), .int .i64 (min a.mx.y b.mx.y), .int .i64 (min a.mx.z b.mx.z)])) :: (.arr g30 60 (pcs b.mn)) :: (.arr g38 60 (pcs b.mx)) :: (bsel x5_ (.arr (g_ 5) 55 (bsel x6_ [.int .i64 (max a.mn.x b.mn.x), .int .i64 (max a.mn.y b.mn.y), .int .i64 (max a.mn.z b.mn.z), .int .i64 (min a.mx.x b.mx.x), .int .i64 (min a.mx.y b.mx.y), .int .i64 (min a.mx.z b.mx.z)] [.int .i64 0, .int .i64 0, .int .i64 0, .int .i64 0, .int .i64 0, .int .i64 0])) .free) :: []) : List Res)) (b_ 5) (b_ 6) = _; rw [h_ 5 (by decide), h_ 6 (by decide)]) ?_ ?_
 · refine aoNext rfl (aoVal (fun g_ => [(5, .pointer (some ⟨g14, 0, none⟩))]) (fun g_ a_ h_k => ⟨(h_k.out 5 (by kernel_rfl)).trans (litGet (by kernel_rfl)), trivial⟩) (fun g_ X_ => (wn rfl)) (fun b_ g_ => by kernel_rfl) (fun b_ g_ X_ w_ h_b h_ => valTo (b := .agg (pcs ⟨max a.mn.x b.mn.x, max a.mn.y b.mn.y, max a.mn.z b.mn.z⟩).toArray) (by kernel_rfl) (gLoadAg (vs := pcs ⟨max a.mn.x b.mn.x, max a.mn.y b.mn.y, max a.mn.z b.mn.z⟩) (k := 0) 3 h_ rfl (by kernel_rfl) (by kernel_rfl) (.tmp 5) Ty.ag_3_int rfl (litEv (by kernel_rfl))))) ?_
   refine aoNext rfl (aoCall (fun g_ => [(46, .agg (pcs ⟨max a.mn.x b.mn.x, max a.mn.y b.mn.y, max a.mn.z b.mn.z⟩).toArray)]) (fun g_ a_ h_k => ⟨(h_k.inn 0 _ _ (by kernel_rfl) rfl rfl).trans (by kernel_rfl), trivial⟩) 61 (fun g_ => [.agg (pcs ⟨max a.mn.x b.mn.x, max a.mn.y b.mn.y, max a.mn.z b.mn.z⟩).toArray]) [] [] (by kernel_rfl) (fun g_ X_ => (wn rfl)) (fun b_ g_ => by kernel_rfl) rfl (fun g_ X_ => litEv (by kernel_rfl)) (fun g_ X_ => litArgs (by kernel_rfl)) (fun b_ g_ w_ h_b h_ => (of_any ⟨max a.mn.x b.mn.x, max a.mn.y b.mn.y, max a.mn.z b.mn.z⟩ _).mono (fun _ _ h_r => ⟨h_r.1.trans (by kernel_rfl), h_r.2⟩))) ?_
   refine aoNext rfl (aoVal (fun g_ => [(6, .pointer (some ⟨g22, 0, none⟩))]) (fun g_ a_ h_k => ⟨(h_k.out 6 (by kernel_rfl)).trans (litGet (by kernel_rfl)), trivial⟩) (fun g_ X_ => (wn rfl)) (fun b_ g_ => by kernel_rfl) (fun b_ g_ X_ w_ h_b h_ => valTo (b := .agg (pcs ⟨min a.mx.x b.mx.x, min a.mx.y b.mx.y, min a.mx.z b.mx.z⟩).toArray) (by kernel_rfl) (gLoadAg (vs := pcs ⟨min a.mx.x b.mx.x, min a.mx.y b.mx.y, min a.mx.z b.mx.z⟩) (k := 0) 4 h_ rfl (by kernel_rfl) (by kernel_rfl) (.tmp 6) Ty.ag_3_int rfl (litEv (by kernel_rfl))))) ?_
   refine aoNext rfl (aoCall (fun g_ => [(48, .agg (pcs ⟨min a.mx.x b.mx.x, min a.mx.y b.mx.y, min a.mx.z b.mx.z⟩).toArray)]) (fun g_ a_ h_k => ⟨(h_k.inn 2 _ _ (by kernel_rfl) rfl rfl).trans (by kernel_rfl), trivial⟩) 61 (fun g_ => [.agg (pcs ⟨min a.mx.x b.mx.x, min a.mx.y b.mx.y, min a.mx.z b.mx.z⟩).toArray]) [] [] (by kernel_rfl) (fun g_ X_ => (wn rfl)) (fun b_ g_ => by kernel_rfl) rfl (fun g_ X_ => litEv (by kernel_rfl)) (fun g_ X_ => litArgs (by kernel_rfl)) (fun b_ g_ w_ h_b h_ => (of_any ⟨min a.mx.x b.mx.x, min a.mx.y b.mx.y, min a.mx.z b.mx.z⟩ _).mono (fun _ _ h_r => ⟨h_r.1.trans (by kernel_rfl), h_r.2⟩))) ?_
   refine aoNext rfl (aoVal (fun g_ => [(47, .agg (pcs ⟨max a.mn.x b.mn.x, max a.mn.y b.mn.y, max a.mn.z b.mn.z⟩).toArray), (49, .agg (pcs ⟨min a.mx.x b.mx.x, min a.mx.y b.mx.y, min a.mx.z b.mx.z⟩).toArray)]) (fun g_ a_ h_k => ⟨(h_k.inn 1 _ _ (by kernel_rfl) rfl rfl).trans (by kernel_rfl), (h_k.inn 3 _ _ (by kernel_rfl) rfl rfl).trans (by kernel_rfl), trivial⟩) (fun g_ X_ => (wn rfl)) (fun b_ g_ => by kernel_rfl) (fun b_ g_ X_ w_ h_b h_ => valTo (b := .agg ([.int .i64 (max a.mn.x b.mn.x), .int .i64 (max a.mn.y b.mn.y), .int .i64 (max a.mn.z b.mn.z), .int .i64 (min a.mx.x b.mx.x), .int .i64 (min a.mx.y b.mx.y), .int .i64 (min a.mx.z b.mx.z)]).toArray) (by kernel_rfl) (litRun (by kernel_rfl)))) ?_
   refine aoNext rfl (aoNewAg (z := [.int .i64 0, .int .i64 0, .int .i64 0, .int .i64 0, .int .i64 0, .int .i64 0]) 7 Ty.ag_voxel_api_Box rfl rfl (fun _ _ _ => ⟨_, rfl⟩) (fun b_ g_ γ_ h_b => Eq.trans (by kernel_rfl) (congrArg (fun x_ => List.set _ 7 (Res.arr γ_ 55 x_)) (bselF (α := List Value) (h_b.post 6 (by kernel_rfl)) [.int .i64 (max a.mn.x b.mn.x), .int .i64 (max a.mn.y b.mn.y), .int .i64 (max a.mn.z b.mn.z), .int .i64 (min a.mx.x b.mx.x), .int .i64 (min a.mx.y b.mx.y), .int .i64 (min a.mx.z b.mx.z)] [.int .i64 0, .int .i64 0, .int .i64 0, .int .i64 0, .int .i64 0, .int .i64 0]))) (fun _ => by kernel_rfl) (by kernel_rfl)) ?_
   refine aoNext rfl (aoStore (gb := fun g_ => (g_ 5)) (k := 0) (cur := fun g_ => [.int .i64 0, .int .i64 0, .int .i64 0, .int .i64 0, .int .i64 0, .int .i64 0]) (vs := fun g_ => [.int .i64 (max a.mn.x b.mn.x), .int .i64 (max a.mn.y b.mn.y), .int .i64 (max a.mn.z b.mn.z), .int .i64 (min a.mx.x b.mx.x), .int .i64 (min a.mx.y b.mx.y), .int .i64 (min a.mx.z b.mx.z)]) 7 (fun g_ => [(10, .pointer (some ⟨(g_ 5), 0, none⟩)), (50, .agg ([.int .i64 (max a.mn.x b.mn.x), .int .i64 (max a.mn.y b.mn.y), .int .i64 (max a.mn.z b.mn.z), .int .i64 (min a.mx.x b.mx.x), .int .i64 (min a.mx.y b.mx.y), .int .i64 (min a.mx.z b.mx.z)]).toArray)]) (fun g_ a_ h_k => ⟨(h_k.inn 5 _ _ (by kernel_rfl) rfl rfl).trans (by kernel_rfl), (h_k.inn 4 _ _ (by kernel_rfl) rfl rfl).trans (by kernel_rfl), trivial⟩) Ty.ag_voxel_api_Box (fun b_ g_ h_b => by show some (bsel (b_ 5) (Res.arr (g_ 5) 55 (bsel (b_ 6) [.int .i64 (max a.mn.x b.mn.x), .int .i64 (max a.mn.y b.mn.y), .int .i64 (max a.mn.z b.mn.z), .int .i64 (min a.mx.x b.mx.x), .int .i64 (min a.mx.y b.mx.y), .int .i64 (min a.mx.z b.mx.z)] [.int .i64 0, .int .i64 0, .int .i64 0, .int .i64 0, .int .i64 0, .int .i64 0])) Res.free) = some (Res.arr (g_ 5) 55 ([.int .i64 0, .int .i64 0, .int .i64 0, .int .i64 0, .int .i64 0, .int .i64 0])); rw [bselT (h_b.pre 5 (by kernel_rfl)), bselF h_b.no]) (fun g_ X_ => (wn rfl)) rfl (fun g_ X_ => litEv (by kernel_rfl)) (fun g_ X_ => litEv (by kernel_rfl)) (fun _ => by kernel_rfl) (fun _ => by kernel_rfl) (fun _ => by kernel_rfl) (fun b_ g_ h_b => Eq.trans (b := List.set (((.arr g2 55 (bxs a)) :: (.arr g5 55 (bxs b)) :: (.arr g8 55 ([.int .i64 0, .int .i64 0, .int .i64 0, .int .i64 0, .int .i64 0, .int .i64 0])) :: (.arr g14 60 ([.int .i64 (max a.mn.x b.mn.x), .int .i64 (max a.mn.y b.mn.y), .int .i64 (max a.mn.z b.mn.z)])) :: (.arr g22 60 ([.int .i64 (min a.mx.x b.mx.x), .int .i64 (min a.mx.y b.mx.y), .int .i64 (min a.mx.z b.mx.z)])) :: (.arr g30 60 (pcs b.mn)) :: (.arr g38 60 (pcs b.mx)) :: (bsel (b_ 5) (.arr (g_ 5) 55 (bsel (b_ 6) [.int .i64 (max a.mn.x b.mn.x), .int .i64 (max a.mn.y b.mn.y), .int .i64 (max a.mn.z b.mn.z), .int .i64 (min a.mx.x b.mx.x), .int .i64 (min a.mx.y b.mx.y), .int .i64 (min a.mx.z b.mx.z)] [.int .i64 0, .int .i64 0, .int .i64 0, .int .i64 0, .int .i64 0, .int .i64 0])) .free) :: [])) 7 (bsel (b_ 5) (Res.arr (g_ 5) 55 ([.int .i64 (max a.mn.x b.mn.x), .int .i64 (max a.mn.y b.mn.y), .int .i64 (max a.mn.z b.mn.z), .int .i64 (min a.mx.x b.mx.x), .int .i64 (min a.mx.y b.mx.y), .int .i64 (min a.mx.z b.mx.z)])) Res.free)) (by kernel_rfl) (congrArg (fun x_ => List.set _ 7 x_) (bselT (h_b.pre 5 (by kernel_rfl)) _ _))) rfl) ?_
   exact aoDone (by decide)
 intro g_ a_ w87 hF_ hm86
 obtain ⟨X88, rfl⟩ := frLit (⟨hF_.size, hF_.defers, ⟨(hF_.out 4 (by kernel_rfl)).trans (litGet (by kernel_rfl)), (hF_.inn 5 _ _ rfl rfl).trans (by kernel_rfl), (hF_.inn 0 _ _ rfl rfl).trans (by kernel_rfl), (hF_.inn 1 _ _ rfl rfl).trans (by kernel_rfl), (hF_.inn 2 _ _ rfl rfl).trans (by kernel_rfl), (hF_.inn 3 _ _ rfl rfl).trans (by kernel_rfl), (hF_.inn 4 _ _ rfl rfl).trans (by kernel_rfl), trivial⟩⟩ : Fr _ 56 [(4, .pointer (some ⟨g8, 0, none⟩)), (10, .pointer (some ⟨(g_ 5), 0, none⟩)), (46, .agg (pcs ⟨max a.mn.x b.mn.x, max a.mn.y b.mn.y, max a.mn.z b.mn.z⟩).toArray), (47, .agg (pcs ⟨max a.mn.x b.mn.x, max a.mn.y b.mn.y, max a.mn.z b.mn.z⟩).toArray), (48, .agg (pcs ⟨min a.mx.x b.mx.x, min a.mx.y b.mx.y, min a.mx.z b.mx.z⟩).toArray), (49, .agg (pcs ⟨min a.mx.x b.mx.x, min a.mx.y b.mx.y, min a.mx.z b.mx.z⟩).toArray), (50, .agg ([.int .i64 (max a.mn.x b.mn.x), .int .i64 (max a.mn.y b.mn.y), .int .i64 (max a.mn.z b.mn.z), .int .i64 (min a.mx.x b.mx.x), .int .i64 (min a.mx.y b.mx.y), .int .i64 (min a.mx.z b.mx.z)]).toArray)])
 clear hF_
 have hm89 : Mem w w87 [.arr g2 55 (bxs a), .arr g5 55 (bxs b), .arr g8 55 ([.int .i64 0, .int .i64 0, .int .i64 0, .int .i64 0, .int .i64 0, .int .i64 0]), .arr g14 60 ([.int .i64 (max a.mn.x b.mn.x), .int .i64 (max a.mn.y b.mn.y), .int .i64 (max a.mn.z b.mn.z)]), .arr g22 60 ([.int .i64 (min a.mx.x b.mx.x), .int .i64 (min a.mx.y b.mx.y), .int .i64 (min a.mx.z b.mx.z)]), .arr g30 60 (pcs b.mn), .arr g38 60 (pcs b.mx), .arr (g_ 5) 55 ([.int .i64 (max a.mn.x b.mn.x), .int .i64 (max a.mn.y b.mn.y), .int .i64 (max a.mn.z b.mn.z), .int .i64 (min a.mx.x b.mx.x), .int .i64 (min a.mx.y b.mx.y), .int .i64 (min a.mx.z b.mx.z)])] := hm86
 clear hm86 hm81
 generalize g_ 5 = g90 at hm89 ⊢
 clear g_
 refine then_normal (hK85 _ _ ?_)
 refine wp_seq_k fun K91 hK91 => ?_
 refine plStart ?_
 refine litVal (v := .agg ([.int .i64 (max a.mn.x b.mn.x), .int .i64 (max a.mn.y b.mn.y), .int .i64 (max a.mn.z b.mn.z), .int .i64 (min a.mx.x b.mx.x), .int .i64 (min a.mx.y b.mx.y), .int .i64 (min a.mx.z b.mx.z)]).toArray) rfl (wn rfl) (gLoadAg (vs := [.int .i64 (max a.mn.x b.mn.x), .int .i64 (max a.mn.y b.mn.y), .int .i64 (max a.mn.z b.mn.z), .int .i64 (min a.mx.x b.mx.x), .int .i64 (min a.mx.y b.mx.y), .int .i64 (min a.mx.z b.mx.z)]) (k := 0) 7 hm89 rfl (by kernel_rfl) (by kernel_rfl) (.tmp 10) Ty.ag_voxel_api_Box rfl (litEv (by kernel_rfl))) rfl (by decide) ?_
 refine plCall (i := 1) 56 [.agg ([.int .i64 (max a.mn.x b.mn.x), .int .i64 (max a.mn.y b.mn.y), .int .i64 (max a.mn.z b.mn.z), .int .i64 (min a.mx.x b.mx.x), .int .i64 (min a.mx.y b.mx.y), .int .i64 (min a.mx.z b.mx.z)]).toArray] [] [] rfl (by kernel_rfl) (wn rfl) rfl (litEv (by kernel_rfl)) (litArgs (by kernel_rfl)) (by exact rempty_any (a.meet b) _) ?_
 rintro e w92 ⟨rfl, hbz⟩
 have hm93 := hm89.below hbz
 clear hbz hm89
 refine ⟨_, rfl, ?_⟩
 refine qP rfl ?_
 rcases bool_or (decide (a.meet b).none) with h94 | h94
 · rw [h94]
   refine lk (v := .bool false) rfl rfl rfl ?_
   refine plD ?_
   refine then_normal (hK91 _ _ ?_)
   refine wp_seq_k fun K95 hK95 => ?_
   refine wp_seq_k fun K96 hK96 => ?_
   refine plStart ?_
   refine lk (v := .bool false) rfl rfl rfl ?_
   refine plD ?_
   refine then_normal (hK96 _ _ ?_)
   refine wp_cond_false (litEv (by kernel_rfl)) ?_
   refine wp_skip ?_
   refine then_normal (hK95 _ _ ?_)
   refine wp_seq_k fun K97 hK97 => ?_
   refine plStart ?_
   refine litVal (v := .agg ([.int .i64 (max a.mn.x b.mn.x), .int .i64 (max a.mn.y b.mn.y), .int .i64 (max a.mn.z b.mn.z), .int .i64 (min a.mx.x b.mx.x), .int .i64 (min a.mx.y b.mx.y), .int .i64 (min a.mx.z b.mx.z)]).toArray) rfl (wn rfl) (gLoadAg (vs := [.int .i64 (max a.mn.x b.mn.x), .int .i64 (max a.mn.y b.mn.y), .int .i64 (max a.mn.z b.mn.z), .int .i64 (min a.mx.x b.mx.x), .int .i64 (min a.mx.y b.mx.y), .int .i64 (min a.mx.z b.mx.z)]) (k := 0) 7 hm93 rfl (by kernel_rfl) (by kernel_rfl) (.tmp 10) Ty.ag_voxel_api_Box rfl (litEv (by kernel_rfl))) rfl (by decide) ?_
   refine plStore 2 Ty.ag_voxel_api_Box hm93 rfl (i := 1) (cs := [.int .i64 (max a.mn.x b.mn.x), .int .i64 (max a.mn.y b.mn.y), .int .i64 (max a.mn.z b.mn.z), .int .i64 (min a.mx.x b.mx.x), .int .i64 (min a.mx.y b.mx.y), .int .i64 (min a.mx.z b.mx.z)]) rfl (wn rfl) rfl (litEv (by kernel_rfl)) (litEv (by kernel_rfl)) rfl rfl (by kernel_rfl) ?_
   intro w99 hm98
   clear hm93
   try simp only [List.cons_append, List.nil_append, List.set_cons_succ, List.set_cons_zero] at hm98
   refine qNone rfl ?_
   refine plD ?_
   refine then_normal (hK97 _ _ ?_)
   refine wp_ret ?_
   refine bodyPost_ret (v := .agg ([.int .i64 (max a.mn.x b.mn.x), .int .i64 (max a.mn.y b.mn.y), .int .i64 (max a.mn.z b.mn.z), .int .i64 (min a.mx.x b.mx.x), .int .i64 (min a.mx.y b.mx.y), .int .i64 (min a.mx.z b.mx.z)]).toArray) (gRes1 rfl (gResAg (cs := [.int .i64 (max a.mn.x b.mn.x), .int .i64 (max a.mn.y b.mn.y), .int .i64 (max a.mn.z b.mn.z), .int .i64 (min a.mx.x b.mx.x), .int .i64 (min a.mx.y b.mx.y), .int .i64 (min a.mx.z b.mx.z)]) 2 hm98 rfl Ty.ag_voxel_api_Box rfl (litGet (by kernel_rfl)))) rfl ?_
   exact ⟨congrArg (fun b_ => Ending.returned (.agg (bxs b_).toArray)) (show a.meet b = a.inter b by unfold Bx.inter; rw [if_neg (of_decide_eq_false h94)]), hm98.bel⟩
 rw [h94]
 refine lk (v := .bool true) rfl rfl rfl ?_
 refine plD ?_
 refine then_normal (hK91 _ _ ?_)
 refine wp_seq_k fun K100 hK100 => ?_
 refine wp_seq_k fun K101 hK101 => ?_
 refine plStart ?_
 refine lk (v := .bool true) rfl rfl rfl ?_
 refine plD ?_
 refine then_normal (hK101 _ _ ?_)
 refine wp_cond_true (litEv (by kernel_rfl)) ?_
 refine wp_seq_k fun K102 hK102 => ?_
 refine plStart ?_
 refine lk (v := .agg ([.int .i64 0, .int .i64 0, .int .i64 0, .int .i64 0, .int .i64 0, .int .i64 0]).toArray) rfl rfl rfl ?_
 refine plStore 2 Ty.ag_voxel_api_Box hm93 rfl (i := 1) (cs := [.int .i64 0, .int .i64 0, .int .i64 0, .int .i64 0, .int .i64 0, .int .i64 0]) rfl (wn rfl) rfl (litEv (by kernel_rfl)) (litEv (by kernel_rfl)) rfl rfl (by kernel_rfl) ?_
 intro w104 hm103
 clear hm93
 try simp only [List.cons_append, List.nil_append, List.set_cons_succ, List.set_cons_zero] at hm103
 refine qNone rfl ?_
 refine plD ?_
 refine then_normal (hK102 _ _ ?_)
 refine wp_ret ?_
 refine then_ret ?_
 refine bodyPost_ret (v := .agg ([.int .i64 0, .int .i64 0, .int .i64 0, .int .i64 0, .int .i64 0, .int .i64 0]).toArray) (gRes1 rfl (gResAg (cs := [.int .i64 0, .int .i64 0, .int .i64 0, .int .i64 0, .int .i64 0, .int .i64 0]) 2 hm103 rfl Ty.ag_voxel_api_Box rfl (litGet (by kernel_rfl)))) rfl ?_
 exact ⟨congrArg (fun b_ => Ending.returned (.agg (bxs b_).toArray)) (show (⟨p0, p0⟩ : Bx) = a.inter b by unfold Bx.inter; rw [if_pos (of_decide_eq_true h94)]), hm103.bel⟩
set_option maxRecDepth 100000 in
set_option maxHeartbeats 4000000 in
theorem rless_any (p q : Pt) (h : mEnc p < mEnc q) (w : World) : Calls Try.prog 39 #[.agg (pcs p).toArray, .agg (pcs q).toArray] w (RetV w (.int .i64 (-1))) := by
 have hm0 := Mem.nil w
 go_enter Try.func39, Try.ntmps39
 refine litStart 17 [(0, .agg (pcs p).toArray), (1, .agg (pcs q).toArray)] (by kernel_rfl) (fun X0 => ?_)
 refine wp_seq_k fun K1 hK1 => ?_
 refine plStart ?_
 refine plBox hm0 (cs := pcs p) (i := 0) rfl (wn rfl) rfl (litEv (by kernel_rfl)) ?_
 intro g2 w4 hm3
 clear hm0
 try simp only [List.cons_append, List.nil_append, List.set_cons_succ, List.set_cons_zero] at hm3
 refine qP rfl ?_
 refine plBox hm3 (cs := pcs q) (i := 1) rfl (wn rfl) rfl (litEv (by kernel_rfl)) ?_
 intro g5 w7 hm6
 clear hm3
 try simp only [List.cons_append, List.nil_append, List.set_cons_succ, List.set_cons_zero] at hm6
 refine qP rfl ?_
 refine lk (v := .int .i64 0) rfl rfl rfl ?_
 refine plD ?_
 refine then_normal (hK1 _ _ ?_)
 refine wp_seq_k fun K8 hK8 => ?_
 refine plStart ?_
 refine litVal (v := .agg (pcs p).toArray) rfl (wn rfl) (gLoadAg (vs := pcs p) (k := 0) 0 hm6 rfl (by kernel_rfl) (by kernel_rfl) (.tmp 2) Ty.ag_voxel_api_Point rfl (litEv (by kernel_rfl))) rfl (by decide) ?_
 refine plCall (i := 1) 59 [.agg (pcs p).toArray] [] [] rfl (by kernel_rfl) (wn rfl) rfl (litEv (by kernel_rfl)) (litArgs (by kernel_rfl)) (refEncode_any p _) ?_
 rintro e w9 ⟨rfl, hbz⟩
 have hm10 := hm6.below hbz
 clear hbz hm6
 refine ⟨_, rfl, ?_⟩
 refine qP rfl ?_
 refine lk (v := .int .i64 (mEnc p)) rfl rfl rfl ?_
 refine plD ?_
 refine then_normal (hK8 _ _ ?_)
 refine wp_seq_k fun K11 hK11 => ?_
 refine plStart ?_
 refine litVal (v := .agg (pcs q).toArray) rfl (wn rfl) (gLoadAg (vs := pcs q) (k := 0) 1 hm10 rfl (by kernel_rfl) (by kernel_rfl) (.tmp 3) Ty.ag_voxel_api_Point rfl (litEv (by kernel_rfl))) rfl (by decide) ?_
 refine plCall (i := 1) 59 [.agg (pcs q).toArray] [] [] rfl (by kernel_rfl) (wn rfl) rfl (litEv (by kernel_rfl)) (litArgs (by kernel_rfl)) (refEncode_any q _) ?_
 rintro e w12 ⟨rfl, hbz⟩
 have hm13 := hm10.below hbz
 clear hbz hm10
 refine ⟨_, rfl, ?_⟩
 refine qP rfl ?_
 refine lk (v := .int .i64 (mEnc q)) rfl rfl rfl ?_
 refine plD ?_
 refine then_normal (hK11 _ _ ?_)
 refine wp_seq_k fun K14 hK14 => ?_
 refine wp_seq_k fun K15 hK15 => ?_
 refine plStart ?_
 refine lk (v := .int .i64 (mEnc p)) rfl rfl rfl ?_
 refine lk (v := .int .i64 (mEnc q)) rfl rfl rfl ?_
 refine litVal (v := .bool true) rfl (wn rfl) (boolTo (decide_eq_true h) (lssRun (A := (mEnc p)) (B := (mEnc q)) (.tmp 11) (.tmp 12) rfl (litEv (by kernel_rfl)) (litEv (by kernel_rfl)))) rfl (by decide) ?_
 refine plD ?_
 refine then_normal (hK15 _ _ ?_)
 refine wp_cond_true (litEv (by kernel_rfl)) ?_
 refine wp_seq_k fun K16 hK16 => ?_
 refine plStart ?_
 refine lk (v := .int .i64 (-1)) rfl rfl rfl ?_
 refine plD ?_
 refine then_normal (hK16 _ _ ?_)
 refine wp_ret ?_
 refine then_ret ?_
 refine bodyPost_ret (v := .int .i64 (-1)) (gRes1 rfl (gResTmp (t := 4) (v := .int .i64 (-1)) (litGet (by kernel_rfl)))) rfl ?_
 exact ⟨by rfl, hm13.bel⟩
set_option maxRecDepth 100000 in
set_option maxHeartbeats 4000000 in
theorem valid_any (d : Int) (t : Tl) (hd : 2 ≤ d ∧ d ≤ 14) (h : t.Ok) (hD : InD d t) (w : World) : Calls Try.prog 38 #[.int .i64 d, .agg (tlc t).toArray] w (RetV w (.bool true)) := by
 have hp3_ := (pow83d hd).2.2
 have hl_ := h.lv
 have hs_ := side_bd h.lv
 have hx_ := h.x
 have hy_ := h.y
 have hz_ := h.z
 have hD_ := hD
 unfold InD at hD_
 have hin_ : (cubeB (2 ^ d.toNat)).has t.p := by unfold Bx.has cubeB; simp only; omega
 have hm0 := Mem.nil w
 go_enter Try.func38, Try.ntmps38
 refine litStart 50 [(0, .int .i64 d), (1, .agg (tlc t).toArray)] (by kernel_rfl) (fun X0 => ?_)
 refine wp_seq_k fun K1 hK1 => ?_
 refine plStart ?_
 refine plBox hm0 (cs := tlc t) (i := 0) rfl (wn rfl) rfl (litEv (by kernel_rfl)) ?_
 intro g2 w4 hm3
 clear hm0
 try simp only [List.cons_append, List.nil_append, List.set_cons_succ, List.set_cons_zero] at hm3
 refine qP rfl ?_
 refine lk (v := .bool false) rfl rfl rfl ?_
 refine plD ?_
 refine then_normal (hK1 _ _ ?_)
 refine wp_seq_k fun K5 hK5 => ?_
 refine wp_seq_k fun K6 hK6 => ?_
 refine plStart ?_
 refine lk (v := .pointer (some ⟨g2, 0, none⟩)) rfl rfl rfl ?_
 refine litVal (v := .int .i64 t.lv) rfl (wn rfl) (gLoad (v := .int .i64 t.lv) (k := 0) 0 hm3 rfl (by kernel_rfl) (.tmp 7) (by kernel_rfl) rfl (litEv (by kernel_rfl))) rfl (by decide) ?_
 refine litVal (v := .bool false) rfl (wn rfl) (boolTo (decide_eq_false (show ¬ t.lv < 0 by omega)) (lssRun (A := t.lv) (B := 0) (.tmp 8) (.const (.int .i64 0)) rfl (litEv (by kernel_rfl)) (litEv (by kernel_rfl)))) rfl (by decide) ?_
 refine lk (v := .bool false) rfl rfl rfl ?_
 refine litVal (v := .pointer (some ⟨g2, 0, none⟩)) rfl (wgY rfl rfl rfl (by decide) (by kernel_rfl)) (litRun (by kernel_rfl)) rfl (by decide) ?_
 refine litVal (v := .int .i64 t.lv) rfl (wgY rfl rfl rfl (by decide) (by kernel_rfl)) (gLoad (v := .int .i64 t.lv) (k := 0) 0 hm3 rfl (by kernel_rfl) (.tmp 11) (by kernel_rfl) rfl (litEv (by kernel_rfl))) rfl (by decide) ?_
 refine litVal (v := .int .i64 d) rfl (wgY rfl rfl rfl (by decide) (by kernel_rfl)) (litRun (by kernel_rfl)) rfl (by decide) ?_
 refine litVal (v := .int .i64 (d - 2)) rfl (wgY rfl rfl rfl (by decide) (by kernel_rfl)) (subRun (A := d) (B := 2) (C := d - 2) (.tmp 13) (.const (.int .i64 2)) rfl (litEv (by kernel_rfl)) (litEv (by kernel_rfl)) rfl (by omega)) rfl (by decide) ?_
 refine litVal (v := .bool false) rfl (wgY rfl rfl rfl (by decide) (by kernel_rfl)) (boolTo (decide_eq_false (show ¬ (d - 2) < t.lv by omega)) (gtrRun (A := t.lv) (B := (d - 2)) (.tmp 12) (.tmp 14) rfl (litEv (by kernel_rfl)) (litEv (by kernel_rfl)))) rfl (by decide) ?_
 refine lk (v := .bool false) rfl rfl rfl ?_
 refine plD ?_
 refine then_normal (hK6 _ _ ?_)
 refine wp_cond_false (litEv (by kernel_rfl)) ?_
 refine wp_skip ?_
 refine then_normal (hK5 _ _ ?_)
 refine wp_seq_k fun K7 hK7 => ?_
 refine plStart ?_
 refine litVal (v := .agg (tlc t).toArray) rfl (wn rfl) (gLoadAg (vs := tlc t) (k := 0) 0 hm3 rfl (by kernel_rfl) (by kernel_rfl) (.tmp 3) Ty.ag_voxel_api_Tile rfl (litEv (by kernel_rfl))) rfl (by decide) ?_
 refine plCall (i := 1) 45 [.agg (tlc t).toArray] [] [] rfl (by kernel_rfl) (wn rfl) rfl (litEv (by kernel_rfl)) (litArgs (by kernel_rfl)) (rside_any t h.lv _) ?_
 rintro e w8 ⟨rfl, hbz⟩
 have hm9 := hm3.below hbz
 clear hbz hm3
 refine ⟨_, rfl, ?_⟩
 refine qP rfl ?_
 refine lk (v := .int .i64 (sideL t.lv)) rfl rfl rfl ?_
 refine plD ?_
 refine then_normal (hK7 _ _ ?_)
 refine wpPrune [(0, .int .i64 d), (3, .pointer (some ⟨g2, 0, none⟩)), (4, .bool false), (5, .int .i64 (sideL t.lv))] ⟨litGet (by kernel_rfl), ⟨litGet (by kernel_rfl), ⟨litGet (by kernel_rfl), ⟨litGet (by kernel_rfl), trivial⟩⟩⟩⟩ (fun X10 => ?_)
 refine wp_seq_k fun K11 hK11 => ?_
 refine mgStart hm9 (by kernel_rfl) ?_
 intro w13 hm12
 clear hm9
 refine mk_ (i := 0) (v := .pointer (some ⟨g2, 1, none⟩)) rfl rfl (fun _ _ _ h => h) hm12 rfl ?_
 refine mgTake (i := 1) (v := .agg (pcs t.p).toArray) rfl (by kernel_rfl) (wn rfl) (fun _ _ _ h => h) hm12 (fun w_ h_ => gLoadAg (vs := pcs t.p) (k := 1) 0 h_ rfl (by kernel_rfl) (by kernel_rfl) (.tmp 19) Ty.ag_voxel_api_Point rfl (litEv (by kernel_rfl))) ?_
 refine mP rfl ?_
 refine mk_ (i := 2) (v := .int .i64 d) rfl rfl (fun _ _ _ h => h) hm12 rfl ?_
 refine mgTake (i := 3) (v := .int .i64 (2 ^ d.toNat)) rfl (by kernel_rfl) (wn rfl) (fun _ _ _ h => h) hm12 (fun w_ h_ => gShl (A := 1) (N := d) (C := 2 ^ d.toNat) (.const (.int .i64 1)) (.tmp 21) rfl (litEv (by kernel_rfl)) (litEv (by kernel_rfl)) (Int.one_mul _) (by omega) (by omega) (by omega)) ?_
 refine mP rfl ?_
 refine mgCall (i := 4) 27 [.int .i64 (2 ^ d.toNat)] [] [] (by kernel_rfl) rfl (by kernel_rfl) (wn rfl) rfl (litEv (by kernel_rfl)) (litArgs (by kernel_rfl)) (rcube_any (2 ^ d.toNat) _) ?_
 rintro e w14 ⟨rfl, hbz⟩
 have hm15 := hm12.below hbz
 clear hbz hm12
 refine ⟨_, rfl, hm15, ?_⟩
 refine mP rfl ?_
 refine mgCall (i := 5) 26 [.agg (pcs t.p).toArray, .agg (bxs (cubeB (2 ^ d.toNat))).toArray] [] [] (by kernel_rfl) rfl (by kernel_rfl) (wn rfl) rfl (litEv (by kernel_rfl)) (litArgs (by kernel_rfl)) (callsTo (congrArg Value.bool (decide_eq_true hin_)) (rin_any t.p (cubeB (2 ^ d.toNat)) _)) ?_
 rintro e w16 ⟨rfl, hbz⟩
 have hm17 := hm15.below hbz
 clear hbz hm15
 refine ⟨_, rfl, hm17, ?_⟩
 refine mP rfl ?_
 refine mk_ (i := 6) (v := .bool true) rfl rfl (fun _ _ _ h => h) hm17 rfl ?_
 refine mgDone (by kernel_rfl) ?_
 refine then_normal (hK11 _ _ ?_)
 refine wp_seq_k fun K18 hK18 => ?_
 refine plStart ?_
 refine lk (v := .bool true) rfl rfl rfl ?_
 refine lk (v := .bool true) rfl rfl rfl ?_
 refine litVal (v := .pointer (some ⟨g2, 1, none⟩)) rfl (wgY rfl rfl rfl (by decide) (by kernel_rfl)) (litRun (by kernel_rfl)) rfl (by decide) ?_
 refine litVal (v := .pointer (some ⟨g2, 1, none⟩)) rfl (wgY rfl rfl rfl (by decide) (by kernel_rfl)) (litRun (by kernel_rfl)) rfl (by decide) ?_
 refine litVal (v := .int .i64 t.p.x) rfl (wgY rfl rfl rfl (by decide) (by kernel_rfl)) (gLoad (v := .int .i64 t.p.x) (k := 1) 0 hm17 rfl (by kernel_rfl) (.tmp 28) (by kernel_rfl) rfl (litEv (by kernel_rfl))) rfl (by decide) ?_
 refine litVal (v := .int .i64 (sideL t.lv)) rfl (wgY rfl rfl rfl (by decide) (by kernel_rfl)) (litRun (by kernel_rfl)) rfl (by decide) ?_
 refine litVal (v := .int .i64 (Int.tmod t.p.x (sideL t.lv))) rfl (wgY rfl rfl rfl (by decide) (by kernel_rfl)) (gRem (A := t.p.x) (B := (sideL t.lv)) (C := Int.tmod t.p.x (sideL t.lv)) (.tmp 29) (.tmp 30) rfl (litEv (by kernel_rfl)) (litEv (by kernel_rfl)) (by omega) rfl) rfl (by decide) ?_
 refine litVal (v := .bool true) rfl (wgY rfl rfl rfl (by decide) (by kernel_rfl)) (boolTo (decide_eq_true (show (Int.tmod t.p.x (sideL t.lv)) = 0 by rw [Int.tmod_eq_emod_of_nonneg h.x.1]; exact h.x.2.2)) (eqlRun (A := (Int.tmod t.p.x (sideL t.lv))) (B := 0) (.tmp 31) (.const (.int .i64 0)) rfl (litEv (by kernel_rfl)) (litEv (by kernel_rfl)))) rfl (by decide) ?_
 refine lk (v := .bool true) rfl rfl rfl ?_
 refine lk (v := .bool true) rfl rfl rfl ?_
 refine litVal (v := .pointer (some ⟨g2, 1, none⟩)) rfl (wgY rfl rfl rfl (by decide) (by kernel_rfl)) (litRun (by kernel_rfl)) rfl (by decide) ?_
 refine litVal (v := .pointer (some ⟨g2, 2, none⟩)) rfl (wgY rfl rfl rfl (by decide) (by kernel_rfl)) (litRun (by kernel_rfl)) rfl (by decide) ?_
 refine litVal (v := .int .i64 t.p.y) rfl (wgY rfl rfl rfl (by decide) (by kernel_rfl)) (gLoad (v := .int .i64 t.p.y) (k := 2) 0 hm17 rfl (by kernel_rfl) (.tmp 36) (by kernel_rfl) rfl (litEv (by kernel_rfl))) rfl (by decide) ?_
 refine litVal (v := .int .i64 (sideL t.lv)) rfl (wgY rfl rfl rfl (by decide) (by kernel_rfl)) (litRun (by kernel_rfl)) rfl (by decide) ?_
 refine litVal (v := .int .i64 (Int.tmod t.p.y (sideL t.lv))) rfl (wgY rfl rfl rfl (by decide) (by kernel_rfl)) (gRem (A := t.p.y) (B := (sideL t.lv)) (C := Int.tmod t.p.y (sideL t.lv)) (.tmp 37) (.tmp 38) rfl (litEv (by kernel_rfl)) (litEv (by kernel_rfl)) (by omega) rfl) rfl (by decide) ?_
 refine litVal (v := .bool true) rfl (wgY rfl rfl rfl (by decide) (by kernel_rfl)) (boolTo (decide_eq_true (show (Int.tmod t.p.y (sideL t.lv)) = 0 by rw [Int.tmod_eq_emod_of_nonneg h.y.1]; exact h.y.2.2)) (eqlRun (A := (Int.tmod t.p.y (sideL t.lv))) (B := 0) (.tmp 39) (.const (.int .i64 0)) rfl (litEv (by kernel_rfl)) (litEv (by kernel_rfl)))) rfl (by decide) ?_
 refine lk (v := .bool true) rfl rfl rfl ?_
 refine lk (v := .bool true) rfl rfl rfl ?_
 refine litVal (v := .pointer (some ⟨g2, 1, none⟩)) rfl (wgY rfl rfl rfl (by decide) (by kernel_rfl)) (litRun (by kernel_rfl)) rfl (by decide) ?_
 refine litVal (v := .pointer (some ⟨g2, 3, none⟩)) rfl (wgY rfl rfl rfl (by decide) (by kernel_rfl)) (litRun (by kernel_rfl)) rfl (by decide) ?_
 refine litVal (v := .int .i64 t.p.z) rfl (wgY rfl rfl rfl (by decide) (by kernel_rfl)) (gLoad (v := .int .i64 t.p.z) (k := 3) 0 hm17 rfl (by kernel_rfl) (.tmp 44) (by kernel_rfl) rfl (litEv (by kernel_rfl))) rfl (by decide) ?_
 refine litVal (v := .int .i64 (sideL t.lv)) rfl (wgY rfl rfl rfl (by decide) (by kernel_rfl)) (litRun (by kernel_rfl)) rfl (by decide) ?_
 refine litVal (v := .int .i64 (Int.tmod t.p.z (sideL t.lv))) rfl (wgY rfl rfl rfl (by decide) (by kernel_rfl)) (gRem (A := t.p.z) (B := (sideL t.lv)) (C := Int.tmod t.p.z (sideL t.lv)) (.tmp 45) (.tmp 46) rfl (litEv (by kernel_rfl)) (litEv (by kernel_rfl)) (by omega) rfl) rfl (by decide) ?_
 refine litVal (v := .bool true) rfl (wgY rfl rfl rfl (by decide) (by kernel_rfl)) (boolTo (decide_eq_true (show (Int.tmod t.p.z (sideL t.lv)) = 0 by rw [Int.tmod_eq_emod_of_nonneg h.z.1]; exact h.z.2.2)) (eqlRun (A := (Int.tmod t.p.z (sideL t.lv))) (B := 0) (.tmp 47) (.const (.int .i64 0)) rfl (litEv (by kernel_rfl)) (litEv (by kernel_rfl)))) rfl (by decide) ?_
 refine lk (v := .bool true) rfl rfl rfl ?_
 refine lk (v := .bool true) rfl rfl rfl ?_
 refine plD ?_
 refine then_normal (hK18 _ _ ?_)
 refine wpPrune [(4, .bool true)] ⟨litGet (by kernel_rfl), trivial⟩ (fun X19 => ?_)
 refine wp_ret ?_
 refine bodyPost_ret (v := .bool true) (gRes1 rfl (gResTmp (t := 4) (v := .bool true) (litGet (by kernel_rfl)))) rfl ?_
 exact ⟨by rfl, hm17.bel⟩
set_option maxRecDepth 100000 in
set_option maxHeartbeats 4000000 in
theorem rcheckP_blk (d : Int) (l : List Tl) (hd : 2 ≤ d ∧ d ≤ 14) (hV : PlanV d l) (hl : l.length ≤ 4096) (b off c : Nat) (w : World) (hr : Rd w w.heap.size 4 (some ⟨b, off, none⟩) l.length c (tlsC l)) : Calls Try.prog 20 #[.int .i64 d, .slice (some ⟨b, off, none⟩) l.length c] w (RetV w (.int .i64 0)) := by
 have hm0 := Mem.nil w
 go_enter Try.func20, Try.ntmps20
 refine litStart 82 [(0, .int .i64 d), (1, .slice (some ⟨b, off, none⟩) l.length c)] (by kernel_rfl) (fun X0 => ?_)
 refine wp_seq_k fun K1 hK1 => ?_
 refine plStart ?_
 refine lk (v := .int .i64 0) rfl rfl rfl ?_
 refine plD ?_
 refine then_normal (hK1 _ _ ?_)
 refine wp_seq_k fun K2 hK2 => ?_
 refine wp_seq_k fun K3 hK3 => ?_
 refine plStart ?_
 refine lk (v := .int .i64 d) rfl rfl rfl ?_
 refine litVal (v := .bool false) rfl (wn rfl) (boolTo (decide_eq_false (show ¬ d < 2 by omega)) (lssRun (A := d) (B := 2) (.tmp 10) (.const (.int .i64 2)) rfl (litEv (by kernel_rfl)) (litEv (by kernel_rfl)))) rfl (by decide) ?_
 refine lk (v := .bool false) rfl rfl rfl ?_
 refine litVal (v := .int .i64 d) rfl (wgY rfl rfl rfl (by decide) (by kernel_rfl)) (litRun (by kernel_rfl)) rfl (by decide) ?_
 refine litVal (v := .bool false) rfl (wgY rfl rfl rfl (by decide) (by kernel_rfl)) (boolTo (decide_eq_false (show ¬ 14 < d by omega)) (gtrRun (A := d) (B := 14) (.tmp 13) (.const (.int .i64 14)) rfl (litEv (by kernel_rfl)) (litEv (by kernel_rfl)))) rfl (by decide) ?_
 refine lk (v := .bool false) rfl rfl rfl ?_
 refine plD ?_
 refine then_normal (hK3 _ _ ?_)
 refine wp_cond_false (litEv (by kernel_rfl)) ?_
 refine wp_skip ?_
 refine then_normal (hK2 _ _ ?_)
 refine wp_seq_k fun K4 hK4 => ?_
 refine wp_seq_k fun K5 hK5 => ?_
 refine plStart ?_
 refine lk (v := .slice (some ⟨b, off, none⟩) l.length c) rfl rfl rfl ?_
 refine litVal (v := .int .i64 (l.length : Int)) rfl (wn rfl) (lenSlRun (A := some ⟨b, off, none⟩) (n := l.length) (c := c) (.tmp 16) Ty.und_L_api_Tile rfl (litEv (by kernel_rfl))) rfl (by decide) ?_
 refine litVal (v := .bool false) rfl (wn rfl) (boolTo (decide_eq_false (show ¬ 4096 < (l.length : Int) by omega)) (gtrRun (A := (l.length : Int)) (B := 4096) (.tmp 17) (.const (.int .i64 4096)) rfl (litEv (by kernel_rfl)) (litEv (by kernel_rfl)))) rfl (by decide) ?_
 refine plD ?_
 refine then_normal (hK5 _ _ ?_)
 refine wp_cond_false (litEv (by kernel_rfl)) ?_
 refine wp_skip ?_
 refine then_normal (hK4 _ _ ?_)
 refine wp_seq_k fun K6 hK6 => ?_
 refine plStart ?_
 refine lk (v := .int .i64 0) rfl rfl rfl ?_
 refine plD ?_
 refine then_normal (hK6 _ _ ?_)
 refine wp_seq_k fun K7 hK7 => ?_
 refine wp_seq_k fun K8 hK8 => ?_
 refine plStart ?_
 refine lk (v := .int .i64 0) rfl rfl rfl ?_
 refine plD ?_
 refine then_normal (hK8 _ _ ?_)
 refine wp_block ?_
 refine gwLoop (fun n_ a_ w_ => ∃ (k : Nat), n_ = l.length - k ∧ (k ≤ l.length) ∧ Fr a_ 82 [(0, .int .i64 d), (1, .slice (some ⟨b, off, none⟩) l.length c), (5, .int .i64 (volP (l.take k))), (6, .int .i64 (k : Int))] ∧ Mem w w_ []) (l.length - 0) ⟨0, rfl, (Nat.zero_le _), ⟨litSize, rfl, ⟨litGet (by kernel_rfl), ⟨litGet (by kernel_rfl), ⟨litGet (by kernel_rfl), ⟨litGet (by kernel_rfl), trivial⟩⟩⟩⟩⟩, (hm0.sub .slnil)⟩ ?_
 clear hm0
 intro n_ a11 w9 hI_
 obtain ⟨k, rfl, hkl, hF_, hm10⟩ := hI_
 obtain ⟨X12, rfl⟩ := frLit hF_
 clear hF_
 refine wp_seq_k fun K13 hK13 => ?_
 refine wp_seq_k fun K14 hK14 => ?_
 refine plStart ?_
 refine lk (v := .int .i64 (k : Int)) rfl rfl rfl ?_
 refine lk (v := .slice (some ⟨b, off, none⟩) l.length c) rfl rfl rfl ?_
 refine litVal (v := .int .i64 (l.length : Int)) rfl (wn rfl) (lenSlRun (A := some ⟨b, off, none⟩) (n := l.length) (c := c) (.tmp 20) Ty.und_L_api_Tile rfl (litEv (by kernel_rfl))) rfl (by decide) ?_
 by_cases h15 : (k : Int) < (l.length : Int)
 · obtain ⟨t, hkt⟩ : ∃ t, l[k]? = some t := ⟨_, List.getElem?_eq_getElem (by omega)⟩
   have htok : t.Ok := hV.ok t (List.mem_of_getElem? hkt)
   have hvb_ := hV.volB hkt
   have hvt_ := volT_bd htok
   refine litVal (v := .bool true) rfl (wn rfl) (boolTo (decide_eq_true h15) (lssRun (A := (k : Int)) (B := (l.length : Int)) (.tmp 19) (.tmp 21) rfl (litEv (by kernel_rfl)) (litEv (by kernel_rfl)))) rfl (by decide) ?_
   refine plD ?_
   refine then_normal (hK14 _ _ ?_)
   refine wp_cond_true (litEv (by kernel_rfl)) ?_
   refine wp_skip ?_
   refine then_normal (hK13 _ _ ?_)
   refine wp_seq_k fun K16 hK16 => ?_
   refine wp_block ?_
   refine wp_seq_k fun K17 hK17 => ?_
   refine plStart ?_
   refine lk (v := .int .i64 d) rfl rfl rfl ?_
   refine lk (v := .slice (some ⟨b, off, none⟩) l.length c) rfl rfl rfl ?_
   refine lk (v := .int .i64 (k : Int)) rfl rfl rfl ?_
   refine litVal (v := .pointer (some ⟨b, off + k * 4, none⟩)) rfl (wn rfl) (gIaSl (b := b) (off := off) (n := l.length) (c := c) (kk := .i64) (K := (k : Int)) (.tmp 26) (.tmp 27) k Ty.sl_L_api_Tile rfl (litEv (by kernel_rfl)) (litEv (by kernel_rfl)) (rfl) (by omega)) rfl (by decide) ?_
   refine litVal (v := .agg (tlc t).toArray) rfl (wn rfl) (gLoadAgRd (vs := tlc t) (m := k * 4) ((Rd.below hr hm10.bel).more hm10.bel.size) rfl (fun i_ u_ hu_ => tlsC_get hkt i_ u_ hu_) (by kernel_rfl) (by omega) (.tmp 28) Ty.ag_voxel_api_Tile rfl (litEv (by kernel_rfl))) rfl (by decide) ?_
   refine plCall (i := 5) 38 [.int .i64 d, .agg (tlc t).toArray] [] [] rfl (by kernel_rfl) (wn rfl) rfl (litEv (by kernel_rfl)) (litArgs (by kernel_rfl)) (valid_any d t hd htok (hV.inD t (List.mem_of_getElem? hkt)) _) ?_
   rintro e w18 ⟨rfl, hbz⟩
   have hm19 := hm10.below hbz
   clear hbz hm10
   refine ⟨_, rfl, ?_⟩
   refine qP rfl ?_
   refine lk (v := .bool true) rfl rfl rfl ?_
   refine plD ?_
   refine then_normal (hK17 _ _ ?_)
   refine wp_seq_k fun K20 hK20 => ?_
   refine wp_seq_k fun K21 hK21 => ?_
   refine plStart ?_
   refine lk (v := .bool true) rfl rfl rfl ?_
   refine lk (v := .bool false) rfl rfl rfl ?_
   refine plD ?_
   refine then_normal (hK21 _ _ ?_)
   refine wp_cond_false (litEv (by kernel_rfl)) ?_
   refine wp_skip ?_
   refine then_normal (hK20 _ _ ?_)
   refine wp_seq_k fun K22 hK22 => ?_
   refine wp_seq_k fun K23 hK23 => ?_
   refine mgStart hm19 (by kernel_rfl) ?_
   intro w25 hm24
   clear hm19
   refine mk_ (i := 0) (v := .int .i64 (k : Int)) rfl rfl (fun _ _ _ h => h) hm24 rfl ?_
   by_cases h26 : 0 < (k : Int)
   · obtain ⟨u, hku⟩ : ∃ u, l[k - 1]? = some u := ⟨_, List.getElem?_eq_getElem (by omega)⟩
     have hlt_ : mEnc u.p < mEnc t.p := by
       have h1_ := hV.at hku
       have h2_ := hV.at hkt
       have h3_ := volP_take hku
       have h4_ := volT_bd (hV.ok u (List.mem_of_getElem? hku))
       rw [show k - 1 + 1 = k by omega] at h3_
       omega
     refine mgTake (i := 1) (v := .bool true) rfl (by kernel_rfl) (wn rfl) (fun _ _ _ h => h) hm24 (fun w_ h_ => boolTo (decide_eq_true h26) (gtrRun (A := (k : Int)) (B := 0) (.tmp 33) (.const (.int .i64 0)) rfl (litEv (by kernel_rfl)) (litEv (by kernel_rfl)))) ?_
     refine mP rfl ?_
     refine mk_ (i := 2) (v := .bool true) rfl rfl (fun _ _ _ h => h) hm24 rfl ?_
     refine mgTake (i := 3) (v := .slice (some ⟨b, off, none⟩) l.length c) rfl (by kernel_rfl) (wgY rfl rfl rfl (by decide) (by kernel_rfl)) (fun _ _ _ h => h) hm24 (fun w_ h_ => litRun (by kernel_rfl)) ?_
     refine mP rfl ?_
     refine mgTake (i := 4) (v := .int .i64 (k : Int)) rfl (by kernel_rfl) (wgY rfl rfl rfl (by decide) (by kernel_rfl)) (fun _ _ _ h => h) hm24 (fun w_ h_ => litRun (by kernel_rfl)) ?_
     refine mP rfl ?_
     refine mgTake (i := 5) (v := .int .i64 ((k : Int) - 1)) rfl (by kernel_rfl) (wgY rfl rfl rfl (by decide) (by kernel_rfl)) (fun _ _ _ h => h) hm24 (fun w_ h_ => subRun (A := (k : Int)) (B := 1) (C := (k : Int) - 1) (.tmp 37) (.const (.int .i64 1)) rfl (litEv (by kernel_rfl)) (litEv (by kernel_rfl)) rfl (by omega)) ?_
     refine mP rfl ?_
     refine mgTake (i := 6) (v := .pointer (some ⟨b, off + (k - 1) * 4, none⟩)) rfl (by kernel_rfl) (wgY rfl rfl rfl (by decide) (by kernel_rfl)) (fun _ _ _ h => h) hm24 (fun w_ h_ => gIaSl (b := b) (off := off) (n := l.length) (c := c) (kk := .i64) (K := ((k : Int) - 1)) (.tmp 36) (.tmp 38) (k - 1) Ty.sl_L_api_Tile rfl (litEv (by kernel_rfl)) (litEv (by kernel_rfl)) (by omega) (by omega)) ?_
     refine mP rfl ?_
     refine mgTake (i := 7) (v := .pointer (some ⟨b, off + (k - 1) * 4 + 1, none⟩)) rfl (by kernel_rfl) (wgY rfl rfl rfl (by decide) (by kernel_rfl)) (fun _ _ _ h => h) hm24 (fun w_ h_ => litRun (by kernel_rfl)) ?_
     refine mP rfl ?_
     refine mgTake (i := 8) (v := .agg (pcs u.p).toArray) rfl (by kernel_rfl) (wgY rfl rfl rfl (by decide) (by kernel_rfl)) (fun _ _ _ h => h) hm24 (fun w_ h_ => gLoadAgRd (vs := pcs u.p) (m := (k - 1) * 4 + 1) ((Rd.below hr h_.bel).more h_.bel.size) rfl (fun i_ u_ hu_ => by have := tlsC_get hku (1 + i_) u_ (by rw [Nat.add_comm]; exact hu_); rw [← Nat.add_assoc] at this; exact this) (by kernel_rfl) (by omega) (.tmp 40) Ty.ag_voxel_api_Point rfl (litEv (by kernel_rfl))) ?_
     refine mP rfl ?_
     refine mgTake (i := 9) (v := .slice (some ⟨b, off, none⟩) l.length c) rfl (by kernel_rfl) (wgY rfl rfl rfl (by decide) (by kernel_rfl)) (fun _ _ _ h => h) hm24 (fun w_ h_ => litRun (by kernel_rfl)) ?_
     refine mP rfl ?_
     refine mgTake (i := 10) (v := .int .i64 (k : Int)) rfl (by kernel_rfl) (wgY rfl rfl rfl (by decide) (by kernel_rfl)) (fun _ _ _ h => h) hm24 (fun w_ h_ => litRun (by kernel_rfl)) ?_
     refine mP rfl ?_
     refine mgTake (i := 11) (v := .pointer (some ⟨b, off + k * 4, none⟩)) rfl (by kernel_rfl) (wgY rfl rfl rfl (by decide) (by kernel_rfl)) (fun _ _ _ h => h) hm24 (fun w_ h_ => gIaSl (b := b) (off := off) (n := l.length) (c := c) (kk := .i64) (K := (k : Int)) (.tmp 42) (.tmp 43) k Ty.sl_L_api_Tile rfl (litEv (by kernel_rfl)) (litEv (by kernel_rfl)) (rfl) (by omega)) ?_
     refine mP rfl ?_
     refine mgTake (i := 12) (v := .pointer (some ⟨b, off + k * 4 + 1, none⟩)) rfl (by kernel_rfl) (wgY rfl rfl rfl (by decide) (by kernel_rfl)) (fun _ _ _ h => h) hm24 (fun w_ h_ => litRun (by kernel_rfl)) ?_
     refine mP rfl ?_
     refine mgTake (i := 13) (v := .agg (pcs t.p).toArray) rfl (by kernel_rfl) (wgY rfl rfl rfl (by decide) (by kernel_rfl)) (fun _ _ _ h => h) hm24 (fun w_ h_ => gLoadAgRd (vs := pcs t.p) (m := k * 4 + 1) ((Rd.below hr h_.bel).more h_.bel.size) rfl (fun i_ u_ hu_ => by have := tlsC_get hkt (1 + i_) u_ (by rw [Nat.add_comm]; exact hu_); rw [← Nat.add_assoc] at this; exact this) (by kernel_rfl) (by omega) (.tmp 45) Ty.ag_voxel_api_Point rfl (litEv (by kernel_rfl))) ?_
     refine mP rfl ?_
     refine mgCall (i := 14) 39 [.agg (pcs u.p).toArray, .agg (pcs t.p).toArray] [] [] (by kernel_rfl) rfl (by kernel_rfl) (wgY rfl rfl rfl (by decide) (by kernel_rfl)) rfl (litEv (by kernel_rfl)) (litArgs (by kernel_rfl)) (rless_any u.p t.p hlt_ _) ?_
     rintro e w27 ⟨rfl, hbz⟩
     have hm28 := hm24.below hbz
     clear hbz hm24
     refine ⟨_, rfl, hm28, ?_⟩
     refine mP rfl ?_
     refine mgTake (i := 15) (v := .bool false) rfl (by kernel_rfl) (wgY rfl rfl rfl (by decide) (by kernel_rfl)) (fun _ _ _ h => h) hm28 (fun w_ h_ => litRun (by kernel_rfl)) ?_
     refine mP rfl ?_
     refine mk_ (i := 16) (v := .bool false) rfl rfl (fun _ _ _ h => h) hm28 rfl ?_
     refine mgDone (by kernel_rfl) ?_
     refine then_normal (hK23 _ _ ?_)
     refine wp_cond_false (litEv (by kernel_rfl)) ?_
     refine wp_skip ?_
     refine then_normal (hK22 _ _ ?_)
     refine wp_seq_k fun K29 hK29 => ?_
     refine wp_seq_k fun K30 hK30 => ?_
     refine plStart ?_
     refine lk (v := .int .i64 0) rfl rfl rfl ?_
     refine plD ?_
     refine then_normal (hK30 _ _ ?_)
     refine wp_block ?_
     refine gwLoop (fun n_ a_ w_ => ∃ (i : Nat), n_ = k - i ∧ (i ≤ k) ∧ Fr a_ 82 [(0, .int .i64 d), (1, .slice (some ⟨b, off, none⟩) l.length c), (5, .int .i64 (volP (l.take k))), (6, .int .i64 (k : Int)), (7, .bool true), (8, .int .i64 (i : Int)), (19, .int .i64 (k : Int)), (20, .slice (some ⟨b, off, none⟩) l.length c), (21, .int .i64 (l.length : Int)), (22, .bool true), (25, .int .i64 d), (26, .slice (some ⟨b, off, none⟩) l.length c), (27, .int .i64 (k : Int)), (28, .pointer (some ⟨b, off + k * 4, none⟩)), (29, .agg (tlc t).toArray), (30, .bool true), (31, .bool true), (32, .bool false), (33, .int .i64 (k : Int)), (34, .bool true), (35, .bool true), (36, .slice (some ⟨b, off, none⟩) l.length c), (37, .int .i64 (k : Int)), (38, .int .i64 ((k : Int) - 1)), (39, .pointer (some ⟨b, off + (k - 1) * 4, none⟩)), (40, .pointer (some ⟨b, off + (k - 1) * 4 + 1, none⟩)), (41, .agg (pcs u.p).toArray), (42, .slice (some ⟨b, off, none⟩) l.length c), (43, .int .i64 (k : Int)), (44, .pointer (some ⟨b, off + k * 4, none⟩)), (45, .pointer (some ⟨b, off + k * 4 + 1, none⟩)), (46, .agg (pcs t.p).toArray), (47, .int .i64 (-1)), (48, .bool false), (49, .bool false)] ∧ Mem w w_ []) (k - 0) ⟨0, rfl, (Nat.zero_le _), ⟨litSize, rfl, ⟨litGet (by kernel_rfl), ⟨litGet (by kernel_rfl), ⟨litGet (by kernel_rfl), ⟨litGet (by kernel_rfl), ⟨litGet (by kernel_rfl), ⟨litGet (by kernel_rfl), ⟨litGet (by kernel_rfl), ⟨litGet (by kernel_rfl), ⟨litGet (by kernel_rfl), ⟨litGet (by kernel_rfl), ⟨litGet (by kernel_rfl), ⟨litGet (by kernel_rfl), ⟨litGet (by kernel_rfl), ⟨litGet (by kernel_rfl), ⟨litGet (by kernel_rfl), ⟨litGet (by kernel_rfl), ⟨litGet (by kernel_rfl), ⟨litGet (by kernel_rfl), ⟨litGet (by kernel_rfl), ⟨litGet (by kernel_rfl), ⟨litGet (by kernel_rfl), ⟨litGet (by kernel_rfl), ⟨litGet (by kernel_rfl), ⟨litGet (by kernel_rfl), ⟨litGet (by kernel_rfl), ⟨litGet (by kernel_rfl), ⟨litGet (by kernel_rfl), ⟨litGet (by kernel_rfl), ⟨litGet (by kernel_rfl), ⟨litGet (by kernel_rfl), ⟨litGet (by kernel_rfl), ⟨litGet (by kernel_rfl), ⟨litGet (by kernel_rfl), ⟨litGet (by kernel_rfl), ⟨litGet (by kernel_rfl), trivial⟩⟩⟩⟩⟩⟩⟩⟩⟩⟩⟩⟩⟩⟩⟩⟩⟩⟩⟩⟩⟩⟩⟩⟩⟩⟩⟩⟩⟩⟩⟩⟩⟩⟩⟩⟩, (hm28.sub .slnil)⟩ ?_
     clear hm28
     intro n_ a33 w31 hI_
     obtain ⟨i, rfl, hil, hF_, hm32⟩ := hI_
     obtain ⟨X34, rfl⟩ := frLit hF_
     clear hF_
     refine wp_seq_k fun K35 hK35 => ?_
     refine wp_seq_k fun K36 hK36 => ?_
     refine plStart ?_
     refine lk (v := .int .i64 (i : Int)) rfl rfl rfl ?_
     refine lk (v := .int .i64 (k : Int)) rfl rfl rfl ?_
     by_cases h37 : (i : Int) < (k : Int)
     · obtain ⟨s_, hks⟩ : ∃ s_, l[i]? = some s_ := ⟨_, List.getElem?_eq_getElem (by omega)⟩
       have hsok : s_.Ok := hV.ok s_ (List.mem_of_getElem? hks)
       have hap_ := hV.apartAt hks hkt (by omega)
       refine litVal (v := .bool true) rfl (wn rfl) (boolTo (decide_eq_true h37) (lssRun (A := (i : Int)) (B := (k : Int)) (.tmp 50) (.tmp 51) rfl (litEv (by kernel_rfl)) (litEv (by kernel_rfl)))) rfl (by decide) ?_
       refine plD ?_
       refine then_normal (hK36 _ _ ?_)
       refine wp_cond_true (litEv (by kernel_rfl)) ?_
       refine wp_skip ?_
       refine then_normal (hK35 _ _ ?_)
       refine wp_seq_k fun K38 hK38 => ?_
       refine wp_block ?_
       refine wp_seq_k fun K39 hK39 => ?_
       refine mgStart hm32 (by kernel_rfl) ?_
       intro w41 hm40
       clear hm32
       refine mk_ (i := 0) (v := .slice (some ⟨b, off, none⟩) l.length c) rfl rfl (fun _ _ _ h => h) hm40 rfl ?_
       refine mk_ (i := 1) (v := .int .i64 (i : Int)) rfl rfl (fun _ _ _ h => h) hm40 rfl ?_
       refine mgTake (i := 2) (v := .pointer (some ⟨b, off + i * 4, none⟩)) rfl (by kernel_rfl) (wn rfl) (fun _ _ _ h => h) hm40 (fun w_ h_ => gIaSl (b := b) (off := off) (n := l.length) (c := c) (kk := .i64) (K := (i : Int)) (.tmp 55) (.tmp 56) i Ty.sl_L_api_Tile rfl (litEv (by kernel_rfl)) (litEv (by kernel_rfl)) (rfl) (by omega)) ?_
       refine mP rfl ?_
       refine mgTake (i := 3) (v := .agg (tlc s_).toArray) rfl (by kernel_rfl) (wn rfl) (fun _ _ _ h => h) hm40 (fun w_ h_ => gLoadAgRd (vs := tlc s_) (m := i * 4) ((Rd.below hr h_.bel).more h_.bel.size) rfl (fun i_ u_ hu_ => tlsC_get hks i_ u_ hu_) (by kernel_rfl) (by omega) (.tmp 57) Ty.ag_voxel_api_Tile rfl (litEv (by kernel_rfl))) ?_
       refine mP rfl ?_
       refine mk_ (i := 5) (v := .slice (some ⟨b, off, none⟩) l.length c) rfl rfl (fun _ _ _ h => h) hm40 rfl ?_
       refine mk_ (i := 6) (v := .int .i64 (k : Int)) rfl rfl (fun _ _ _ h => h) hm40 rfl ?_
       refine mgTake (i := 7) (v := .pointer (some ⟨b, off + k * 4, none⟩)) rfl (by kernel_rfl) (wn rfl) (fun _ _ _ h => h) hm40 (fun w_ h_ => gIaSl (b := b) (off := off) (n := l.length) (c := c) (kk := .i64) (K := (k : Int)) (.tmp 60) (.tmp 61) k Ty.sl_L_api_Tile rfl (litEv (by kernel_rfl)) (litEv (by kernel_rfl)) (rfl) (by omega)) ?_
       refine mP rfl ?_
       refine mgTake (i := 8) (v := .agg (tlc t).toArray) rfl (by kernel_rfl) (wn rfl) (fun _ _ _ h => h) hm40 (fun w_ h_ => gLoadAgRd (vs := tlc t) (m := k * 4) ((Rd.below hr h_.bel).more h_.bel.size) rfl (fun i_ u_ hu_ => tlsC_get hkt i_ u_ hu_) (by kernel_rfl) (by omega) (.tmp 62) Ty.ag_voxel_api_Tile rfl (litEv (by kernel_rfl))) ?_
       refine mP rfl ?_
       refine mgCall (i := 4) 37 [.agg (tlc s_).toArray] [] [] (by kernel_rfl) rfl (by kernel_rfl) (wn rfl) rfl (litEv (by kernel_rfl)) (litArgs (by kernel_rfl)) (rbox_any s_ hsok _) ?_
       rintro e w42 ⟨rfl, hbz⟩
       have hm43 := hm40.below hbz
       clear hbz hm40
       refine ⟨_, rfl, hm43, ?_⟩
       refine mP rfl ?_
       refine mgCall (i := 9) 37 [.agg (tlc t).toArray] [] [] (by kernel_rfl) rfl (by kernel_rfl) (wn rfl) rfl (litEv (by kernel_rfl)) (litArgs (by kernel_rfl)) (rbox_any t htok _) ?_
       rintro e w44 ⟨rfl, hbz⟩
       have hm45 := hm43.below hbz
       clear hbz hm43
       refine ⟨_, rfl, hm45, ?_⟩
       refine mP rfl ?_
       refine mgCall (i := 10) 41 [.agg (bxs s_.box).toArray, .agg (bxs t.box).toArray] [] [] (by kernel_rfl) rfl (by kernel_rfl) (wn rfl) rfl (litEv (by kernel_rfl)) (litArgs (by kernel_rfl)) (inter_any s_.box t.box _) ?_
       rintro e w46 ⟨rfl, hbz⟩
       have hm47 := hm45.below hbz
       clear hbz hm45
       refine ⟨_, rfl, hm47, ?_⟩
       refine mP rfl ?_
       refine mgCall (i := 11) 40 [.agg (bxs (s_.box.inter t.box)).toArray] [] [] (by kernel_rfl) rfl (by kernel_rfl) (wn rfl) rfl (litEv (by kernel_rfl)) (litArgs (by kernel_rfl)) (callsTo (congrArg (Value.int .i64) (apart_vol hap_)) (rvol_any (s_.box.inter t.box) (hsok.small.inter htok.small) _)) ?_
       rintro e w48 ⟨rfl, hbz⟩
       have hm49 := hm47.below hbz
       clear hbz hm47
       refine ⟨_, rfl, hm49, ?_⟩
       refine mP rfl ?_
       refine mk_ (i := 12) (v := .int .i64 0) rfl rfl (fun _ _ _ h => h) hm49 rfl ?_
       refine mgDone (by kernel_rfl) ?_
       refine then_normal (hK39 _ _ ?_)
       refine wp_seq_k fun K50 hK50 => ?_
       refine plStart ?_
       refine lk (v := .int .i64 0) rfl rfl rfl ?_
       refine lk (v := .bool false) rfl rfl rfl ?_
       refine plD ?_
       refine then_normal (hK50 _ _ ?_)
       refine wp_cond_false (litEv (by kernel_rfl)) ?_
       refine wp_skip ?_
       refine inBlock_normal ?_
       refine then_normal (hK38 _ _ ?_)
       refine plStart ?_
       refine lk (v := .int .i64 (i : Int)) rfl rfl rfl ?_
       refine litVal (v := .int .i64 ((i : Int) + 1)) rfl (wn rfl) (addRun (A := (i : Int)) (B := 1) (C := (i : Int) + 1) (.tmp 53) (.const (.int .i64 1)) rfl (litEv (by kernel_rfl)) (litEv (by kernel_rfl)) rfl (by omega)) rfl (by decide) ?_
       refine lk (v := .int .i64 ((i : Int) + 1)) rfl rfl rfl ?_
       refine plD ?_
       refine then_normal ?_
       exact ⟨_, by omega, (i + 1), rfl, (by omega), ⟨litSize, rfl, ⟨litGet (by kernel_rfl), ⟨litGet (by kernel_rfl), ⟨litGet (by kernel_rfl), ⟨litGet (by kernel_rfl), ⟨litGet (by kernel_rfl), ⟨litGet (by kernel_rfl), ⟨litGet (by kernel_rfl), ⟨litGet (by kernel_rfl), ⟨litGet (by kernel_rfl), ⟨litGet (by kernel_rfl), ⟨litGet (by kernel_rfl), ⟨litGet (by kernel_rfl), ⟨litGet (by kernel_rfl), ⟨litGet (by kernel_rfl), ⟨litGet (by kernel_rfl), ⟨litGet (by kernel_rfl), ⟨litGet (by kernel_rfl), ⟨litGet (by kernel_rfl), ⟨litGet (by kernel_rfl), ⟨litGet (by kernel_rfl), ⟨litGet (by kernel_rfl), ⟨litGet (by kernel_rfl), ⟨litGet (by kernel_rfl), ⟨litGet (by kernel_rfl), ⟨litGet (by kernel_rfl), ⟨litGet (by kernel_rfl), ⟨litGet (by kernel_rfl), ⟨litGet (by kernel_rfl), ⟨litGet (by kernel_rfl), ⟨litGet (by kernel_rfl), ⟨litGet (by kernel_rfl), ⟨litGet (by kernel_rfl), ⟨litGet (by kernel_rfl), ⟨litGet (by kernel_rfl), ⟨litGet (by kernel_rfl), trivial⟩⟩⟩⟩⟩⟩⟩⟩⟩⟩⟩⟩⟩⟩⟩⟩⟩⟩⟩⟩⟩⟩⟩⟩⟩⟩⟩⟩⟩⟩⟩⟩⟩⟩⟩⟩, (hm49.sub .slnil)⟩
     refine litVal (v := .bool false) rfl (wn rfl) (boolTo (decide_eq_false h37) (lssRun (A := (i : Int)) (B := (k : Int)) (.tmp 50) (.tmp 51) rfl (litEv (by kernel_rfl)) (litEv (by kernel_rfl)))) rfl (by decide) ?_
     refine plD ?_
     refine then_normal (hK36 _ _ ?_)
     refine wp_cond_false (litEv (by kernel_rfl)) ?_
     refine wp_exit ?_
     refine then_exit ?_
     refine then_exit ?_
     refine inBlock_exit ?_
     refine then_normal (hK29 _ _ ?_)
     refine plStart ?_
     refine lk (v := .int .i64 (volP (l.take k))) rfl rfl rfl ?_
     refine lk (v := .slice (some ⟨b, off, none⟩) l.length c) rfl rfl rfl ?_
     refine lk (v := .int .i64 (k : Int)) rfl rfl rfl ?_
     refine litVal (v := .pointer (some ⟨b, off + k * 4, none⟩)) rfl (wn rfl) (gIaSl (b := b) (off := off) (n := l.length) (c := c) (kk := .i64) (K := (k : Int)) (.tmp 70) (.tmp 71) k Ty.sl_L_api_Tile rfl (litEv (by kernel_rfl)) (litEv (by kernel_rfl)) (rfl) (by omega)) rfl (by decide) ?_
     refine litVal (v := .agg (tlc t).toArray) rfl (wn rfl) (gLoadAgRd (vs := tlc t) (m := k * 4) ((Rd.below hr hm32.bel).more hm32.bel.size) rfl (fun i_ u_ hu_ => tlsC_get hkt i_ u_ hu_) (by kernel_rfl) (by omega) (.tmp 72) Ty.ag_voxel_api_Tile rfl (litEv (by kernel_rfl))) rfl (by decide) ?_
     refine plCall (i := 5) 37 [.agg (tlc t).toArray] [] [] rfl (by kernel_rfl) (wn rfl) rfl (litEv (by kernel_rfl)) (litArgs (by kernel_rfl)) (rbox_any t htok _) ?_
     rintro e w51 ⟨rfl, hbz⟩
     have hm52 := hm32.below hbz
     clear hbz hm32
     refine ⟨_, rfl, ?_⟩
     refine qP rfl ?_
     refine plCall (i := 6) 40 [.agg (bxs t.box).toArray] [] [] rfl (by kernel_rfl) (wn rfl) rfl (litEv (by kernel_rfl)) (litArgs (by kernel_rfl)) (callsTo (congrArg (Value.int .i64) (box_vol htok)) (rvol_any t.box htok.small _)) ?_
     rintro e w53 ⟨rfl, hbz⟩
     have hm54 := hm52.below hbz
     clear hbz hm52
     refine ⟨_, rfl, ?_⟩
     refine qP rfl ?_
     refine litVal (v := .int .i64 (volP (l.take (k + 1)))) rfl (wn rfl) (addRun (A := (volP (l.take k))) (B := (volT t)) (C := volP (l.take (k + 1))) (.tmp 69) (.tmp 75) rfl (litEv (by kernel_rfl)) (litEv (by kernel_rfl)) (volP_take hkt).symm (by rw [volP_take hkt]; omega)) rfl (by decide) ?_
     refine lk (v := .int .i64 (volP (l.take (k + 1)))) rfl rfl rfl ?_
     refine plD ?_
     refine inBlock_normal ?_
     refine then_normal (hK16 _ _ ?_)
     refine plStart ?_
     refine lk (v := .int .i64 (k : Int)) rfl rfl rfl ?_
     refine litVal (v := .int .i64 ((k : Int) + 1)) rfl (wn rfl) (addRun (A := (k : Int)) (B := 1) (C := (k : Int) + 1) (.tmp 23) (.const (.int .i64 1)) rfl (litEv (by kernel_rfl)) (litEv (by kernel_rfl)) rfl (by omega)) rfl (by decide) ?_
     refine lk (v := .int .i64 ((k : Int) + 1)) rfl rfl rfl ?_
     refine plD ?_
     refine then_normal ?_
     exact ⟨_, by omega, (k + 1), rfl, (by omega), ⟨litSize, rfl, ⟨litGet (by kernel_rfl), ⟨litGet (by kernel_rfl), ⟨litGet (by kernel_rfl), ⟨litGet (by kernel_rfl), trivial⟩⟩⟩⟩⟩, (hm54.sub .slnil)⟩
   refine mgTake (i := 1) (v := .bool false) rfl (by kernel_rfl) (wn rfl) (fun _ _ _ h => h) hm24 (fun w_ h_ => boolTo (decide_eq_false h26) (gtrRun (A := (k : Int)) (B := 0) (.tmp 33) (.const (.int .i64 0)) rfl (litEv (by kernel_rfl)) (litEv (by kernel_rfl)))) ?_
   refine mP rfl ?_
   refine mk_ (i := 2) (v := .bool false) rfl rfl (fun _ _ _ h => h) hm24 rfl ?_
   refine mgSkip (i := 3) rfl (by kernel_rfl) (wgN rfl rfl rfl (by decide) (by kernel_rfl)) (fun _ _ _ h => h) hm24 ?_
   refine mP rfl ?_
   refine mgSkip (i := 4) rfl (by kernel_rfl) (wgN rfl rfl rfl (by decide) (by kernel_rfl)) (fun _ _ _ h => h) hm24 ?_
   refine mP rfl ?_
   refine mgSkip (i := 5) rfl (by kernel_rfl) (wgN rfl rfl rfl (by decide) (by kernel_rfl)) (fun _ _ _ h => h) hm24 ?_
   refine mP rfl ?_
   refine mgSkip (i := 6) rfl (by kernel_rfl) (wgN rfl rfl rfl (by decide) (by kernel_rfl)) (fun _ _ _ h => h) hm24 ?_
   refine mP rfl ?_
   refine mgSkip (i := 7) rfl (by kernel_rfl) (wgN rfl rfl rfl (by decide) (by kernel_rfl)) (fun _ _ _ h => h) hm24 ?_
   refine mP rfl ?_
   refine mgSkip (i := 8) rfl (by kernel_rfl) (wgN rfl rfl rfl (by decide) (by kernel_rfl)) (fun _ _ _ h => h) hm24 ?_
   refine mP rfl ?_
   refine mgSkip (i := 9) rfl (by kernel_rfl) (wgN rfl rfl rfl (by decide) (by kernel_rfl)) (fun _ _ _ h => h) hm24 ?_
   refine mP rfl ?_
   refine mgSkip (i := 10) rfl (by kernel_rfl) (wgN rfl rfl rfl (by decide) (by kernel_rfl)) (fun _ _ _ h => h) hm24 ?_
   refine mP rfl ?_
   refine mgSkip (i := 11) rfl (by kernel_rfl) (wgN rfl rfl rfl (by decide) (by kernel_rfl)) (fun _ _ _ h => h) hm24 ?_
   refine mP rfl ?_
   refine mgSkip (i := 12) rfl (by kernel_rfl) (wgN rfl rfl rfl (by decide) (by kernel_rfl)) (fun _ _ _ h => h) hm24 ?_
   refine mP rfl ?_
   refine mgSkip (i := 13) rfl (by kernel_rfl) (wgN rfl rfl rfl (by decide) (by kernel_rfl)) (fun _ _ _ h => h) hm24 ?_
   refine mP rfl ?_
   refine mgSkip (i := 14) rfl (by kernel_rfl) (wgN rfl rfl rfl (by decide) (by kernel_rfl)) (fun _ _ _ h => h) hm24 ?_
   refine mP rfl ?_
   refine mgSkip (i := 15) rfl (by kernel_rfl) (wgN rfl rfl rfl (by decide) (by kernel_rfl)) (fun _ _ _ h => h) hm24 ?_
   refine mP rfl ?_
   refine mk_ (i := 16) (v := .bool false) rfl rfl (fun _ _ _ h => h) hm24 rfl ?_
   refine mgDone (by kernel_rfl) ?_
   refine then_normal (hK23 _ _ ?_)
   refine wpPrune [(0, .int .i64 d), (1, .slice (some ⟨b, off, none⟩) l.length c), (5, .int .i64 (volP (l.take k))), (6, .int .i64 (k : Int)), (7, .bool true), (19, .int .i64 (k : Int)), (20, .slice (some ⟨b, off, none⟩) l.length c), (21, .int .i64 (l.length : Int)), (22, .bool true), (25, .int .i64 d), (26, .slice (some ⟨b, off, none⟩) l.length c), (27, .int .i64 (k : Int)), (28, .pointer (some ⟨b, off + k * 4, none⟩)), (29, .agg (tlc t).toArray), (30, .bool true), (31, .bool true), (32, .bool false), (33, .int .i64 (k : Int)), (34, .bool false), (35, .bool false), (49, .bool false)] ⟨litGet (by kernel_rfl), ⟨litGet (by kernel_rfl), ⟨litGet (by kernel_rfl), ⟨litGet (by kernel_rfl), ⟨litGet (by kernel_rfl), ⟨litGet (by kernel_rfl), ⟨litGet (by kernel_rfl), ⟨litGet (by kernel_rfl), ⟨litGet (by kernel_rfl), ⟨litGet (by kernel_rfl), ⟨litGet (by kernel_rfl), ⟨litGet (by kernel_rfl), ⟨litGet (by kernel_rfl), ⟨litGet (by kernel_rfl), ⟨litGet (by kernel_rfl), ⟨litGet (by kernel_rfl), ⟨litGet (by kernel_rfl), ⟨litGet (by kernel_rfl), ⟨litGet (by kernel_rfl), ⟨litGet (by kernel_rfl), ⟨litGet (by kernel_rfl), trivial⟩⟩⟩⟩⟩⟩⟩⟩⟩⟩⟩⟩⟩⟩⟩⟩⟩⟩⟩⟩⟩ (fun X55 => ?_)
   refine wp_cond_false (litEv (by kernel_rfl)) ?_
   refine wp_skip ?_
   refine then_normal (hK22 _ _ ?_)
   refine wp_seq_k fun K56 hK56 => ?_
   refine wp_seq_k fun K57 hK57 => ?_
   refine plStart ?_
   refine lk (v := .int .i64 0) rfl rfl rfl ?_
   refine plD ?_
   refine then_normal (hK57 _ _ ?_)
   refine wp_block ?_
   refine gwLoop (fun n_ a_ w_ => ∃ (i : Nat), n_ = k - i ∧ (i ≤ k) ∧ Fr a_ 82 [(0, .int .i64 d), (1, .slice (some ⟨b, off, none⟩) l.length c), (5, .int .i64 (volP (l.take k))), (6, .int .i64 (k : Int)), (7, .bool true), (8, .int .i64 (i : Int)), (19, .int .i64 (k : Int)), (20, .slice (some ⟨b, off, none⟩) l.length c), (21, .int .i64 (l.length : Int)), (22, .bool true), (25, .int .i64 d), (26, .slice (some ⟨b, off, none⟩) l.length c), (27, .int .i64 (k : Int)), (28, .pointer (some ⟨b, off + k * 4, none⟩)), (29, .agg (tlc t).toArray), (30, .bool true), (31, .bool true), (32, .bool false), (33, .int .i64 (k : Int)), (34, .bool false), (35, .bool false), (49, .bool false)] ∧ Mem w w_ []) (k - 0) ⟨0, rfl, (Nat.zero_le _), ⟨litSize, rfl, ⟨litGet (by kernel_rfl), ⟨litGet (by kernel_rfl), ⟨litGet (by kernel_rfl), ⟨litGet (by kernel_rfl), ⟨litGet (by kernel_rfl), ⟨litGet (by kernel_rfl), ⟨litGet (by kernel_rfl), ⟨litGet (by kernel_rfl), ⟨litGet (by kernel_rfl), ⟨litGet (by kernel_rfl), ⟨litGet (by kernel_rfl), ⟨litGet (by kernel_rfl), ⟨litGet (by kernel_rfl), ⟨litGet (by kernel_rfl), ⟨litGet (by kernel_rfl), ⟨litGet (by kernel_rfl), ⟨litGet (by kernel_rfl), ⟨litGet (by kernel_rfl), ⟨litGet (by kernel_rfl), ⟨litGet (by kernel_rfl), ⟨litGet (by kernel_rfl), ⟨litGet (by kernel_rfl), trivial⟩⟩⟩⟩⟩⟩⟩⟩⟩⟩⟩⟩⟩⟩⟩⟩⟩⟩⟩⟩⟩⟩⟩, (hm24.sub .slnil)⟩ ?_
   clear hm24
   intro n_ a60 w58 hI_
   obtain ⟨i, rfl, hil, hF_, hm59⟩ := hI_
   obtain ⟨X61, rfl⟩ := frLit hF_
   clear hF_
   refine wp_seq_k fun K62 hK62 => ?_
   refine wp_seq_k fun K63 hK63 => ?_
   refine plStart ?_
   refine lk (v := .int .i64 (i : Int)) rfl rfl rfl ?_
   refine lk (v := .int .i64 (k : Int)) rfl rfl rfl ?_
   by_cases h64 : (i : Int) < (k : Int)
   · obtain ⟨s_, hks⟩ : ∃ s_, l[i]? = some s_ := ⟨_, List.getElem?_eq_getElem (by omega)⟩
     have hsok : s_.Ok := hV.ok s_ (List.mem_of_getElem? hks)
     have hap_ := hV.apartAt hks hkt (by omega)
     refine litVal (v := .bool true) rfl (wn rfl) (boolTo (decide_eq_true h64) (lssRun (A := (i : Int)) (B := (k : Int)) (.tmp 50) (.tmp 51) rfl (litEv (by kernel_rfl)) (litEv (by kernel_rfl)))) rfl (by decide) ?_
     refine plD ?_
     refine then_normal (hK63 _ _ ?_)
     refine wp_cond_true (litEv (by kernel_rfl)) ?_
     refine wp_skip ?_
     refine then_normal (hK62 _ _ ?_)
     refine wp_seq_k fun K65 hK65 => ?_
     refine wp_block ?_
     refine wp_seq_k fun K66 hK66 => ?_
     refine mgStart hm59 (by kernel_rfl) ?_
     intro w68 hm67
     clear hm59
     refine mk_ (i := 0) (v := .slice (some ⟨b, off, none⟩) l.length c) rfl rfl (fun _ _ _ h => h) hm67 rfl ?_
     refine mk_ (i := 1) (v := .int .i64 (i : Int)) rfl rfl (fun _ _ _ h => h) hm67 rfl ?_
     refine mgTake (i := 2) (v := .pointer (some ⟨b, off + i * 4, none⟩)) rfl (by kernel_rfl) (wn rfl) (fun _ _ _ h => h) hm67 (fun w_ h_ => gIaSl (b := b) (off := off) (n := l.length) (c := c) (kk := .i64) (K := (i : Int)) (.tmp 55) (.tmp 56) i Ty.sl_L_api_Tile rfl (litEv (by kernel_rfl)) (litEv (by kernel_rfl)) (rfl) (by omega)) ?_
     refine mP rfl ?_
     refine mgTake (i := 3) (v := .agg (tlc s_).toArray) rfl (by kernel_rfl) (wn rfl) (fun _ _ _ h => h) hm67 (fun w_ h_ => gLoadAgRd (vs := tlc s_) (m := i * 4) ((Rd.below hr h_.bel).more h_.bel.size) rfl (fun i_ u_ hu_ => tlsC_get hks i_ u_ hu_) (by kernel_rfl) (by omega) (.tmp 57) Ty.ag_voxel_api_Tile rfl (litEv (by kernel_rfl))) ?_
     refine mP rfl ?_
     refine mk_ (i := 5) (v := .slice (some ⟨b, off, none⟩) l.length c) rfl rfl (fun _ _ _ h => h) hm67 rfl ?_
     refine mk_ (i := 6) (v := .int .i64 (k : Int)) rfl rfl (fun _ _ _ h => h) hm67 rfl ?_
     refine mgTake (i := 7) (v := .pointer (some ⟨b, off + k * 4, none⟩)) rfl (by kernel_rfl) (wn rfl) (fun _ _ _ h => h) hm67 (fun w_ h_ => gIaSl (b := b) (off := off) (n := l.length) (c := c) (kk := .i64) (K := (k : Int)) (.tmp 60) (.tmp 61) k Ty.sl_L_api_Tile rfl (litEv (by kernel_rfl)) (litEv (by kernel_rfl)) (rfl) (by omega)) ?_
     refine mP rfl ?_
     refine mgTake (i := 8) (v := .agg (tlc t).toArray) rfl (by kernel_rfl) (wn rfl) (fun _ _ _ h => h) hm67 (fun w_ h_ => gLoadAgRd (vs := tlc t) (m := k * 4) ((Rd.below hr h_.bel).more h_.bel.size) rfl (fun i_ u_ hu_ => tlsC_get hkt i_ u_ hu_) (by kernel_rfl) (by omega) (.tmp 62) Ty.ag_voxel_api_Tile rfl (litEv (by kernel_rfl))) ?_
     refine mP rfl ?_
     refine mgCall (i := 4) 37 [.agg (tlc s_).toArray] [] [] (by kernel_rfl) rfl (by kernel_rfl) (wn rfl) rfl (litEv (by kernel_rfl)) (litArgs (by kernel_rfl)) (rbox_any s_ hsok _) ?_
     rintro e w69 ⟨rfl, hbz⟩
     have hm70 := hm67.below hbz
     clear hbz hm67
     refine ⟨_, rfl, hm70, ?_⟩
     refine mP rfl ?_
     refine mgCall (i := 9) 37 [.agg (tlc t).toArray] [] [] (by kernel_rfl) rfl (by kernel_rfl) (wn rfl) rfl (litEv (by kernel_rfl)) (litArgs (by kernel_rfl)) (rbox_any t htok _) ?_
     rintro e w71 ⟨rfl, hbz⟩
     have hm72 := hm70.below hbz
     clear hbz hm70
     refine ⟨_, rfl, hm72, ?_⟩
     refine mP rfl ?_
     refine mgCall (i := 10) 41 [.agg (bxs s_.box).toArray, .agg (bxs t.box).toArray] [] [] (by kernel_rfl) rfl (by kernel_rfl) (wn rfl) rfl (litEv (by kernel_rfl)) (litArgs (by kernel_rfl)) (inter_any s_.box t.box _) ?_
     rintro e w73 ⟨rfl, hbz⟩
     have hm74 := hm72.below hbz
     clear hbz hm72
     refine ⟨_, rfl, hm74, ?_⟩
     refine mP rfl ?_
     refine mgCall (i := 11) 40 [.agg (bxs (s_.box.inter t.box)).toArray] [] [] (by kernel_rfl) rfl (by kernel_rfl) (wn rfl) rfl (litEv (by kernel_rfl)) (litArgs (by kernel_rfl)) (callsTo (congrArg (Value.int .i64) (apart_vol hap_)) (rvol_any (s_.box.inter t.box) (hsok.small.inter htok.small) _)) ?_
     rintro e w75 ⟨rfl, hbz⟩
     have hm76 := hm74.below hbz
     clear hbz hm74
     refine ⟨_, rfl, hm76, ?_⟩
     refine mP rfl ?_
     refine mk_ (i := 12) (v := .int .i64 0) rfl rfl (fun _ _ _ h => h) hm76 rfl ?_
     refine mgDone (by kernel_rfl) ?_
     refine then_normal (hK66 _ _ ?_)
     refine wp_seq_k fun K77 hK77 => ?_
     refine plStart ?_
     refine lk (v := .int .i64 0) rfl rfl rfl ?_
     refine lk (v := .bool false) rfl rfl rfl ?_
     refine plD ?_
     refine then_normal (hK77 _ _ ?_)
     refine wp_cond_false (litEv (by kernel_rfl)) ?_
     refine wp_skip ?_
     refine inBlock_normal ?_
     refine then_normal (hK65 _ _ ?_)
     refine plStart ?_
     refine lk (v := .int .i64 (i : Int)) rfl rfl rfl ?_
     refine litVal (v := .int .i64 ((i : Int) + 1)) rfl (wn rfl) (addRun (A := (i : Int)) (B := 1) (C := (i : Int) + 1) (.tmp 53) (.const (.int .i64 1)) rfl (litEv (by kernel_rfl)) (litEv (by kernel_rfl)) rfl (by omega)) rfl (by decide) ?_
     refine lk (v := .int .i64 ((i : Int) + 1)) rfl rfl rfl ?_
     refine plD ?_
     refine then_normal ?_
     exact ⟨_, by omega, (i + 1), rfl, (by omega), ⟨litSize, rfl, ⟨litGet (by kernel_rfl), ⟨litGet (by kernel_rfl), ⟨litGet (by kernel_rfl), ⟨litGet (by kernel_rfl), ⟨litGet (by kernel_rfl), ⟨litGet (by kernel_rfl), ⟨litGet (by kernel_rfl), ⟨litGet (by kernel_rfl), ⟨litGet (by kernel_rfl), ⟨litGet (by kernel_rfl), ⟨litGet (by kernel_rfl), ⟨litGet (by kernel_rfl), ⟨litGet (by kernel_rfl), ⟨litGet (by kernel_rfl), ⟨litGet (by kernel_rfl), ⟨litGet (by kernel_rfl), ⟨litGet (by kernel_rfl), ⟨litGet (by kernel_rfl), ⟨litGet (by kernel_rfl), ⟨litGet (by kernel_rfl), ⟨litGet (by kernel_rfl), ⟨litGet (by kernel_rfl), trivial⟩⟩⟩⟩⟩⟩⟩⟩⟩⟩⟩⟩⟩⟩⟩⟩⟩⟩⟩⟩⟩⟩⟩, (hm76.sub .slnil)⟩
   refine litVal (v := .bool false) rfl (wn rfl) (boolTo (decide_eq_false h64) (lssRun (A := (i : Int)) (B := (k : Int)) (.tmp 50) (.tmp 51) rfl (litEv (by kernel_rfl)) (litEv (by kernel_rfl)))) rfl (by decide) ?_
   refine plD ?_
   refine then_normal (hK63 _ _ ?_)
   refine wp_cond_false (litEv (by kernel_rfl)) ?_
   refine wp_exit ?_
   refine then_exit ?_
   refine then_exit ?_
   refine inBlock_exit ?_
   refine then_normal (hK56 _ _ ?_)
   refine plStart ?_
   refine lk (v := .int .i64 (volP (l.take k))) rfl rfl rfl ?_
   refine lk (v := .slice (some ⟨b, off, none⟩) l.length c) rfl rfl rfl ?_
   refine lk (v := .int .i64 (k : Int)) rfl rfl rfl ?_
   refine litVal (v := .pointer (some ⟨b, off + k * 4, none⟩)) rfl (wn rfl) (gIaSl (b := b) (off := off) (n := l.length) (c := c) (kk := .i64) (K := (k : Int)) (.tmp 70) (.tmp 71) k Ty.sl_L_api_Tile rfl (litEv (by kernel_rfl)) (litEv (by kernel_rfl)) (rfl) (by omega)) rfl (by decide) ?_
   refine litVal (v := .agg (tlc t).toArray) rfl (wn rfl) (gLoadAgRd (vs := tlc t) (m := k * 4) ((Rd.below hr hm59.bel).more hm59.bel.size) rfl (fun i_ u_ hu_ => tlsC_get hkt i_ u_ hu_) (by kernel_rfl) (by omega) (.tmp 72) Ty.ag_voxel_api_Tile rfl (litEv (by kernel_rfl))) rfl (by decide) ?_
   refine plCall (i := 5) 37 [.agg (tlc t).toArray] [] [] rfl (by kernel_rfl) (wn rfl) rfl (litEv (by kernel_rfl)) (litArgs (by kernel_rfl)) (rbox_any t htok _) ?_
   rintro e w78 ⟨rfl, hbz⟩
   have hm79 := hm59.below hbz
   clear hbz hm59
   refine ⟨_, rfl, ?_⟩
   refine qP rfl ?_
   refine plCall (i := 6) 40 [.agg (bxs t.box).toArray] [] [] rfl (by kernel_rfl) (wn rfl) rfl (litEv (by kernel_rfl)) (litArgs (by kernel_rfl)) (callsTo (congrArg (Value.int .i64) (box_vol htok)) (rvol_any t.box htok.small _)) ?_
   rintro e w80 ⟨rfl, hbz⟩
   have hm81 := hm79.below hbz
   clear hbz hm79
   refine ⟨_, rfl, ?_⟩
   refine qP rfl ?_
   refine litVal (v := .int .i64 (volP (l.take (k + 1)))) rfl (wn rfl) (addRun (A := (volP (l.take k))) (B := (volT t)) (C := volP (l.take (k + 1))) (.tmp 69) (.tmp 75) rfl (litEv (by kernel_rfl)) (litEv (by kernel_rfl)) (volP_take hkt).symm (by rw [volP_take hkt]; omega)) rfl (by decide) ?_
   refine lk (v := .int .i64 (volP (l.take (k + 1)))) rfl rfl rfl ?_
   refine plD ?_
   refine inBlock_normal ?_
   refine then_normal (hK16 _ _ ?_)
   refine plStart ?_
   refine lk (v := .int .i64 (k : Int)) rfl rfl rfl ?_
   refine litVal (v := .int .i64 ((k : Int) + 1)) rfl (wn rfl) (addRun (A := (k : Int)) (B := 1) (C := (k : Int) + 1) (.tmp 23) (.const (.int .i64 1)) rfl (litEv (by kernel_rfl)) (litEv (by kernel_rfl)) rfl (by omega)) rfl (by decide) ?_
   refine lk (v := .int .i64 ((k : Int) + 1)) rfl rfl rfl ?_
   refine plD ?_
   refine then_normal ?_
   exact ⟨_, by omega, (k + 1), rfl, (by omega), ⟨litSize, rfl, ⟨litGet (by kernel_rfl), ⟨litGet (by kernel_rfl), ⟨litGet (by kernel_rfl), ⟨litGet (by kernel_rfl), trivial⟩⟩⟩⟩⟩, (hm81.sub .slnil)⟩
 refine litVal (v := .bool false) rfl (wn rfl) (boolTo (decide_eq_false h15) (lssRun (A := (k : Int)) (B := (l.length : Int)) (.tmp 19) (.tmp 21) rfl (litEv (by kernel_rfl)) (litEv (by kernel_rfl)))) rfl (by decide) ?_
 refine plD ?_
 refine then_normal (hK14 _ _ ?_)
 refine wp_cond_false (litEv (by kernel_rfl)) ?_
 refine wp_exit ?_
 refine then_exit ?_
 refine then_exit ?_
 refine inBlock_exit ?_
 refine then_normal (hK7 _ _ ?_)
 refine wp_seq_k fun K82 hK82 => ?_
 refine wp_seq_k fun K83 hK83 => ?_
 refine plStart ?_
 refine lk (v := .int .i64 (volP (l.take k))) rfl rfl rfl ?_
 refine lk (v := .int .i64 d) rfl rfl rfl ?_
 refine litVal (v := .int .i64 (3 * d)) rfl (wn rfl) (mulRun (A := 3) (B := d) (C := 3 * d) (.const (.int .i64 3)) (.tmp 78) rfl (litEv (by kernel_rfl)) (litEv (by kernel_rfl)) rfl (by omega)) rfl (by decide) ?_
 refine litVal (v := .int .i64 (8 ^ d.toNat)) rfl (wn rfl) (gShl (A := 1) (N := (3 * d)) (C := 8 ^ d.toNat) (.const (.int .i64 1)) (.tmp 79) rfl (litEv (by kernel_rfl)) (litEv (by kernel_rfl)) (pow83d hd).1 (by omega) (by omega) (by have := (pow83d hd).2.1; omega)) rfl (by decide) ?_
 refine litVal (v := .bool false) rfl (wn rfl) (boolTo (by rw [decide_eq_true (show (volP (l.take k)) = (8 ^ d.toNat) by rw [List.take_of_length_le (by omega)]; exact hV.sum)]; rfl) (neqRun (A := (volP (l.take k))) (B := (8 ^ d.toNat)) (.tmp 77) (.tmp 80) rfl (litEv (by kernel_rfl)) (litEv (by kernel_rfl)))) rfl (by decide) ?_
 refine plD ?_
 refine then_normal (hK83 _ _ ?_)
 refine wp_cond_false (litEv (by kernel_rfl)) ?_
 refine wp_skip ?_
 refine then_normal (hK82 _ _ ?_)
 refine wpPrune [] trivial (fun X84 => ?_)
 refine wp_seq_k fun K85 hK85 => ?_
 refine plStart ?_
 refine lk (v := .int .i64 0) rfl rfl rfl ?_
 refine plD ?_
 refine then_normal (hK85 _ _ ?_)
 refine wp_ret ?_
 refine bodyPost_ret (v := .int .i64 0) (gRes1 rfl (gResTmp (t := 4) (v := .int .i64 0) (litGet (by kernel_rfl)))) rfl ?_
 exact ⟨by rfl, hm10.bel⟩
theorem rcheckP_any (d : Int) (l : List Tl) (hd : 2 ≤ d ∧ d ≤ 14) (hV : PlanV d l) (hne : 0 < l.length) (hl : l.length ≤ 4096) (A : Option Addr) (c : Nat) (w : World) (hr : Rd w w.heap.size 4 A l.length c (tlsC l)) : Calls Try.prog 20 #[.int .i64 d, .slice A l.length c] w (RetV w (.int .i64 0)) := by
  obtain ⟨b, off, rfl, _, _⟩ := hr.cells (by omega)
  exact rcheckP_blk d l hd hV hl b off c w hr
end Go.Proofs.Ytkmhjgdpkddbnaa
