/-
  The coder as plain functions: models, intervals, codes, and that a code is decoded. No program in sight.
-/
namespace Go.Proofs.Ytpbebmbkcpdbeaa

/-- A probability learns a bit. -/
def coLearn (p b : Nat) : Nat := if b = 1 then p + (4096 - p) / 32 else p - p / 32
theorem coLearn_good {p b : Nat} (h : 31 ≤ p ∧ p ≤ 4065) : 31 ≤ coLearn p b ∧ coLearn p b ≤ 4065 := by
  unfold coLearn
  split <;> omega
def coBit (x : UInt8) (i : Nat) : Nat := x.toNat / 2 ^ (7 - i) % 2
def coCtx (x : UInt8) (i : Nat) : Nat := 2 ^ i + x.toNat / 2 ^ (8 - i)
/-- The bits of a byte, each with the bits before it behind a 1. -/
def coPairs (x : UInt8) : List (Nat × Nat) := (List.range 8).map fun i => (coCtx x i, coBit x i)
def coAll (l : List UInt8) : List (Nat × Nat) := l.flatMap coPairs
theorem coCtx_next (x : UInt8) (i : Nat) (h : i < 8) : coCtx x (i + 1) = 2 * coCtx x i + coBit x i := by
  have hx := x.toNat_lt
  unfold coCtx coBit
  generalize x.toNat = n at *
  rcases (by omega : i = 0 ∨ i = 1 ∨ i = 2 ∨ i = 3 ∨ i = 4 ∨ i = 5 ∨ i = 6 ∨ i = 7) with rfl | rfl | rfl | rfl | rfl | rfl | rfl | rfl <;> omega
theorem coCtx_zero (x : UInt8) : coCtx x 0 = 1 := by
  have := x.toNat_lt
  unfold coCtx
  omega
theorem coCtx_end (x : UInt8) : coCtx x 8 = 256 + x.toNat := by unfold coCtx; simp
theorem coCtx_lt (x : UInt8) (i : Nat) (h : i < 8) : 1 ≤ coCtx x i ∧ coCtx x i < 256 := by
  have hx := x.toNat_lt
  unfold coCtx
  generalize x.toNat = n at *
  rcases (by omega : i = 0 ∨ i = 1 ∨ i = 2 ∨ i = 3 ∨ i = 4 ∨ i = 5 ∨ i = 6 ∨ i = 7) with rfl | rfl | rfl | rfl | rfl | rfl | rfl | rfl <;> omega
theorem coBit_lt (x : UInt8) (i : Nat) : coBit x i = 0 ∨ coBit x i = 1 := by unfold coBit; omega

/-- A model learns a bit behind c. -/
def coLearnAt (m : List Nat) (c b : Nat) : List Nat := m.set c (coLearn (m.getD c 0) b)
theorem coLearnAt_len (m : List Nat) (c b : Nat) : (coLearnAt m c b).length = m.length := by unfold coLearnAt; rw [List.length_set]
def coTrain (m : List Nat) (l : List (Nat × Nat)) : List Nat := l.foldl (fun m p => coLearnAt m p.1 p.2) m
def coNew : List Nat := 0 :: List.replicate 255 2048
/-- A model for which Train is specified. -/
structure CoGood (m : List Nat) : Prop where
  len : m.length = 256
  zero : m.getD 0 0 = 0
  mid : ∀ c, 1 ≤ c → c < 256 → 31 ≤ m.getD c 0 ∧ m.getD c 0 ≤ 4065
theorem coNew_len : coNew.length = 256 := by unfold coNew; rw [List.length_cons, List.length_replicate]
theorem coNew_at {c : Nat} (h1 : 1 ≤ c) (h2 : c < 256) : coNew.getD c 0 = 2048 := by
  obtain ⟨k, rfl⟩ : ∃ k, c = k + 1 := ⟨c - 1, by omega⟩
  unfold coNew
  rw [List.getD_cons_succ, List.getD_eq_getElem?_getD, List.getElem?_replicate, if_pos (by omega)]
  rfl
theorem coNew_good : CoGood coNew := by
  refine ⟨coNew_len, rfl, fun c h1 h2 => ?_⟩
  rw [coNew_at h1 h2]
  omega
theorem getD_set_ {m : List Nat} {c k v : Nat} (hc : c < m.length) : (m.set c v).getD k 0 = if c = k then v else m.getD k 0 := by
  simp only [List.getD, List.getElem?_set]
  by_cases h : c = k
  · subst h; simp [hc]
  · simp [h]
theorem coLearnAt_good {m : List Nat} {c b : Nat} (h : CoGood m) (h1 : 1 ≤ c) (h2 : c < 256) : CoGood (coLearnAt m c b) := by
  refine ⟨by rw [coLearnAt_len]; exact h.len, ?_, fun k k1 k2 => ?_⟩
  · unfold coLearnAt
    rw [getD_set_ (by rw [h.len]; exact h2), if_neg (by omega)]
    exact h.zero
  · unfold coLearnAt
    rw [getD_set_ (by rw [h.len]; exact h2)]
    split
    · exact coLearn_good (h.mid c h1 h2)
    · exact h.mid k k1 k2
/-- Pairs that a model takes. -/
def CoOK (l : List (Nat × Nat)) : Prop := ∀ p ∈ l, 1 ≤ p.1 ∧ p.1 < 256 ∧ (p.2 = 0 ∨ p.2 = 1)
theorem coPairs_ok (x : UInt8) : CoOK (coPairs x) := by
  intro p hp
  unfold coPairs at hp
  obtain ⟨i, hi, rfl⟩ := List.mem_map.1 hp
  have hi8 := List.mem_range.1 hi
  have h1 := coCtx_lt x i hi8
  exact ⟨h1.1, h1.2, coBit_lt x i⟩
theorem coAll_ok (l : List UInt8) : CoOK (coAll l) := by
  intro p hp
  obtain ⟨x, _, hx⟩ := List.mem_flatMap.1 hp
  exact coPairs_ok x p hx
theorem coTrain_good {m : List Nat} (h : CoGood m) : ∀ {l : List (Nat × Nat)}, CoOK l → CoGood (coTrain m l) := by
  intro l
  induction l generalizing m with
  | nil => intro _; exact h
  | cons p l ih =>
    intro hl
    have hp := hl p (by simp)
    exact ih (coLearnAt_good h hp.1 hp.2.1) fun q hq => hl q (List.mem_cons_of_mem _ hq)
theorem coTrain_append (m : List Nat) (a b : List (Nat × Nat)) : coTrain m (a ++ b) = coTrain (coTrain m a) b := by unfold coTrain; rw [List.foldl_append]
theorem coAll_append (a b : List UInt8) : coAll (a ++ b) = coAll a ++ coAll b := by unfold coAll; rw [List.flatMap_append]

/-! ### Intervals -/
structure CoIv where
  x : Nat
  y : Nat
  out : List UInt8
/-- The bytes that both bounds have are settled. -/
def coNorm : Nat → CoIv → CoIv
  | 0, v => v
  | f + 1, v => if v.x / 16777216 = v.y / 16777216 then coNorm f ⟨v.x % 16777216 * 256, v.y % 16777216 * 256 + 255, v.out ++ [UInt8.ofNat (v.x / 16777216)]⟩ else v
def coMid (v : CoIv) (p : Nat) : Nat := v.x + (v.y - v.x) * p / 4096
def coCut (v : CoIv) (b p : Nat) : CoIv := if b = 1 then ⟨v.x, coMid v p, v.out⟩ else ⟨coMid v p + 1, v.y, v.out⟩
def coNarrow (v : CoIv) (b p : Nat) : CoIv := coNorm 5 (coCut v b p)
/-- An interval within 32 bits. -/
structure CoIn (v : CoIv) : Prop where
  le : v.x ≤ v.y
  hi : v.y < 4294967296
/-- .. whose bounds have different bytes at the top. -/
structure CoOpen (v : CoIv) : Prop extends CoIn v where
  top : v.x / 16777216 ≠ v.y / 16777216
theorem coNorm_step {v : CoIv} (h : CoIn v) (ht : v.x / 16777216 = v.y / 16777216) : CoIn ⟨v.x % 16777216 * 256, v.y % 16777216 * 256 + 255, v.out ++ [UInt8.ofNat (v.x / 16777216)]⟩ := by
  have h1 := h.le
  have h2 := h.hi
  exact ⟨by show v.x % 16777216 * 256 ≤ v.y % 16777216 * 256 + 255; omega, by show v.y % 16777216 * 256 + 255 < 4294967296; omega⟩
theorem coNorm_open : ∀ (f : Nat) {v : CoIv}, CoIn v → (256 ^ (5 - f) ≤ v.y - v.x + 1) → f ≤ 5 → 1 ≤ f → CoOpen (coNorm f v)
  | 0, _, _, _, _, h => absurd h (by omega)
  | f + 1, v, h, hd, hf, _ => by
    unfold coNorm
    split
    · rename_i ht
      have hs := coNorm_step h ht
      have h1 := h.le
      have h2 := h.hi
      by_cases hf0 : f = 0
      · subst hf0
        exfalso
        simp at hd
        omega
      · refine coNorm_open f hs ?_ (by omega) (by omega)
        show 256 ^ (5 - f) ≤ v.y % 16777216 * 256 + 255 - v.x % 16777216 * 256 + 1
        have e : 256 ^ (5 - f) = 256 ^ (5 - (f + 1)) * 256 := by rw [show 5 - f = (5 - (f + 1)) + 1 by omega, Nat.pow_succ]
        rw [e]
        generalize 256 ^ (5 - (f + 1)) = q at *
        omega
    · rename_i ht
      exact ⟨h, ht⟩
theorem coNorm5_open {v : CoIv} (h : CoIn v) : CoOpen (coNorm 5 v) := coNorm_open 5 h (by simp) (by omega) (by omega)
theorem coMid_in {v : CoIv} {p : Nat} (h : CoOpen v) (hp : 31 ≤ p ∧ p ≤ 4065) : v.x ≤ coMid v p ∧ coMid v p < v.y := by
  have h1 := h.le
  have h2 := h.top
  have h3 : v.x < v.y := by
    rcases Nat.lt_or_ge v.x v.y with h4 | h4
    · exact h4
    · exfalso; apply h2; rw [Nat.le_antisymm h1 h4]
  unfold coMid
  refine ⟨by omega, ?_⟩
  have h5 : (v.y - v.x) * p / 4096 < v.y - v.x := by
    rw [Nat.div_lt_iff_lt_mul (by omega)]
    exact Nat.mul_lt_mul_of_pos_left (by omega) (by omega)
  omega
theorem coCut_in {v : CoIv} {b p : Nat} (h : CoOpen v) (hp : 31 ≤ p ∧ p ≤ 4065) : CoIn (coCut v b p) := by
  have h1 := coMid_in h hp
  have h2 := h.hi
  unfold coCut
  split
  · exact ⟨h1.1, by show coMid v p < 4294967296; omega⟩
  · exact ⟨by show coMid v p + 1 ≤ v.y; omega, h2⟩
theorem coNarrow_open {v : CoIv} {b p : Nat} (h : CoOpen v) (hp : 31 ≤ p ∧ p ≤ 4065) : CoOpen (coNarrow v b p) := coNorm5_open (coCut_in h hp)
def coStart : CoIv := ⟨0, 4294967295, []⟩
theorem coStart_open : CoOpen coStart := ⟨⟨by decide, by decide⟩, by decide⟩
/-- A coder's state goes over a bit. -/
def coStep (s : List Nat × CoIv) (p : Nat × Nat) : List Nat × CoIv := (coLearnAt s.1 p.1 p.2, coNarrow s.2 p.2 (s.1.getD p.1 0))
def coRun (s : List Nat × CoIv) (l : List (Nat × Nat)) : List Nat × CoIv := l.foldl coStep s
def coEnd (v : CoIv) : List UInt8 := if v.x ≠ 0 then v.out ++ [UInt8.ofNat (v.x / 16777216 + 1)] else v.out
def coCode (prior data : List UInt8) : List UInt8 := coEnd (coRun (coTrain coNew (coAll prior), coStart) (coAll data)).2
end Go.Proofs.Ytpbebmbkcpdbeaa
