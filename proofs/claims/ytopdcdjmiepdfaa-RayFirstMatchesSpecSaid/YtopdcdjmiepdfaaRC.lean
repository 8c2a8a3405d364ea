/-
  RC: several texts in one. No statement is proved here.
-/
set_option linter.unusedVariables false
set_option linter.unusedSimpArgs false
namespace Go.Proofs.Ytopdcdjmiepdfaa
/-- A time is less than another one. -/
def tltb (t u : Int × Int) : Bool := decide (t.1 * u.2 < u.1 * t.2)
/-- A point. -/
structure Pt where
  x : Int
  y : Int
  z : Int
deriving DecidableEq
def p0 : Pt := ⟨0, 0, 0⟩
def Pt.rng (p : Pt) : Prop := (-1048575 ≤ p.x ∧ p.x ≤ 1048575) ∧ (-1048575 ≤ p.y ∧ p.y ≤ 1048575) ∧ (-1048575 ≤ p.z ∧ p.z ≤ 1048575)
instance (p : Pt) : Decidable p.rng := by unfold Pt.rng; infer_instance
def dif (a b : Int) : Int := max (a - b) (b - a)
def Pt.sum (a b : Pt) : Int := dif a.x b.x + dif a.y b.y + dif a.z b.z
/-- A box. -/
structure Bx where
  mn : Pt
  mx : Pt
deriving DecidableEq
def Bx.has (b : Bx) (p : Pt) : Prop := (b.mn.x ≤ p.x ∧ p.x < b.mx.x) ∧ (b.mn.y ≤ p.y ∧ p.y < b.mx.y) ∧ (b.mn.z ≤ p.z ∧ p.z < b.mx.z)
instance (b : Bx) (p : Pt) : Decidable (b.has p) := by unfold Bx.has; infer_instance
def Bx.none (b : Bx) : Prop := b.mx.x ≤ b.mn.x ∨ b.mx.y ≤ b.mn.y ∨ b.mx.z ≤ b.mn.z
instance (b : Bx) : Decidable b.none := by unfold Bx.none; infer_instance
def Pt.sub (p q : Pt) : Pt := ⟨p.x - q.x, p.y - q.y, p.z - q.z⟩
def Pt.add (p q : Pt) : Pt := ⟨p.x + q.x, p.y + q.y, p.z + q.z⟩
def Bx.size (b : Bx) : Pt := if b.none then p0 else b.mx.sub b.mn
def Bx.vol (b : Bx) : Int := b.size.x * b.size.y * b.size.z
def Pt.dist (p q : Pt) : Int := max (dif p.x q.x) (max (dif p.y q.y) (dif p.z q.z))
def Bx.idx (b : Bx) (p : Pt) : Int := if b.has p then (p.x - b.mn.x) + b.size.x * ((p.y - b.mn.y) + b.size.y * (p.z - b.mn.z)) else -1
/-- Times between From and To, and whether there are such. -/
structure Btw where
  a : Int × Int
  b : Int × Int
  ok : Bool
deriving DecidableEq
def alongT (a b c : Int) : Btw :=
  if 2 * (b - a) = 0 then ⟨(-1, 1), (2, 1), decide (a = c)⟩ else
  if 2 * (b - a) < 0 then ⟨(-(2 * c - 2 * a - 1 + 2), -(2 * (b - a))), (-(2 * c - 2 * a - 1), -(2 * (b - a))), true⟩ else
  ⟨(2 * c - 2 * a - 1, 2 * (b - a)), (2 * c - 2 * a - 1 + 2, 2 * (b - a)), true⟩
def Btw.meet (u v : Btw) : Btw := ⟨if tltb u.a v.a then v.a else u.a, if tltb v.b u.b then v.b else u.b, u.ok && v.ok⟩
def Btw.fin (u : Btw) : Btw := ⟨u.a, u.b, u.ok && tltb u.a u.b && tltb u.a (1, 1) && tltb (0, 1) u.b⟩
def insideT (a b c : Pt) : Btw := (((alongT a.x b.x c.x).meet (alongT a.y b.y c.y)).meet (alongT a.z b.z c.z)).fin
def Tm30 (t : Int × Int) : Prop := (-1073741824 ≤ t.1 ∧ t.1 ≤ 1073741824) ∧ (-1073741824 ≤ t.2 ∧ t.2 ≤ 1073741824)
def Btw.sm (u : Btw) : Prop := Tm30 u.a ∧ Tm30 u.b
theorem along_sm {a b c : Int} (ha : -1048575 ≤ a ∧ a ≤ 1048575) (hb : -1048575 ≤ b ∧ b ≤ 1048575) (hc : -1048575 ≤ c ∧ c ≤ 1048575) : (alongT a b c).sm := by
  unfold alongT Btw.sm Tm30
  by_cases h1 : 2 * (b - a) = 0
  · rw [if_pos h1]; simp only; omega
  · rw [if_neg h1]
    by_cases h2 : 2 * (b - a) < 0
    · rw [if_pos h2]; simp only; omega
    · rw [if_neg h2]; simp only; omega
theorem meet_sm {u v : Btw} (hu : u.sm) (hv : v.sm) : (u.meet v).sm := by
  unfold Btw.meet Btw.sm
  simp only
  refine ⟨?_, ?_⟩
  · split
    · exact hv.1
    · exact hu.1
  · split
    · exact hv.2
    · exact hu.2
/-- One axis of Crosses. -/
def alongP (a b c : Int) : Btw :=
  if 2 * (b - a) < 0 then ⟨(-(2 * (c - a) + 1), -(2 * (b - a))), (-(2 * (c - a) - 1), -(2 * (b - a))), true⟩ else ⟨(2 * (c - a) - 1, 2 * (b - a)), (2 * (c - a) + 1, 2 * (b - a)), true⟩
def stepC (m : Btw) (a b c : Int) : Btw := if 2 * (b - a) = 0 then m else m.meet (alongP a b c)
def btw0 : Btw := ⟨(-1, 1), (2, 1), true⟩
def crossM (a b c : Pt) : Btw := stepC (stepC (stepC btw0 a.x b.x c.x) a.y b.y c.y) a.z b.z c.z
def crossOff (a b c : Int) : Prop := 2 * (b - a) = 0 ∧ a ≠ c
instance (a b c : Int) : Decidable (crossOff a b c) := by unfold crossOff; infer_instance
def crossR (a b c : Pt) : Bool := if crossOff a.x b.x c.x ∨ crossOff a.y b.y c.y ∨ crossOff a.z b.z c.z then false else (crossM a b c).fin.ok
theorem stepC_sm {m : Btw} {a b c : Int} (hm : m.sm) (ha : -1048575 ≤ a ∧ a ≤ 1048575) (hb : -1048575 ≤ b ∧ b ≤ 1048575) (hc : -1048575 ≤ c ∧ c ≤ 1048575) : (stepC m a b c).sm := by
  unfold stepC
  split
  · exact hm
  · refine meet_sm hm ?_
    unfold alongP Btw.sm Tm30
    split <;> simp only <;> omega
theorem btw0_sm : btw0.sm := by unfold btw0 Btw.sm Tm30; simp only; omega
/-- Times of positive denominators. -/
def Btw.pos (u : Btw) : Prop := 0 < u.a.2 ∧ 0 < u.b.2
theorem along_ok {a b c : Int} : (alongT a b c).ok = !decide (crossOff a b c) := by
  unfold alongT crossOff
  by_cases h1 : 2 * (b - a) = 0
  · rw [if_pos h1]; by_cases h2 : a = c <;> simp [h1, h2]
  · rw [if_neg h1]
    by_cases h2 : 2 * (b - a) < 0
    · rw [if_pos h2]; simp [h1]
    · rw [if_neg h2]; simp [h1]
theorem crossM_ok (a b c : Pt) : (crossM a b c).ok = true := by
  have key2 : ∀ (m : Btw) (x y z : Int), m.ok = true → (stepC m x y z).ok = true := by
    intro m x y z hm
    unfold stepC
    split
    · exact hm
    · unfold Btw.meet alongP; split <;> simp [hm]
  exact key2 _ _ _ _ (key2 _ _ _ _ (key2 _ _ _ _ rfl))
/-- The error of a walk. -/
def ckE (a b : Pt) : Int := if a.rng ∧ b.rng then (if 65536 < a.sum b then 2 else 0) else 1
theorem ckE_ok {a b : Pt} (h : ckE a b = 0) : a.rng ∧ b.rng ∧ a.sum b ≤ 65536 := by
  unfold ckE at h
  split at h
  · rename_i h1
    split at h
    · omega
    · exact ⟨h1.1, h1.2, by omega⟩
  · omega
/-- An axis: the coordinate, the direction, the time of the next crossing. -/
structure Axis where
  pos : Int
  step : Int
  n : Int
  d : Int
deriving DecidableEq
def toward (a b : Int) : Axis := if 0 < b - a then ⟨a, 1, 1, 2 * (b - a)⟩ else if b - a < 0 then ⟨a, -1, 1, -2 * (b - a)⟩ else ⟨a, 0, 2, 1⟩
/-- A time is less than another one. -/
def tlt (t u : Int × Int) : Prop := t.1 * u.2 < u.1 * t.2
instance (t u : Int × Int) : Decidable (tlt t u) := by unfold tlt; infer_instance
def Axis.next (x : Axis) : Int × Int := (x.n, x.d)
structure Ax3 where
  x : Axis
  y : Axis
  z : Axis
deriving DecidableEq
def Ax3.cell (s : Ax3) : Pt := ⟨s.x.pos, s.y.pos, s.z.pos⟩
def sooner (f : Int × Int) (x : Axis) : Int × Int := if tlt x.next f then x.next else f
def Ax3.first (s : Ax3) : Int × Int := sooner (sooner s.x.next s.y) s.z
def Axis.over (f : Int × Int) (x : Axis) : Axis := if tlt f x.next then x else ⟨x.pos + x.step, x.step, x.n + 2, x.d⟩
def Ax3.go (s : Ax3) : Ax3 := ⟨s.x.over s.first, s.y.over s.first, s.z.over s.first⟩
def ax0 (a b : Pt) : Ax3 := ⟨toward a.x b.x, toward a.y b.y, toward a.z b.z⟩
/-- An axis on its way from a to b, after j steps. -/
def AxOk (x : Axis) (a b : Int) : Prop := (a = b ∧ x = ⟨a, 0, 2, 1⟩) ∨ (∃ j : Int, 0 ≤ j ∧ ((a < b ∧ j ≤ b - a ∧ x = ⟨a + j, 1, 2 * j + 1, 2 * (b - a)⟩) ∨ (b < a ∧ j ≤ a - b ∧ x = ⟨a - j, -1, 2 * j + 1, 2 * (a - b)⟩)))
def Ax3.Ok (s : Ax3) (a b : Pt) : Prop := AxOk s.x a.x b.x ∧ AxOk s.y a.y b.y ∧ AxOk s.z a.z b.z
theorem toward_ok (a b : Int) : AxOk (toward a b) a b := by
  unfold toward AxOk
  by_cases h : 0 < b - a
  · rw [if_pos h]
    refine Or.inr ⟨0, by omega, Or.inl ⟨by omega, by omega, ?_⟩⟩
    simp
  · rw [if_neg h]
    by_cases h2 : b - a < 0
    · rw [if_pos h2]
      refine Or.inr ⟨0, by omega, Or.inr ⟨by omega, by omega, ?_⟩⟩
      simp; omega
    · rw [if_neg h2]
      exact Or.inl ⟨by omega, rfl⟩
theorem ax0_ok (a b : Pt) : (ax0 a b).Ok a b := ⟨toward_ok _ _, toward_ok _ _, toward_ok _ _⟩
/-- What an axis is, in numbers. -/
theorem AxOk.nums {x : Axis} {a b : Int} (h : AxOk x a b) : 0 < x.d ∧ 1 ≤ x.n ∧ (x.pos = b ↔ (x.d < x.n)) ∧ (x.pos ≠ b → x.n + 1 ≤ x.d) ∧ x.n ≤ 2 * dif a b + 2 ∧ x.d ≤ 2 * dif a b + 1 ∧ (-1 ≤ x.step ∧ x.step ≤ 1) ∧ (min a b ≤ x.pos ∧ x.pos ≤ max a b) := by
  unfold dif
  rcases h with ⟨h1, rfl⟩ | ⟨j, hj, ⟨h1, h2, rfl⟩ | ⟨h1, h2, rfl⟩⟩
  · simp only; omega
  · simp only; omega
  · simp only; omega
theorem AxOk.over {x : Axis} {a b : Int} (h : AxOk x a b) (f : Int × Int) (hf : f.1 < f.2) (hf2 : 0 < f.2) : AxOk (x.over f) a b ∧ (¬ tlt f x.next → x.pos ≠ b ∧ (dif (x.over f).pos b) + 1 = dif x.pos b) ∧ (tlt f x.next → x.over f = x) := by
  by_cases ht : tlt f x.next
  · refine ⟨?_, fun h2 => absurd ht h2, fun _ => by unfold Axis.over; rw [if_pos ht]⟩
    unfold Axis.over; rw [if_pos ht]; exact h
  · have hx : x.over f = ⟨x.pos + x.step, x.step, x.n + 2, x.d⟩ := by unfold Axis.over; rw [if_neg ht]
    have hlt : x.n < x.d := by
      have hd : 0 < x.d := h.nums.1
      unfold tlt Axis.next at ht
      simp only [Int.not_lt] at ht
      have h1 : f.1 * x.d < f.2 * x.d := Int.mul_lt_mul_of_pos_right hf hd
      have h2 : x.n * f.2 < x.d * f.2 := by rw [Int.mul_comm x.d]; omega
      exact Int.lt_of_mul_lt_mul_right h2 (by omega)
    refine ⟨?_, fun _ => ?_, fun h2 => absurd h2 ht⟩
    · rw [hx]
      rcases h with ⟨h1, rfl⟩ | ⟨j, hj, ⟨h1, h2, rfl⟩ | ⟨h1, h2, rfl⟩⟩
      · simp only at hlt; omega
      · simp only at hlt
        exact Or.inr ⟨j + 1, by omega, Or.inl ⟨h1, by omega, by simp only [Axis.mk.injEq]; refine ⟨?_, ?_, ?_, ?_⟩ <;> first | rfl | trivial | omega⟩⟩
      · simp only at hlt
        exact Or.inr ⟨j + 1, by omega, Or.inr ⟨h1, by omega, by simp only [Axis.mk.injEq]; refine ⟨?_, ?_, ?_, ?_⟩ <;> first | rfl | trivial | omega⟩⟩
    · rw [hx]
      unfold dif
      rcases h with ⟨h1, rfl⟩ | ⟨j, hj, ⟨h1, h2, rfl⟩ | ⟨h1, h2, rfl⟩⟩
      · simp only at hlt; omega
      · simp only at hlt ⊢; omega
      · simp only at hlt ⊢; omega
theorem tlt_irrefl (t : Int × Int) : ¬ tlt t t := by unfold tlt; omega
/-- Of times with positive denominators: less, and less or the same. -/
theorem tle_trans {t u v : Int × Int} (ht : 0 < t.2) (hu : 0 < u.2) (hv : 0 < v.2) (h1 : ¬ tlt u t) (h2 : ¬ tlt v u) : ¬ tlt v t := by
  unfold tlt at *
  simp only [Int.not_lt] at *
  -- t ≤ u ≤ v
  have a1 : t.1 * u.2 * v.2 ≤ u.1 * t.2 * v.2 := Int.mul_le_mul_of_nonneg_right h1 (by omega)
  have a2 : u.1 * v.2 * t.2 ≤ v.1 * u.2 * t.2 := Int.mul_le_mul_of_nonneg_right h2 (by omega)
  have a3 : t.1 * v.2 * u.2 ≤ v.1 * t.2 * u.2 := by
    rw [Int.mul_right_comm t.1, Int.mul_right_comm v.1]
    rw [Int.mul_right_comm u.1 t.2] at a1
    exact Int.le_trans a1 a2
  exact Int.le_of_mul_le_mul_right a3 hu
theorem tle_of_lt {t u : Int × Int} (h : tlt t u) : ¬ tlt u t := by unfold tlt at *; omega
theorem sooner_spec (f : Int × Int) (x : Axis) (hf : 0 < f.2) (hx : 0 < x.d) : ¬ tlt f (sooner f x) ∧ ¬ tlt x.next (sooner f x) ∧ 0 < (sooner f x).2 ∧ (sooner f x = f ∨ sooner f x = x.next) := by
  unfold sooner
  split
  · rename_i h
    exact ⟨tle_of_lt h, tlt_irrefl _, hx, Or.inr rfl⟩
  · rename_i h
    exact ⟨tlt_irrefl _, h, hf, Or.inl rfl⟩
theorem first_spec (s : Ax3) (hx : 0 < s.x.d) (hy : 0 < s.y.d) (hz : 0 < s.z.d) : ¬ tlt s.x.next s.first ∧ ¬ tlt s.y.next s.first ∧ ¬ tlt s.z.next s.first ∧ 0 < s.first.2 ∧ (s.first = s.x.next ∨ s.first = s.y.next ∨ s.first = s.z.next) := by
  unfold Ax3.first
  have h1 := sooner_spec s.x.next s.y hx hy
  have h2 := sooner_spec (sooner s.x.next s.y) s.z h1.2.2.1 hz
  refine ⟨tle_trans h2.2.2.1 h1.2.2.1 hx h2.1 h1.1, tle_trans h2.2.2.1 h1.2.2.1 hy h2.1 h1.2.1, h2.2.1, h2.2.2.1, ?_⟩
  rcases h2.2.2.2 with h | h
  · rcases h1.2.2.2 with h' | h'
    · rw [h, h']; exact Or.inl rfl
    · rw [h, h']; exact Or.inr (Or.inl rfl)
  · rw [h]; exact Or.inr (Or.inr rfl)
def Ax3.left (s : Ax3) (b : Pt) : Int := dif s.x.pos b.x + dif s.y.pos b.y + dif s.z.pos b.z
theorem first_lt {s : Ax3} {a b : Pt} (h : s.Ok a b) (hne : s.cell ≠ b) : s.first.1 < s.first.2 ∧ 0 < s.first.2 := by
  obtain ⟨hx, hy, hz⟩ := h
  have nx := hx.nums; have ny := hy.nums; have nz := hz.nums
  obtain ⟨h1, h2, h3, h4, _⟩ := first_spec s nx.1 ny.1 nz.1
  refine ⟨?_, h4⟩
  have key : ∀ x : Axis, 0 < x.d → x.n + 1 ≤ x.d → ¬ tlt x.next s.first → s.first.1 < s.first.2 := by
    intro x hd hn ht
    unfold tlt Axis.next at ht
    simp only [Int.not_lt] at ht
    have h5 : x.n * s.first.2 < x.d * s.first.2 := Int.mul_lt_mul_of_pos_right (by omega) h4
    have h6 : s.first.1 * x.d < s.first.2 * x.d := by rw [Int.mul_comm s.first.2]; omega
    exact Int.lt_of_mul_lt_mul_right h6 (by omega)
  by_cases e1 : s.x.pos = b.x
  · by_cases e2 : s.y.pos = b.y
    · by_cases e3 : s.z.pos = b.z
      · exact absurd (by unfold Ax3.cell; rw [e1, e2, e3]) hne
      · exact key s.z nz.1 (nz.2.2.2.1 e3) h3
    · exact key s.y ny.1 (ny.2.2.2.1 e2) h2
  · exact key s.x nx.1 (nx.2.2.2.1 e1) h1
theorem go_ok {s : Ax3} {a b : Pt} (h : s.Ok a b) (hne : s.cell ≠ b) : s.go.Ok a b ∧ s.go.left b < s.left b ∧ 0 ≤ s.go.left b := by
  obtain ⟨f1, f2⟩ := first_lt h hne
  obtain ⟨hx, hy, hz⟩ := h
  have nx := hx.nums; have ny := hy.nums; have nz := hz.nums
  obtain ⟨_, _, _, _, h5⟩ := first_spec s nx.1 ny.1 nz.1
  have ox := hx.over s.first f1 f2
  have oy := hy.over s.first f1 f2
  have oz := hz.over s.first f1 f2
  refine ⟨⟨ox.1, oy.1, oz.1⟩, ?_, ?_⟩
  · have key : ∀ {x : Axis} {c : Int}, ((¬ tlt s.first x.next → x.pos ≠ c ∧ (dif (x.over s.first).pos c) + 1 = dif x.pos c) ∧ (tlt s.first x.next → x.over s.first = x)) → dif (x.over s.first).pos c ≤ dif x.pos c := by
      intro x c hk
      by_cases ht : tlt s.first x.next
      · rw [hk.2 ht]; omega
      · have := hk.1 ht; omega
    have kx := key ox.2; have ky := key oy.2; have kz := key oz.2
    show dif (s.x.over s.first).pos b.x + dif (s.y.over s.first).pos b.y + dif (s.z.over s.first).pos b.z < dif s.x.pos b.x + dif s.y.pos b.y + dif s.z.pos b.z
    rcases h5 with h5 | h5 | h5
    · have := ox.2.1 (by rw [h5]; exact tlt_irrefl _); omega
    · have := oy.2.1 (by rw [h5]; exact tlt_irrefl _); omega
    · have := oz.2.1 (by rw [h5]; exact tlt_irrefl _); omega
  · show 0 ≤ dif _ _ + dif _ _ + dif _ _
    unfold dif; omega
/-- The walk from a state on. -/
def walkF : Nat → Ax3 → Pt → List Pt
  | 0, s, _ => [s.cell]
  | k + 1, s, b => if s.cell = b then [s.cell] else s.cell :: walkF k s.go b
def walkS (s : Ax3) (b : Pt) : List Pt := walkF (s.left b).toNat s b
def walk (a b : Pt) : List Pt := walkS (ax0 a b) b
theorem left_zero {s : Ax3} {b : Pt} (h : s.left b ≤ 0) : s.cell = b := by
  unfold Ax3.left dif at h
  unfold Ax3.cell
  cases b
  simp only [Pt.mk.injEq] at *
  omega
theorem walkF_more {a b : Pt} : ∀ (k m : Nat) (s : Ax3), s.Ok a b → s.left b ≤ k → s.left b ≤ m → walkF k s b = walkF m s b
  | 0, 0, _, _, _, _ => rfl
  | 0, m + 1, s, _, h1, _ => by
    have := left_zero (s := s) (b := b) (by omega)
    simp [walkF, this]
  | k + 1, 0, s, _, _, h2 => by
    have := left_zero (s := s) (b := b) (by omega)
    simp [walkF, this]
  | k + 1, m + 1, s, h, h1, h2 => by
    by_cases e : s.cell = b
    · simp [walkF, e]
    · have g := go_ok h e
      simp only [walkF, if_neg e]
      rw [walkF_more k m s.go g.1 (by omega) (by omega)]
theorem walkS_eq {a b : Pt} {s : Ax3} (h : s.Ok a b) : walkS s b = s.cell :: if s.cell = b then [] else walkS s.go b := by
  by_cases e : s.cell = b
  · rw [if_pos e]
    unfold walkS
    cases (s.left b).toNat <;> simp [walkF, e]
  · rw [if_neg e]
    have g := go_ok h e
    unfold walkS
    have : (s.left b).toNat = ((s.left b).toNat - 1) + 1 := by omega
    rw [this]
    simp only [walkF, if_neg e]
    rw [walkF_more _ (s.go.left b).toNat s.go g.1 (by omega) (by omega)]
theorem walkS_len {a b : Pt} : ∀ (k : Nat) (s : Ax3), s.Ok a b → s.left b ≤ k → ((walkS s b).length : Int) ≤ s.left b + 1
  | 0, s, h, h1 => by
    have e := left_zero (s := s) (b := b) (by omega)
    rw [walkS_eq h, if_pos e]
    have : 0 ≤ s.left b := by unfold Ax3.left dif; omega
    simp; omega
  | k + 1, s, h, h1 => by
    rw [walkS_eq h]
    have : 0 ≤ s.left b := by unfold Ax3.left dif; omega
    by_cases e : s.cell = b
    · rw [if_pos e]; simp; omega
    · rw [if_neg e]
      have g := go_ok h e
      have := walkS_len k s.go g.1 (by omega)
      simp only [List.length_cons]
      omega
theorem toward_pos (a b : Int) : (toward a b).pos = a := by
  unfold toward
  split
  · rfl
  · split <;> rfl
theorem ax0_left (a b : Pt) : (ax0 a b).left b = a.sum b := by
  unfold Ax3.left ax0 Pt.sum
  simp only [toward_pos]
theorem walk_len (a b : Pt) : ((walk a b).length : Int) ≤ a.sum b + 1 := by
  have := walkS_len ((ax0 a b).left b).toNat (ax0 a b) (ax0_ok a b) (by omega)
  rw [ax0_left] at this
  exact this
theorem tltb_iff {t u : Int × Int} : tltb t u = true ↔ tlt t u := by unfold tltb tlt; exact decide_eq_true_iff
theorem tltb_not {t u : Int × Int} : tltb t u = false ↔ ¬ tlt t u := by unfold tltb tlt; exact decide_eq_false_iff_not
theorem tltb_irrefl (t : Int × Int) : tltb t t = false := tltb_not.2 (tlt_irrefl t)
theorem AxOk.bd {x : Axis} {a b : Int} (h : AxOk x a b) (ha : -1048575 ≤ a ∧ a ≤ 1048575) (hb : -1048575 ≤ b ∧ b ≤ 1048575) : Tm30 x.next ∧ (-1048575 ≤ x.pos ∧ x.pos ≤ 1048575) ∧ (-1 ≤ x.step ∧ x.step ≤ 1) := by
  have := h.nums
  unfold dif at this
  unfold Tm30 Axis.next
  simp only
  omega
theorem sooner_bd {f : Int × Int} {x : Axis} (hf : Tm30 f) (hx : Tm30 x.next) : Tm30 (sooner f x) := by unfold sooner; split <;> assumption
/-- Over its next crossing. -/
def Axis.inc (x : Axis) : Axis := ⟨x.pos + x.step, x.step, x.n + 2, x.d⟩
theorem over_yes {f : Int × Int} {x : Axis} (h : tltb f x.next = true) : x.over f = x := by unfold Axis.over; rw [if_pos (tltb_iff.1 h)]
theorem over_no {f : Int × Int} {x : Axis} (h : tltb f x.next = false) : x.over f = x.inc := by unfold Axis.over; rw [if_neg (tltb_not.1 h)]; rfl
theorem sooner_yes {f : Int × Int} {x : Axis} (h : tltb x.next f = true) : sooner f x = x.next := by unfold sooner; rw [if_pos (tltb_iff.1 h)]
theorem sooner_no {f : Int × Int} {x : Axis} (h : tltb x.next f = false) : sooner f x = f := by unfold sooner; rw [if_neg (tltb_not.1 h)]
theorem drop_get {α : Type} {l r : List α} {c : α} {i : Nat} (h : l.drop i = c :: r) : l[i]? = some c ∧ l.drop (i + 1) = r := by
  refine ⟨?_, ?_⟩
  · have : (l.drop i)[0]? = some c := by rw [h]; rfl
    rwa [List.getElem?_drop, Nat.add_zero] at this
  · rw [← List.drop_drop, h]; rfl
theorem drop_last {α : Type} {l : List α} {c : α} {i : Nat} (h : l.drop i = [c]) : l.length = i + 1 := by
  have := congrArg List.length h
  rw [List.length_drop] at this
  simp at this
  omega
end Go.Proofs.Ytopdcdjmiepdfaa
namespace Go.Proofs.Ytopdcdjmiepdfaa
/-- Times of one scale: what a time is in parts of D. -/
def KeyOf (D : Int) (t : Int × Int) (x : Int) : Prop := ∃ k, 0 < k ∧ t.2 * k = D ∧ t.1 * k = x
theorem KeyOf.lt {D x y : Int} {t u : Int × Int} (hD : 0 < D) (ht : KeyOf D t x) (hu : KeyOf D u y) : tlt t u ↔ x < y := by
  obtain ⟨k, hk, h1, rfl⟩ := ht
  obtain ⟨m, hm, h2, rfl⟩ := hu
  unfold tlt
  have hkm : 0 < k * m := Int.mul_pos hk hm
  have e1 : t.1 * u.2 * (k * m) = D * (t.1 * k) := by rw [← h2]; simp only [Int.mul_comm, Int.mul_left_comm]
  have e2 : u.1 * t.2 * (k * m) = D * (u.1 * m) := by rw [← h1]; simp only [Int.mul_comm, Int.mul_left_comm]
  constructor
  · intro h
    have := Int.mul_lt_mul_of_pos_right h hkm
    rw [e1, e2] at this
    exact Int.lt_of_mul_lt_mul_left this (by omega)
  · intro h
    have := Int.mul_lt_mul_of_pos_left h hD
    rw [← e1, ← e2] at this
    exact Int.lt_of_mul_lt_mul_right this (by omega)
theorem KeyOf.ltb {D x y : Int} {t u : Int × Int} (hD : 0 < D) (ht : KeyOf D t x) (hu : KeyOf D u y) : tltb t u = decide (x < y) := by
  rw [Bool.eq_iff_iff, tltb_iff, ht.lt hD hu, decide_eq_true_iff]
theorem meet_keyA {D x y : Int} {u v : Btw} (hD : 0 < D) (hu : KeyOf D u.a x) (hv : KeyOf D v.a y) : KeyOf D (u.meet v).a (max x y) := by
  unfold Btw.meet
  simp only [hu.ltb hD hv, decide_eq_true_iff]
  split
  · rw [Int.max_eq_right (by omega)]; exact hv
  · rw [Int.max_eq_left (by omega)]; exact hu
theorem meet_keyB {D x y : Int} {u v : Btw} (hD : 0 < D) (hu : KeyOf D u.b x) (hv : KeyOf D v.b y) : KeyOf D (u.meet v).b (min x y) := by
  unfold Btw.meet
  simp only [hv.ltb hD hu, decide_eq_true_iff]
  split
  · rw [Int.min_eq_right (by omega)]; exact hv
  · rw [Int.min_eq_left (by omega)]; exact hu
/-- The denominators. -/
def den (a b : Int) : Int := if a = b then 1 else 2 * dif a b
theorem den_pos (a b : Int) : 0 < den a b := by unfold den dif; split <;> omega
theorem along_den (a b c : Int) : (alongT a b c).a.2 = den a b ∧ (alongT a b c).b.2 = den a b := by
  unfold alongT den dif
  by_cases h1 : 2 * (b - a) = 0
  · have hab : a = b := by omega
    rw [if_pos h1, if_pos hab]; exact ⟨rfl, rfl⟩
  · have hab : ¬ a = b := by omega
    rw [if_neg h1, if_neg hab]
    by_cases h2 : 2 * (b - a) < 0
    · rw [if_pos h2]; simp only; omega
    · rw [if_neg h2]; simp only; omega
def kD (a b : Pt) : Int := den a.x b.x * den a.y b.y * den a.z b.z
def kX (a b : Pt) : Int := den a.y b.y * den a.z b.z
def kY (a b : Pt) : Int := den a.x b.x * den a.z b.z
def kZ (a b : Pt) : Int := den a.x b.x * den a.y b.y
theorem k_facts (a b : Pt) : 0 < kD a b ∧ 0 < kX a b ∧ 0 < kY a b ∧ 0 < kZ a b ∧ den a.x b.x * kX a b = kD a b ∧ den a.y b.y * kY a b = kD a b ∧ den a.z b.z * kZ a b = kD a b := by
  have hx := den_pos a.x b.x; have hy := den_pos a.y b.y; have hz := den_pos a.z b.z
  unfold kD kX kY kZ
  refine ⟨Int.mul_pos (Int.mul_pos hx hy) hz, Int.mul_pos hy hz, Int.mul_pos hx hz, Int.mul_pos hx hy, ?_, ?_, ?_⟩ <;> simp only [Int.mul_assoc, Int.mul_comm, Int.mul_left_comm]
/-- When a cell is entered and left, axis by axis, in parts of the scale. -/
def eX (a b p : Pt) : Int := (alongT a.x b.x p.x).a.1 * kX a b
def eY (a b p : Pt) : Int := (alongT a.y b.y p.y).a.1 * kY a b
def eZ (a b p : Pt) : Int := (alongT a.z b.z p.z).a.1 * kZ a b
def lX (a b p : Pt) : Int := (alongT a.x b.x p.x).b.1 * kX a b
def lY (a b p : Pt) : Int := (alongT a.y b.y p.y).b.1 * kY a b
def lZ (a b p : Pt) : Int := (alongT a.z b.z p.z).b.1 * kZ a b
theorem keys (a b p : Pt) : KeyOf (kD a b) (alongT a.x b.x p.x).a (eX a b p) ∧ KeyOf (kD a b) (alongT a.y b.y p.y).a (eY a b p) ∧ KeyOf (kD a b) (alongT a.z b.z p.z).a (eZ a b p) ∧ KeyOf (kD a b) (alongT a.x b.x p.x).b (lX a b p) ∧ KeyOf (kD a b) (alongT a.y b.y p.y).b (lY a b p) ∧ KeyOf (kD a b) (alongT a.z b.z p.z).b (lZ a b p) := by
  obtain ⟨_, h1, h2, h3, e1, e2, e3⟩ := k_facts a b
  have dx := along_den a.x b.x p.x; have dy := along_den a.y b.y p.y; have dz := along_den a.z b.z p.z
  exact ⟨⟨_, h1, by rw [dx.1, e1], rfl⟩, ⟨_, h2, by rw [dy.1, e2], rfl⟩, ⟨_, h3, by rw [dz.1, e3], rfl⟩, ⟨_, h1, by rw [dx.2, e1], rfl⟩, ⟨_, h2, by rw [dy.2, e2], rfl⟩, ⟨_, h3, by rw [dz.2, e3], rfl⟩⟩
/-- When a cell is entered and left. -/
def ent (a b p : Pt) : Int := max (max (eX a b p) (eY a b p)) (eZ a b p)
def lev (a b p : Pt) : Int := min (min (lX a b p) (lY a b p)) (lZ a b p)
theorem inside_keyA (a b p : Pt) : KeyOf (kD a b) (insideT a b p).a (ent a b p) := by
  obtain ⟨h1, h2, h3, _⟩ := keys a b p
  have hD := (k_facts a b).1
  exact meet_keyA hD (meet_keyA hD h1 h2) h3
theorem inside_keyB (a b p : Pt) : KeyOf (kD a b) (insideT a b p).b (lev a b p) := by
  obtain ⟨_, _, _, h1, h2, h3⟩ := keys a b p
  have hD := (k_facts a b).1
  exact meet_keyB hD (meet_keyB hD h1 h2) h3
theorem key_one (a b : Pt) : KeyOf (kD a b) (1, 1) (kD a b) := ⟨kD a b, (k_facts a b).1, by simp, by simp⟩
theorem key_zero (a b : Pt) : KeyOf (kD a b) (0, 1) 0 := ⟨kD a b, (k_facts a b).1, by simp, by simp⟩
/-- On the axes that do not move. -/
def still (a b p : Pt) : Prop := (a.x = b.x → a.x = p.x) ∧ (a.y = b.y → a.y = p.y) ∧ (a.z = b.z → a.z = p.z)
theorem ok_iff (a b p : Pt) : (insideT a b p).ok = true ↔ still a b p ∧ ent a b p < lev a b p ∧ ent a b p < kD a b ∧ 0 < lev a b p := by
  have hD := (k_facts a b).1
  have h1 : (insideT a b p).ok = ((alongT a.x b.x p.x).ok && (alongT a.y b.y p.y).ok && (alongT a.z b.z p.z).ok && tltb (insideT a b p).a (insideT a b p).b && tltb (insideT a b p).a (1, 1) && tltb (0, 1) (insideT a b p).b) := rfl
  rw [h1, (inside_keyA a b p).ltb hD (inside_keyB a b p), (inside_keyA a b p).ltb hD (key_one a b), (key_zero a b).ltb hD (inside_keyB a b p), along_ok, along_ok, along_ok]
  simp only [Bool.and_eq_true, Bool.not_eq_true', decide_eq_false_iff_not, decide_eq_true_iff]
  unfold crossOff still
  constructor
  · rintro ⟨⟨⟨⟨⟨g1, g2⟩, g3⟩, g4⟩, g5⟩, g6⟩
    exact ⟨⟨by omega, by omega, by omega⟩, g4, g5, g6⟩
  · rintro ⟨⟨g1, g2, g3⟩, g4, g5, g6⟩
    exact ⟨⟨⟨⟨⟨by omega, by omega⟩, by omega⟩, g4⟩, g5⟩, g6⟩
/-- p is entered before q. -/
def bef (a b p q : Pt) : Prop := tlt (insideT a b p).a (insideT a b q).a
theorem bef_iff (a b p q : Pt) : bef a b p q ↔ ent a b p < ent a b q := (inside_keyA a b p).lt (k_facts a b).1 (inside_keyA a b q)
def inB (a b p : Pt) : Prop := (min a.x b.x ≤ p.x ∧ p.x ≤ max a.x b.x) ∧ (min a.y b.y ≤ p.y ∧ p.y ≤ max a.y b.y) ∧ (min a.z b.z ≤ p.z ∧ p.z ≤ max a.z b.z)
theorem along_eq {a b c c' k : Int} (hk : 0 < k) (h0 : a = b → c = c') (h1 : (alongT a b c).a.1 * k < (alongT a b c').b.1 * k) (h2 : (alongT a b c').a.1 * k < (alongT a b c).b.1 * k) : c = c' := by
  replace h1 := Int.lt_of_mul_lt_mul_right h1 (by omega)
  replace h2 := Int.lt_of_mul_lt_mul_right h2 (by omega)
  unfold alongT at h1 h2
  by_cases g1 : 2 * (b - a) = 0
  · exact h0 (by omega)
  · rw [if_neg g1, if_neg g1] at h1 h2
    by_cases g2 : 2 * (b - a) < 0
    · rw [if_pos g2, if_pos g2] at h1 h2; simp only at h1 h2; omega
    · rw [if_neg g2, if_neg g2] at h1 h2; simp only at h1 h2; omega
/-- Two cells that the segment is in at the same time are the same. -/
theorem cell_eq {a b p q : Pt} {t : Int} (hp : still a b p) (hq : still a b q) (h1 : ent a b p ≤ t) (h2 : t < lev a b p) (h3 : ent a b q ≤ t) (h4 : t < lev a b q) : p = q := by
  obtain ⟨_, kx, ky, kz, _⟩ := k_facts a b
  unfold ent lev at *
  have ex : p.x = q.x := along_eq (a := a.x) (b := b.x) kx (fun h => by rw [← hp.1 h, ← hq.1 h]) (by show eX a b p < lX a b q; omega) (by show eX a b q < lX a b p; omega)
  have ey : p.y = q.y := along_eq (a := a.y) (b := b.y) ky (fun h => by rw [← hp.2.1 h, ← hq.2.1 h]) (by show eY a b p < lY a b q; omega) (by show eY a b q < lY a b p; omega)
  have ez : p.z = q.z := along_eq (a := a.z) (b := b.z) kz (fun h => by rw [← hp.2.2 h, ← hq.2.2 h]) (by show eZ a b p < lZ a b q; omega) (by show eZ a b q < lZ a b p; omega)
  cases p; cases q
  simp only at ex ey ez
  rw [ex, ey, ez]
theorem ent_inj {a b p q : Pt} (hp : (insideT a b p).ok = true) (hq : (insideT a b q).ok = true) (h : ent a b p = ent a b q) : p = q := by
  rw [ok_iff] at hp hq
  exact cell_eq hp.1 hq.1 (Int.le_refl _) hp.2.1 (by omega) (by rw [h]; exact hq.2.1)
/-- The times of a state. -/
theorem axis_times {x : Axis} {a b : Int} (h : AxOk x a b) : (alongT a b x.pos).b = x.next ∧ (a ≠ b → (alongT a b x.pos).a.1 = x.n - 2 ∧ (alongT a b (x.pos + x.step)).a.1 = x.n ∧ (alongT a b (x.pos + x.step)).b.1 = x.n + 2) ∧ (a = b → x.pos = a ∧ x.step = 0) ∧ x.d = den a b := by
  unfold Axis.next den dif
  rcases h with ⟨h1, rfl⟩ | ⟨j, hj, ⟨h1, h2, rfl⟩ | ⟨h1, h2, rfl⟩⟩
  · refine ⟨?_, fun h => absurd h1 h, fun _ => ⟨rfl, rfl⟩, by rw [if_pos h1]⟩
    unfold alongT; rw [if_pos (by omega)]
  · refine ⟨?_, fun _ => ⟨?_, ?_, ?_⟩, fun h => by omega, ?_⟩
    · unfold alongT; rw [if_neg (by omega), if_neg (by omega)]; simp only [Prod.mk.injEq]; exact ⟨by omega, trivial⟩
    · unfold alongT; rw [if_neg (by omega), if_neg (by omega)]; simp only; omega
    · unfold alongT; rw [if_neg (by omega), if_neg (by omega)]; simp only; omega
    · unfold alongT; rw [if_neg (by omega), if_neg (by omega)]; simp only; omega
    · rw [if_neg (by omega)]; simp only; omega
  · refine ⟨?_, fun _ => ⟨?_, ?_, ?_⟩, fun h => by omega, ?_⟩
    · unfold alongT; rw [if_neg (by omega), if_pos (by omega)]; simp only [Prod.mk.injEq]; omega
    · unfold alongT; rw [if_neg (by omega), if_pos (by omega)]; simp only; omega
    · unfold alongT; rw [if_neg (by omega), if_pos (by omega)]; simp only; omega
    · unfold alongT; rw [if_neg (by omega), if_pos (by omega)]; simp only; omega
    · rw [if_neg (by omega)]; simp only; omega
theorem sooner_key {D x y : Int} {f : Int × Int} {ax : Axis} (hD : 0 < D) (hf : KeyOf D f x) (ha : KeyOf D ax.next y) : KeyOf D (sooner f ax) (min x y) := by
  unfold sooner
  by_cases h : tlt ax.next f
  · rw [if_pos h, Int.min_eq_right (by have := (ha.lt hD hf).1 h; omega)]; exact ha
  · rw [if_neg h, Int.min_eq_left (by have h2 : ¬ y < x := fun g => h ((ha.lt hD hf).2 g); omega)]; exact hf
/-- The first crossing is when the cell is left. -/
theorem first_key {s : Ax3} {a b : Pt} (h : s.Ok a b) : KeyOf (kD a b) s.first (lev a b s.cell) ∧ KeyOf (kD a b) s.x.next (lX a b s.cell) ∧ KeyOf (kD a b) s.y.next (lY a b s.cell) ∧ KeyOf (kD a b) s.z.next (lZ a b s.cell) := by
  obtain ⟨hx, hy, hz⟩ := h
  have tx := (axis_times hx).1; have ty := (axis_times hy).1; have tz := (axis_times hz).1
  have hD := (k_facts a b).1
  obtain ⟨_, _, _, h1, h2, h3⟩ := keys a b s.cell
  have g1 : KeyOf (kD a b) s.x.next (lX a b s.cell) := tx ▸ h1
  have g2 : KeyOf (kD a b) s.y.next (lY a b s.cell) := ty ▸ h2
  have g3 : KeyOf (kD a b) s.z.next (lZ a b s.cell) := tz ▸ h3
  exact ⟨sooner_key hD (sooner_key hD g1 g2) g3, g1, g2, g3⟩
/-- One axis of a step: not crossed, it stays; crossed, it is entered at the first time and left behind it. -/
theorem over_axis {x : Axis} {a b k D L F : Int} {f : Int × Int} (hk : 0 < k) (hdk : den a b * k = D) (h : AxOk x a b) (hF : KeyOf D f F) (hD : 0 < D) (hne : a = b → F < D) (hL : KeyOf D x.next L) (hLe : L = (alongT a b x.pos).b.1 * k) (hfl : F ≤ L) :
    (F < L ∧ x.over f = x) ∨ (F = L ∧ (alongT a b (x.over f).pos).a.1 * k = F ∧ F < (alongT a b (x.over f).pos).b.1 * k) := by
  by_cases ht : tlt f x.next
  · left
    exact ⟨(hF.lt hD hL).1 ht, by unfold Axis.over; rw [if_pos ht]⟩
  · right
    have hle : ¬ F < L := fun hlt => ht ((hF.lt hD hL).2 hlt)
    have e : F = L := by omega
    have hov : (x.over f).pos = x.pos + x.step := by unfold Axis.over; rw [if_neg ht]
    have at_ := axis_times h
    have hne' : a ≠ b := by
      intro hab
      have h1 := hne hab
      have h2 : L = x.n * k := by rw [hLe, at_.1]; rfl
      have h3 : D = k := by rw [← hdk]; unfold den; rw [if_pos hab]; omega
      rcases h with ⟨_, rfl⟩ | ⟨j, hj, ⟨g1, _, _⟩ | ⟨g1, _, _⟩⟩
      · simp only at h2; omega
      · omega
      · omega
    obtain ⟨_, b2, b3⟩ := at_.2.1 hne'
    have hLn : L = x.n * k := by rw [hLe, at_.1]; rfl
    refine ⟨e, ?_, ?_⟩
    · rw [hov, b2]; omega
    · rw [hov, b3, Int.add_mul]; omega
theorem go_times {s : Ax3} {a b : Pt} (h : s.Ok a b) (hne : s.cell ≠ b) (hok : ent a b s.cell < lev a b s.cell) (_hstill : still a b s.cell) :
    ent a b s.go.cell = lev a b s.cell ∧ lev a b s.cell < lev a b s.go.cell ∧ still a b s.go.cell ∧ lev a b s.cell < kD a b := by
  obtain ⟨hD, kx, ky, kz, ex, ey, ez⟩ := k_facts a b
  obtain ⟨f1, n1, n2, n3⟩ := first_key h
  have hlt := first_lt h hne
  have hF1 : lev a b s.cell < kD a b := by
    refine (f1.lt hD (key_one a b)).1 ?_
    unfold tlt; simp only; omega
  obtain ⟨hx, hy, hz⟩ := h
  have hlev : lev a b s.cell = min (min (lX a b s.cell) (lY a b s.cell)) (lZ a b s.cell) := rfl
  have ox := over_axis kx ex hx f1 hD (fun _ => hF1) n1 rfl (by omega)
  have oy := over_axis ky ey hy f1 hD (fun _ => hF1) n2 rfl (by omega)
  have oz := over_axis kz ez hz f1 hD (fun _ => hF1) n3 rfl (by omega)
  have hent : ent a b s.cell = max (max (eX a b s.cell) (eY a b s.cell)) (eZ a b s.cell) := rfl
  have hent' : ent a b s.go.cell = max (max (eX a b s.go.cell) (eY a b s.go.cell)) (eZ a b s.go.cell) := rfl
  have hlev' : lev a b s.go.cell = min (min (lX a b s.go.cell) (lY a b s.go.cell)) (lZ a b s.go.cell) := rfl
  have rx : (lev a b s.cell < lX a b s.cell ∧ eX a b s.go.cell = eX a b s.cell ∧ lX a b s.go.cell = lX a b s.cell) ∨ (lev a b s.cell = lX a b s.cell ∧ eX a b s.go.cell = lev a b s.cell ∧ lev a b s.cell < lX a b s.go.cell) := by
    rcases ox with ⟨h1, h2⟩ | ⟨h1, h2, h3⟩
    · left; exact ⟨h1, by unfold eX Ax3.cell Ax3.go; simp only [h2], by unfold lX Ax3.cell Ax3.go; simp only [h2]⟩
    · right; exact ⟨h1, h2, h3⟩
  have ry : (lev a b s.cell < lY a b s.cell ∧ eY a b s.go.cell = eY a b s.cell ∧ lY a b s.go.cell = lY a b s.cell) ∨ (lev a b s.cell = lY a b s.cell ∧ eY a b s.go.cell = lev a b s.cell ∧ lev a b s.cell < lY a b s.go.cell) := by
    rcases oy with ⟨h1, h2⟩ | ⟨h1, h2, h3⟩
    · left; exact ⟨h1, by unfold eY Ax3.cell Ax3.go; simp only [h2], by unfold lY Ax3.cell Ax3.go; simp only [h2]⟩
    · right; exact ⟨h1, h2, h3⟩
  have rz : (lev a b s.cell < lZ a b s.cell ∧ eZ a b s.go.cell = eZ a b s.cell ∧ lZ a b s.go.cell = lZ a b s.cell) ∨ (lev a b s.cell = lZ a b s.cell ∧ eZ a b s.go.cell = lev a b s.cell ∧ lev a b s.cell < lZ a b s.go.cell) := by
    rcases oz with ⟨h1, h2⟩ | ⟨h1, h2, h3⟩
    · left; exact ⟨h1, by unfold eZ Ax3.cell Ax3.go; simp only [h2], by unfold lZ Ax3.cell Ax3.go; simp only [h2]⟩
    · right; exact ⟨h1, h2, h3⟩
  have hgo := (go_ok ⟨hx, hy, hz⟩ hne).1
  refine ⟨by omega, by omega, ⟨fun e => ((axis_times hgo.1).2.2.1 e).1.symm, fun e => ((axis_times hgo.2.1).2.2.1 e).1.symm, fun e => ((axis_times hgo.2.2).2.2.1 e).1.symm⟩, hF1⟩
theorem state_box {s : Ax3} {a b : Pt} (h : s.Ok a b) : inB a b s.cell := by
  obtain ⟨hx, hy, hz⟩ := h
  exact ⟨hx.nums.2.2.2.2.2.2.2, hy.nums.2.2.2.2.2.2.2, hz.nums.2.2.2.2.2.2.2⟩
theorem lev_pos {s : Ax3} {a b : Pt} (h : s.Ok a b) : 0 < lev a b s.cell := by
  obtain ⟨f1, n1, n2, n3⟩ := first_key h
  obtain ⟨hD, _⟩ := k_facts a b
  obtain ⟨hx, hy, hz⟩ := h
  have key : ∀ {x : Axis} {c d L : Int}, AxOk x c d → KeyOf (kD a b) x.next L → 0 < L := by
    intro x c d L hx hL
    obtain ⟨k, hk, _, rfl⟩ := hL
    exact Int.mul_pos (by have := hx.nums; show 0 < x.n; omega) hk
  have := key hx n1; have := key hy n2; have := key hz n3
  unfold lev; omega
theorem last_lev {s : Ax3} {a b : Pt} (h : s.Ok a b) (he : s.cell = b) : kD a b < lev a b s.cell := by
  obtain ⟨f1, n1, n2, n3⟩ := first_key h
  obtain ⟨hD, _⟩ := k_facts a b
  obtain ⟨hx, hy, hz⟩ := h
  have key : ∀ {x : Axis} {c d L : Int}, AxOk x c d → x.pos = d → KeyOf (kD a b) x.next L → kD a b < L := by
    intro x c d L hx hp hL
    refine ((key_one a b).lt hD hL).1 ?_
    have := hx.nums.2.2.1.1 hp
    unfold tlt Axis.next
    simp only; omega
  have := key hx (by rw [← he]; rfl) n1; have := key hy (by rw [← he]; rfl) n2; have := key hz (by rw [← he]; rfl) n3
  unfold lev; omega
/-- From a state on: all cells are crossed, in the box, in order, not ahead of the state's; and every crossed cell of the box that is not entered earlier is among them. -/
theorem walkS_spec {a b : Pt} : ∀ (n : Nat) (s : Ax3), s.Ok a b → s.left b ≤ n → (insideT a b s.cell).ok = true →
    (∀ q ∈ walkS s b, (insideT a b q).ok = true ∧ inB a b q ∧ ent a b s.cell ≤ ent a b q) ∧ (walkS s b).Pairwise (bef a b) ∧ (∀ q, (insideT a b q).ok = true → ent a b s.cell ≤ ent a b q → q ∈ walkS s b) := by
  intro n
  induction n with
  | zero =>
    intro s h hn hok
    have he := left_zero (s := s) (b := b) (by omega)
    rw [walkS_eq h, if_pos he]
    refine ⟨fun q hq => ?_, List.pairwise_singleton _ _, fun q hq hle => ?_⟩
    · rw [List.mem_singleton] at hq; rw [hq]; exact ⟨hok, state_box h, Int.le_refl _⟩
    · rw [List.mem_singleton]
      have h1 := (ok_iff a b q).1 hq
      have h2 := (ok_iff a b s.cell).1 hok
      exact cell_eq h1.1 h2.1 (Int.le_refl _) h1.2.1 hle (by have := last_lev h he; omega)
  | succ n ih =>
    intro s h hn hok
    have h2 := (ok_iff a b s.cell).1 hok
    by_cases he : s.cell = b
    · rw [walkS_eq h, if_pos he]
      refine ⟨fun q hq => ?_, List.pairwise_singleton _ _, fun q hq hle => ?_⟩
      · rw [List.mem_singleton] at hq; rw [hq]; exact ⟨hok, state_box h, Int.le_refl _⟩
      · rw [List.mem_singleton]
        have h1 := (ok_iff a b q).1 hq
        exact cell_eq h1.1 h2.1 (Int.le_refl _) h1.2.1 hle (by have := last_lev h he; omega)
    · have hg := go_ok h he
      obtain ⟨t1, t2, t3, t4⟩ := go_times h he h2.2.1 h2.1
      have hok' : (insideT a b s.go.cell).ok = true := (ok_iff a b s.go.cell).2 ⟨t3, by omega, by omega, by have := lev_pos h; omega⟩
      obtain ⟨i1, i2, i3⟩ := ih s.go hg.1 (by omega) hok'
      rw [walkS_eq h, if_neg he]
      refine ⟨fun q hq => ?_, List.pairwise_cons.2 ⟨fun q hq => ?_, i2⟩, fun q hq hle => ?_⟩
      · rcases List.mem_cons.1 hq with rfl | hq
        · exact ⟨hok, state_box h, Int.le_refl _⟩
        · have := i1 q hq
          exact ⟨this.1, this.2.1, by omega⟩
      · rw [bef_iff]
        have := (i1 q hq).2.2
        omega
      · rw [List.mem_cons]
        by_cases hlt : ent a b q < lev a b s.cell
        · left
          have h1 := (ok_iff a b q).1 hq
          exact cell_eq h1.1 h2.1 (Int.le_refl _) h1.2.1 hle hlt
        · right
          exact i3 q hq (by omega)
/-- Two lists in the same strict order with the same members are the same. -/
theorem sorted_unique {α : Type} {R : α → α → Prop} (hirr : ∀ x, ¬ R x x) (hasy : ∀ x y, R x y → ¬ R y x) : ∀ (l m : List α), l.Pairwise R → m.Pairwise R → (∀ x, x ∈ l ↔ x ∈ m) → l = m
  | [], [], _, _, _ => rfl
  | [], y :: m, _, _, h => absurd ((h y).2 List.mem_cons_self) (by simp)
  | x :: l, [], _, _, h => absurd ((h x).1 List.mem_cons_self) (by simp)
  | x :: l, y :: m, hl, hm, h => by
    have hl' := List.pairwise_cons.1 hl
    have hm' := List.pairwise_cons.1 hm
    have hxy : x = y := by
      rcases List.mem_cons.1 ((h x).1 List.mem_cons_self) with e | e
      · exact e
      · rcases List.mem_cons.1 ((h y).2 List.mem_cons_self) with e2 | e2
        · exact e2.symm
        · exact absurd (hm'.1 x e) (hasy _ _ (hl'.1 y e2))
    subst hxy
    rw [sorted_unique hirr hasy l m hl'.2 hm'.2 fun z => ?_]
    constructor
    · intro hz
      rcases List.mem_cons.1 ((h z).1 (List.mem_cons_of_mem _ hz)) with e | e
      · subst e; exact absurd (hl'.1 _ hz) (hirr _)
      · exact e
    · intro hz
      rcases List.mem_cons.1 ((h z).2 (List.mem_cons_of_mem _ hz)) with e | e
      · subst e; exact absurd (hm'.1 _ hz) (hirr _)
      · exact e
theorem bef_unique {a b : Pt} {l m : List Pt} (hl : l.Pairwise (bef a b)) (hm : m.Pairwise (bef a b)) (h : ∀ x, x ∈ l ↔ x ∈ m) : l = m :=
  sorted_unique (fun x hx => by rw [bef_iff] at hx; omega) (fun x y h1 h2 => by rw [bef_iff] at h1 h2; omega) l m hl hm h
theorem ax0_cell (a b : Pt) : (ax0 a b).cell = a := by
  unfold Ax3.cell ax0
  simp only [toward_pos]
/-- At the start: entered before zero, and not later than any cell of the box. -/
theorem along_start {a b c k : Int} (hk : 0 < k) (hc : min a b ≤ c ∧ c ≤ max a b) : (alongT a b a).a.1 * k ≤ (alongT a b c).a.1 * k ∧ (alongT a b a).a.1 * k < 0 ∧ 0 < (alongT a b a).b.1 * k := by
  have key : (alongT a b a).a.1 ≤ (alongT a b c).a.1 ∧ (alongT a b a).a.1 < 0 ∧ 0 < (alongT a b a).b.1 := by
    unfold alongT
    by_cases g1 : 2 * (b - a) = 0
    · simp only [if_pos g1]; omega
    · simp only [if_neg g1]
      by_cases g2 : 2 * (b - a) < 0
      · simp only [if_pos g2]; omega
      · simp only [if_neg g2]; omega
  refine ⟨Int.mul_le_mul_of_nonneg_right key.1 (by omega), ?_, Int.mul_pos key.2.2 hk⟩
  exact Int.mul_neg_of_neg_of_pos key.2.1 hk
theorem start_ok (a b : Pt) : (insideT a b a).ok = true ∧ ∀ q, inB a b q → ent a b a ≤ ent a b q := by
  obtain ⟨hD, kx, ky, kz, _⟩ := k_facts a b
  have hb : ∀ q, inB a b q → (eX a b a ≤ eX a b q ∧ eY a b a ≤ eY a b q ∧ eZ a b a ≤ eZ a b q) ∧ (eX a b a < 0 ∧ eY a b a < 0 ∧ eZ a b a < 0) ∧ (0 < lX a b a ∧ 0 < lY a b a ∧ 0 < lZ a b a) := by
    intro q hq
    have h1 := along_start (a := a.x) (b := b.x) kx hq.1
    have h2 := along_start (a := a.y) (b := b.y) ky hq.2.1
    have h3 := along_start (a := a.z) (b := b.z) kz hq.2.2
    exact ⟨⟨h1.1, h2.1, h3.1⟩, ⟨h1.2.1, h2.2.1, h3.2.1⟩, ⟨h1.2.2, h2.2.2, h3.2.2⟩⟩
  refine ⟨?_, fun q hq => ?_⟩
  · have := hb a (by unfold inB; omega)
    rw [ok_iff]
    refine ⟨⟨fun _ => rfl, fun _ => rfl, fun _ => rfl⟩, ?_, ?_, ?_⟩ <;> simp only [ent, lev] <;> omega
  · have := hb q hq
    unfold ent; omega
/-- The walk: the crossed cells of the box, in the order in which they are entered. -/
theorem walk_spec (a b : Pt) : (walk a b).Pairwise (bef a b) ∧ ∀ q, q ∈ walk a b ↔ (insideT a b q).ok = true ∧ inB a b q := by
  have hs := walkS_spec ((ax0 a b).left b).toNat (ax0 a b) (ax0_ok a b) (by omega) (by rw [ax0_cell]; exact (start_ok a b).1)
  refine ⟨hs.2.1, fun q => ⟨fun hq => ⟨(hs.1 q hq).1, (hs.1 q hq).2.1⟩, fun ⟨h1, h2⟩ => hs.2.2 q h1 ?_⟩⟩
  rw [ax0_cell]
  exact (start_ok a b).2 q h2
end Go.Proofs.Ytopdcdjmiepdfaa
namespace Go.Proofs.Ytopdcdjmiepdfaa
/-- Ahead of x, y, z in the order of the loops. -/
def Lex (x y z : Int) (p : Pt) : Prop := p.x < x ∨ (p.x = x ∧ (p.y < y ∨ (p.y = y ∧ p.z < z)))
structure OutOk (a b : Pt) (x y z : Int) (out : List Pt) : Prop where
  srt : out.Pairwise (bef a b)
  mem : ∀ p, p ∈ out ↔ (insideT a b p).ok = true ∧ inB a b p ∧ Lex x y z p
theorem OutOk.start (a b : Pt) : OutOk a b (min a.x b.x) (min a.y b.y) (min a.z b.z) [] := by
  refine ⟨List.Pairwise.nil, fun p => ⟨fun h => (by cases h), fun h => ?_⟩⟩
  obtain ⟨_, h1, h2⟩ := h
  unfold inB at h1
  unfold Lex at h2
  omega
theorem OutOk.skip {a b : Pt} {x y z : Int} {out : List Pt} (h : OutOk a b x y z out) (hno : (insideT a b ⟨x, y, z⟩).ok = false) : OutOk a b x y (z + 1) out := by
  refine ⟨h.srt, fun p => ?_⟩
  rw [h.mem]
  constructor
  · rintro ⟨h1, h2, h3⟩
    exact ⟨h1, h2, by unfold Lex at *; omega⟩
  · rintro ⟨h1, h2, h3⟩
    refine ⟨h1, h2, ?_⟩
    by_cases e : p = ⟨x, y, z⟩
    · rw [e, hno] at h1; cases h1
    · unfold Lex at *
      cases p
      simp only [Pt.mk.injEq] at *
      omega
theorem OutOk.ins {a b : Pt} {x y z : Int} {out : List Pt} (h : OutOk a b x y z out) (hok : (insideT a b ⟨x, y, z⟩).ok = true) (hB : inB a b ⟨x, y, z⟩) {k : Nat} (hk : k ≤ out.length) (h1 : ∀ q ∈ out.drop k, bef a b ⟨x, y, z⟩ q)
    (h2 : k = 0 ∨ ∃ q, out[k - 1]? = some q ∧ ¬ bef a b ⟨x, y, z⟩ q) : OutOk a b x y (z + 1) (out.take k ++ [⟨x, y, z⟩] ++ out.drop k) := by
  have hnew : ∀ q ∈ out, q ≠ ⟨x, y, z⟩ := fun q hq e => by
    have := ((h.mem q).1 hq).2.2
    rw [e] at this
    unfold Lex at this
    simp only at this
    omega
  have hle : ∀ q ∈ out.take k, bef a b q ⟨x, y, z⟩ := by
    intro q hq
    have hqo : q ∈ out := List.mem_of_mem_take hq
    rcases h2 with h2 | ⟨r, hr, hnb⟩
    · subst h2; simp at hq
    · have hne : ent a b q ≠ ent a b ⟨x, y, z⟩ := fun e => hnew q hqo (ent_inj ((h.mem q).1 hqo).1 hok e)
      rw [bef_iff] at hnb ⊢
      obtain ⟨i, hi, rfl⟩ := List.getElem_of_mem hq
      rw [List.length_take] at hi
      obtain ⟨hkl, rfl⟩ := List.getElem?_eq_some_iff.1 hr
      rw [List.getElem_take] at hne ⊢
      have hqr : ent a b out[i] ≤ ent a b out[k - 1] := by
        by_cases e : i = k - 1
        · subst e; omega
        · have := List.pairwise_iff_getElem.1 h.srt i (k - 1) (by omega) (by omega) (by omega)
          rw [bef_iff] at this
          omega
      omega
  have hsplit := h.srt
  rw [← List.take_append_drop k out] at hsplit
  obtain ⟨s1, s2, s3⟩ := List.pairwise_append.1 hsplit
  refine ⟨?_, fun p => ?_⟩
  · rw [List.append_assoc]
    refine List.pairwise_append.2 ⟨s1, List.pairwise_cons.2 ⟨h1, s2⟩, fun q hq r hr => ?_⟩
    rcases List.mem_cons.1 hr with rfl | hr
    · exact hle q hq
    · exact s3 q hq r hr
  · have hm : p ∈ out.take k ++ [⟨x, y, z⟩] ++ out.drop k ↔ p = ⟨x, y, z⟩ ∨ p ∈ out := by
      have e : p ∈ out ↔ p ∈ out.take k ∨ p ∈ out.drop k := by rw [← List.mem_append, List.take_append_drop]
      rw [e]
      simp only [List.mem_append, List.mem_singleton]
      constructor
      · rintro ((h | h) | h)
        · exact Or.inr (Or.inl h)
        · exact Or.inl h
        · exact Or.inr (Or.inr h)
      · rintro (h | h | h)
        · exact Or.inl (Or.inr h)
        · exact Or.inl (Or.inl h)
        · exact Or.inr h
    rw [hm, h.mem]
    constructor
    · rintro (rfl | ⟨g1, g2, g3⟩)
      · exact ⟨hok, hB, by unfold Lex; exact Or.inr ⟨rfl, Or.inr ⟨rfl, by show z < z + 1; omega⟩⟩⟩
      · exact ⟨g1, g2, by revert g3; unfold Lex; intro g3; omega⟩
    · rintro ⟨g1, g2, g3⟩
      by_cases e : p = ⟨x, y, z⟩
      · exact Or.inl e
      · refine Or.inr ⟨g1, g2, ?_⟩
        unfold Lex at *
        cases p
        simp only [Pt.mk.injEq] at *
        omega
theorem OutOk.nextY {a b : Pt} {x y z : Int} {out : List Pt} (h : OutOk a b x y z out) (hz : max a.z b.z < z) : OutOk a b x (y + 1) (min a.z b.z) out := by
  refine ⟨h.srt, fun p => ?_⟩
  rw [h.mem]
  constructor
  · rintro ⟨h1, h2, h3⟩; exact ⟨h1, h2, by unfold Lex inB at *; omega⟩
  · rintro ⟨h1, h2, h3⟩; exact ⟨h1, h2, by unfold Lex inB at *; omega⟩
theorem OutOk.nextX {a b : Pt} {x y : Int} {out : List Pt} (h : OutOk a b x y (min a.z b.z) out) (hy : max a.y b.y < y) : OutOk a b (x + 1) (min a.y b.y) (min a.z b.z) out := by
  refine ⟨h.srt, fun p => ?_⟩
  rw [h.mem]
  constructor
  · rintro ⟨h1, h2, h3⟩; exact ⟨h1, h2, by unfold Lex inB at *; omega⟩
  · rintro ⟨h1, h2, h3⟩; exact ⟨h1, h2, by unfold Lex inB at *; omega⟩
theorem OutOk.done {a b : Pt} {x : Int} {out : List Pt} (h : OutOk a b x (min a.y b.y) (min a.z b.z) out) (hx : max a.x b.x < x) : out = walk a b := by
  obtain ⟨w1, w2⟩ := walk_spec a b
  refine bef_unique h.srt w1 fun p => ?_
  rw [h.mem, w2]
  constructor
  · rintro ⟨h1, h2, _⟩; exact ⟨h1, h2⟩
  · rintro ⟨h1, h2⟩; exact ⟨h1, h2, by unfold Lex inB at *; omega⟩
theorem rng_box {a b p : Pt} (ha : a.rng) (hb : b.rng) (h : inB a b p) : p.rng := by unfold Pt.rng inB at *; omega
theorem ins_len {k : Nat} {out : List Pt} (p : Pt) (hk : k ≤ out.length) : (out.take k ++ [p] ++ out.drop k).length = out.length + 1 := by simp; omega
theorem drop_all {out : List Pt} {P : Pt → Prop} {k : Nat} {q : Pt} (hk : 0 < k) (hq : out[k - 1]? = some q) (h : ∀ r ∈ out.drop k, P r) (h1 : P q) : ∀ r ∈ out.drop (k - 1), P r := by
  intro r hr
  obtain ⟨hl, rfl⟩ := List.getElem?_eq_some_iff.1 hq
  rw [List.drop_eq_getElem_cons hl] at hr
  rcases List.mem_cons.1 hr with rfl | hr
  · exact h1
  · rw [show k - 1 + 1 = k by omega] at hr; exact h r hr
end Go.Proofs.Ytopdcdjmiepdfaa
namespace Go.Proofs.Ytopdcdjmiepdfaa
structure Mat where
  nm : List UInt8
  solid : Bool
  liquid : Bool
  falling : Bool
  fade : Int
  e1 : Int
  e2 : Int
  e3 : Int
def Mat.none : Mat := ⟨[], false, false, false, 16, 0, 0, 0⟩
def matAt (T : List Mat) (c : Int) : Mat := if c < 0 ∨ (T.length : Int) ≤ c then .none else T.getD c.toNat .none
structure Gr where
  box : Bx
  cells : List Int
def Gr.get (g : Gr) (p : Pt) : Int := if g.box.idx p < 0 then 0 else g.cells.getD (g.box.idx p).toNat 0
def Bx.rng (b : Bx) : Prop := b.mn.rng ∧ b.mx.rng
instance (b : Bx) : Decidable b.rng := by unfold Bx.rng; infer_instance
def bx0 : Bx := ⟨p0, p0⟩
def Gr.Valid (g : Gr) : Prop := g.box.rng ∧ ¬ ((g.box.vol = 0 ∧ g.box ≠ bx0) ∨ 2097152 < g.box.vol ∨ (g.cells.length : Int) ≠ g.box.vol) ∧ ∀ c ∈ g.cells, 0 ≤ c ∧ c < 256
instance (g : Gr) : Decidable g.Valid := by unfold Gr.Valid; infer_instance
def solidAt (g : Gr) (T : List Mat) (p : Pt) : Bool := decide (g.box.has p) && (matAt T (g.get p)).solid
theorem size_bd {b : Bx} (h : b.rng) : (0 ≤ b.size.x ∧ b.size.x ≤ 2097150) ∧ (0 ≤ b.size.y ∧ b.size.y ≤ 2097150) ∧ (0 ≤ b.size.z ∧ b.size.z ≤ 2097150) := by
  unfold Bx.rng Pt.rng at h
  unfold Bx.size
  split
  · unfold p0; simp only; omega
  · rename_i hn
    unfold Bx.none at hn
    unfold Pt.sub
    simp only
    omega
theorem mul_bd {x y X Y : Int} (hx : 0 ≤ x ∧ x ≤ X) (hy : 0 ≤ y ∧ y ≤ Y) : 0 ≤ x * y ∧ x * y ≤ X * Y :=
  ⟨Int.mul_nonneg hx.1 hy.1, Int.mul_le_mul hx.2 hy.2 hy.1 (by omega)⟩
theorem vol_bd {b : Bx} (h : b.rng) : (0 ≤ b.size.x * b.size.y ∧ b.size.x * b.size.y ≤ 4398038122500) ∧ (0 ≤ b.vol ∧ b.vol ≤ 9223345648600875000) := by
  obtain ⟨h1, h2, h3⟩ := size_bd h
  have g1 := mul_bd h1 h2
  have g2 := mul_bd g1 h3
  exact ⟨by omega, by unfold Bx.vol; omega⟩
theorem idx_bd {b : Bx} {p : Pt} (h : b.rng) (hp : b.has p) : b.size = b.mx.sub b.mn ∧ (0 ≤ p.x - b.mn.x ∧ p.x - b.mn.x < b.size.x) ∧ (0 ≤ p.y - b.mn.y ∧ p.y - b.mn.y < b.size.y) ∧ (0 ≤ p.z - b.mn.z ∧ p.z - b.mn.z < b.size.z) ∧
    (0 ≤ b.size.y * (p.z - b.mn.z) ∧ b.size.y * (p.z - b.mn.z) ≤ 4398038122500) ∧ (0 ≤ (p.y - b.mn.y) + b.size.y * (p.z - b.mn.z) ∧ (p.y - b.mn.y) + b.size.y * (p.z - b.mn.z) ≤ 4398038122500) ∧ (0 ≤ b.size.x * ((p.y - b.mn.y) + b.size.y * (p.z - b.mn.z)) ∧ b.size.x * ((p.y - b.mn.y) + b.size.y * (p.z - b.mn.z)) ≤ 9223345648600875000) ∧
    (0 ≤ b.idx p ∧ b.idx p < b.vol) := by
  have hs : b.size = b.mx.sub b.mn := by
    unfold Bx.size
    rw [if_neg]
    unfold Bx.has at hp
    unfold Bx.none
    omega
  obtain ⟨h1, h2, h3⟩ := size_bd h
  have hx : b.size.x = b.mx.x - b.mn.x := by rw [hs]; rfl
  have hy : b.size.y = b.mx.y - b.mn.y := by rw [hs]; rfl
  have hz : b.size.z = b.mx.z - b.mn.z := by rw [hs]; rfl
  have hvol : b.vol = b.size.x * b.size.y * b.size.z := rfl
  have hidx : b.idx p = (p.x - b.mn.x) + b.size.x * ((p.y - b.mn.y) + b.size.y * (p.z - b.mn.z)) := by unfold Bx.idx; rw [if_pos hp]
  have hv := vol_bd h
  unfold Bx.has at hp
  rw [hvol] at hv ⊢
  rw [hidx]
  clear hvol hidx
  generalize b.size.x = X at *
  generalize b.size.y = Y at *
  generalize b.size.z = Z at *
  have hdx : 0 ≤ p.x - b.mn.x ∧ p.x - b.mn.x < X := by omega
  have hdy : 0 ≤ p.y - b.mn.y ∧ p.y - b.mn.y < Y := by omega
  have hdz : 0 ≤ p.z - b.mn.z ∧ p.z - b.mn.z < Z := by omega
  generalize p.x - b.mn.x = u at *
  generalize p.y - b.mn.y = v at *
  generalize p.z - b.mn.z = t at *
  have g1 : 0 ≤ Y * t := Int.mul_nonneg (by omega) (by omega)
  have g2 : Y * t ≤ Y * (Z - 1) := Int.mul_le_mul_of_nonneg_left (by omega) (by omega)
  have g3 : Y * (Z - 1) = Y * Z - Y := by rw [Int.mul_sub, Int.mul_one]
  have g4 : 0 ≤ Y * Z ∧ Y * Z ≤ 2097150 * 2097150 := mul_bd (by omega) (by omega)
  have g5 : 0 ≤ X * (v + Y * t) := Int.mul_nonneg (by omega) (by omega)
  have g6 : X * (v + Y * t) ≤ X * (Y * Z - 1) := Int.mul_le_mul_of_nonneg_left (by omega) (by omega)
  have g7 : X * (Y * Z - 1) = X * Y * Z - X := by rw [Int.mul_sub, Int.mul_one, Int.mul_assoc]
  exact ⟨hs, hdx, hdy, hdz, by omega, by omega, by omega, by omega⟩
theorem Gr.Valid.idx {g : Gr} (h : g.Valid) {p : Pt} (hp : g.box.has p) : 0 ≤ g.box.idx p ∧ (g.box.idx p).toNat < g.cells.length := by
  have h1 := (idx_bd h.1 hp).2.2.2.2.2.2.2
  have h2 := h.2.1
  omega
theorem idx_neg {b : Bx} {p : Pt} (hp : ¬ b.has p) : b.idx p = -1 := by unfold Bx.idx; rw [if_neg hp]
/-- The first solid cell of a list, by its index. -/
def firstSol (f : Pt → Bool) : List Pt → Nat → Option (Nat × Pt)
  | [], _ => .none
  | p :: l, i => if f p then some (i, p) else firstSol f l (i + 1)
theorem firstSol_some {f : Pt → Bool} {p : Pt} : ∀ {l : List Pt} {k i : Nat}, l[k]? = some p → f p = true → (∀ q ∈ l.take k, f q = false) → firstSol f l i = some (i + k, p)
  | [], k, i, h, _, _ => by simp at h
  | q :: l, 0, i, h, hf, _ => by
    simp at h; subst h
    unfold firstSol; rw [if_pos hf]; rfl
  | q :: l, k + 1, i, h, hf, hn => by
    unfold firstSol
    rw [if_neg (by rw [hn q (by simp)]; decide), firstSol_some (l := l) (k := k) (by simpa using h) hf (fun r hr => hn r (by rw [List.take_succ_cons]; exact List.mem_cons_of_mem _ hr))]
    rw [show i + 1 + k = i + (k + 1) by omega]
theorem firstSol_none {f : Pt → Bool} : ∀ {l : List Pt} {i : Nat}, (∀ q ∈ l, f q = false) → firstSol f l i = .none
  | [], _, _ => rfl
  | q :: l, i, h => by
    unfold firstSol
    rw [if_neg (by rw [h q List.mem_cons_self]; decide)]
    exact firstSol_none fun r hr => h r (List.mem_cons_of_mem _ hr)
theorem take_all_succ {P : Pt → Prop} {l : List Pt} {k : Nat} {p : Pt} (hp : l[k]? = some p) (h : ∀ q ∈ l.take k, P q) (h1 : P p) : ∀ q ∈ l.take (k + 1), P q := by
  intro q hq
  rw [List.take_add_one, List.mem_append, hp] at hq
  rcases hq with hq | hq
  · exact h q hq
  · simp at hq; rw [hq]; exact h1
/-- The cell before the i-th one. -/
def befOf (l : List Pt) (a : Pt) (i : Nat) : Pt := if i = 0 then a else l.getD (i - 1) a
theorem befOf_succ {l : List Pt} {a p : Pt} {i : Nat} (h : l[i]? = some p) : befOf l a (i + 1) = p := by
  unfold befOf
  rw [if_neg (by omega), Nat.add_sub_cancel, List.getD_eq_getElem?_getD, h]; rfl
end Go.Proofs.Ytopdcdjmiepdfaa
namespace Go.Proofs.Ytopdcdjmiepdfaa
theorem walk_cons (a b : Pt) : ∃ r, walk a b = a :: r := by
  unfold walk
  rw [walkS_eq (ax0_ok a b), ax0_cell]
  exact ⟨_, rfl⟩
theorem walk_head (a b : Pt) : (walk a b)[0]? = some a := by
  obtain ⟨r, h⟩ := walk_cons a b
  rw [h]; rfl
theorem walkS_last {a b : Pt} : ∀ (n : Nat) (s : Ax3), s.Ok a b → s.left b ≤ n → (walkS s b).getLast? = some b := by
  intro n
  induction n with
  | zero =>
    intro s h hn
    have he := left_zero (s := s) (b := b) (by omega)
    rw [walkS_eq h, if_pos he, he]; rfl
  | succ n ih =>
    intro s h hn
    rw [walkS_eq h]
    by_cases he : s.cell = b
    · rw [if_pos he, he]; rfl
    · rw [if_neg he]
      have hg := go_ok h he
      have := ih s.go hg.1 (by omega)
      cases hw : walkS s.go b with
      | nil => rw [hw] at this; cases this
      | cons x r => rw [hw] at this; rw [List.getLast?_cons_cons]; exact this
theorem walk_last (a b : Pt) : (walk a b)[(walk a b).length - 1]? = some b := by
  rw [← List.getLast?_eq_getElem?]
  exact walkS_last ((ax0 a b).left b).toNat (ax0 a b) (ax0_ok a b) (by omega)
/-- A step of a walk. -/
def StepOf (a b p q : Pt) : Prop := ∃ s : Ax3, s.Ok a b ∧ (insideT a b s.cell).ok = true ∧ s.cell = p ∧ s.cell ≠ b ∧ s.go.cell = q
def sgn (n : Int) : Int := max (-1) (min 1 n)
theorem over_pos (x : Axis) (f : Int × Int) : (x.over f).pos = x.pos ∨ (x.over f).pos = x.pos + x.step := by
  unfold Axis.over; split
  · exact Or.inl rfl
  · exact Or.inr rfl
theorem step_sgn {x : Axis} {a b : Int} (h : AxOk x a b) : x.step = sgn (b - a) := by
  unfold sgn
  rcases h with ⟨h1, rfl⟩ | ⟨j, hj, ⟨h1, h2, rfl⟩ | ⟨h1, h2, rfl⟩⟩ <;> simp only <;> omega
theorem KeyOf.same {D x : Int} {t u : Int × Int} (hD : 0 < D) (ht : KeyOf D t x) (hu : KeyOf D u x) : t.1 * u.2 = u.1 * t.2 := by
  have h1 : ¬ tlt t u := fun h => by have := (ht.lt hD hu).1 h; omega
  have h2 : ¬ tlt u t := fun h => by have := (hu.lt hD ht).1 h; omega
  unfold tlt at h1 h2
  omega
/-- What a step does. -/
theorem StepOf.facts {a b p q : Pt} (h : StepOf a b p q) : (q.x - p.x = 0 ∨ q.x - p.x = sgn (b.x - a.x)) ∧ (q.y - p.y = 0 ∨ q.y - p.y = sgn (b.y - a.y)) ∧ (q.z - p.z = 0 ∨ q.z - p.z = sgn (b.z - a.z)) ∧
    ¬ (q.x - p.x = 0 ∧ q.y - p.y = 0 ∧ q.z - p.z = 0) ∧ (insideT a b p).b.1 * (insideT a b q).a.2 = (insideT a b q).a.1 * (insideT a b p).b.2 := by
  obtain ⟨s, hs, hok, rfl, he, rfl⟩ := h
  have h2 := (ok_iff a b s.cell).1 hok
  obtain ⟨t1, t2, t3, t4⟩ := go_times hs he h2.2.1 h2.1
  have hg := go_ok hs he
  have gx : s.go.cell.x = (s.x.over s.first).pos := rfl
  have gy : s.go.cell.y = (s.y.over s.first).pos := rfl
  have gz : s.go.cell.z = (s.z.over s.first).pos := rfl
  have cx : s.cell.x = s.x.pos := rfl
  have cy : s.cell.y = s.y.pos := rfl
  have cz : s.cell.z = s.z.pos := rfl
  have ox := over_pos s.x s.first; have oy := over_pos s.y s.first; have oz := over_pos s.z s.first
  have sx := step_sgn hs.1; have sy := step_sgn hs.2.1; have sz := step_sgn hs.2.2
  refine ⟨by omega, by omega, by omega, fun ⟨e1, e2, e3⟩ => ?_, ?_⟩
  · have e : s.go.left b = s.left b := by
      show dif (s.x.over s.first).pos b.x + dif (s.y.over s.first).pos b.y + dif (s.z.over s.first).pos b.z = dif s.x.pos b.x + dif s.y.pos b.y + dif s.z.pos b.z
      rw [show (s.x.over s.first).pos = s.x.pos by omega, show (s.y.over s.first).pos = s.y.pos by omega, show (s.z.over s.first).pos = s.z.pos by omega]
    have := hg.2.1
    omega
  · have hB := inside_keyB a b s.cell
    have hA := inside_keyA a b s.go.cell
    rw [t1] at hA
    exact hB.same (k_facts a b).1 hA
theorem walk_nodup (a b : Pt) : (walk a b).Nodup := (walk_spec a b).1.imp (fun h e => by rw [bef_iff, e] at h; omega)
end Go.Proofs.Ytopdcdjmiepdfaa
