/-
  OF: several texts in one: MoTile, MoVisit. No statement is proved here.
-/
import Derived.Test.YtkfijpghjjnpkaaOD
import Derived.Test.YtkfijpghjjnpkaaOE
set_option linter.unusedVariables false
set_option linter.unusedSimpArgs false
/-
  The cubes and the runs of a box tile it: plain. No statement is proved here.
-/
namespace Go.Proofs.Ytkfijpghjjnpkaa

def Cube.lo (c : Cube) : Nat := code c.at_.nat
def Cube.sz (c : Cube) : Nat := 8 ^ c.lvl.toNat
theorem Cube.sz_pos (c : Cube) : 0 < c.sz := Nat.pow_pos (by decide)
/-- The cubes L are those of the box's cells with codes from lo to hi. -/
structure Cov (b : Bx) (lo hi : Nat) (L : List Cube) : Prop where
  each : ∀ c ∈ L, c.ok ∧ lo ≤ c.lo ∧ c.lo + c.sz ≤ hi ∧ b.whole c.at_ c.lvl.toNat
  sorted : L.Pairwise fun c d => c.lo + c.sz ≤ d.lo
  full : ∀ d, lo ≤ d → d < hi → b.cell d → ∃ c ∈ L, c.lo ≤ d ∧ d < c.lo + c.sz
  most : ∀ c ∈ L, c.lvl.toNat < 14 → c.at_.al (c.lvl.toNat + 1) → ¬ b.whole c.at_ (c.lvl.toNat + 1)
theorem Cov.nil {b : Bx} {lo hi : Nat} (h : ∀ d, lo ≤ d → d < hi → ¬ b.cell d) : Cov b lo hi [] :=
  ⟨fun _ h => (by cases h), List.Pairwise.nil, fun d h1 h2 h3 => absurd h3 (h d h1 h2), fun _ h => (by cases h)⟩
theorem Cov.join {b : Bx} {lo m hi : Nat} {L M : List Cube} (h : Cov b lo m L) (k : Cov b m hi M) (h1 : lo ≤ m) (h2 : m ≤ hi) : Cov b lo hi (L ++ M) := by
  refine ⟨fun c hc => ?_, List.pairwise_append.2 ⟨h.sorted, k.sorted, fun c hc d hd => ?_⟩, fun d hd1 hd2 hd => ?_, fun c hc => ?_⟩
  · rcases List.mem_append.1 hc with hc | hc
    · obtain ⟨a1, a2, a3, a4⟩ := h.each c hc
      exact ⟨a1, a2, by omega, a4⟩
    · obtain ⟨a1, a2, a3, a4⟩ := k.each c hc
      exact ⟨a1, by omega, a3, a4⟩
  · have a := (h.each c hc).2.2.1
    have a' := (k.each d hd).2.1
    omega
  · rcases Nat.lt_or_ge d m with hlt | hge
    · obtain ⟨c, hc, hcd⟩ := h.full d hd1 hlt hd
      exact ⟨c, List.mem_append_left _ hc, hcd⟩
    · obtain ⟨c, hc, hcd⟩ := k.full d hge hd2 hd
      exact ⟨c, List.mem_append_right _ hc, hcd⟩
  · rcases List.mem_append.1 hc with hc | hc
    · exact h.most c hc
    · exact k.most c hc
theorem cubesL_ge (b : Bx) : ∀ (l : Nat) (p : Pt) (out : List Cube), out.length ≤ (cubesL b l p out).length
  | 0, p, out => by
    unfold cubesL
    split
    · exact Nat.le_refl _
    · rw [List.length_append]; omega
  | l + 1, p, out => by
    unfold cubesL
    split
    · exact Nat.le_refl _
    · split
      · rw [List.length_append]; omega
      · have key : ∀ n, out.length ≤ (foldTo (fun i o => cubesL b l (p.child l i) o) n out).length := by
          intro n
          induction n with
          | zero => exact Nat.le_refl _
          | succ n ih => exact Nat.le_trans ih (cubesL_ge b l _ _)
        exact key 8
theorem child_al {p : Pt} {l i : Nat} (h : p.al (l + 1)) (hi : i < 8) (hc : (p.child l i).al (l + 1)) : p.child l i = p := by
  have e : ∀ k, k < 3 → i / 2 ^ k % 2 = 0 := fun k hk => by
    have h1 := child_nat h.1 l i k hk
    have h2 := hc.2 k hk
    have h3 := h.2 k hk
    rw [h1, Nat.add_mod, h3, Nat.zero_add, Nat.mod_mod, Nat.pow_succ, Nat.mul_mod_mul_left] at h2
    have h4 := Nat.two_pow_pos l
    rcases Nat.mul_eq_zero.1 h2 with h5 | h5
    · omega
    · omega
  have e0 := e 0 (by omega)
  have e1 := e 1 (by omega)
  have e2 := e 2 (by omega)
  have hi0 : i = 0 := by omega
  subst hi0
  obtain ⟨x, y, z⟩ := p
  simp [Pt.child]
theorem cubesL_cov {b : Bx} : ∀ (l : Nat), l ≤ 14 → ∀ (p : Pt) (out : List Cube), p.al l → (l < 14 → p.al (l + 1) → ¬ b.whole p (l + 1)) → (cubesL b l p out).length ≤ 4096 →
    ∃ D, cubesL b l p out = out ++ D ∧ Cov b (code p.nat) (code p.nat + 8 ^ l) D
  | l, hl, p, out, hp, hpar, hlen => by
    by_cases hlim : 4096 < out.length
    · have := cubesL_ge b l p out
      omega
    by_cases h1 : b.apart p (p.far l)
    · exact ⟨[], by rw [cubesL_out (Or.inl h1), List.append_nil], .nil fun d d1 d2 => apart_no hp h1 d1 d2⟩
    have hno : ¬ (b.apart p (p.far l) ∨ 4096 < out.length) := fun h => h.elim h1 hlim
    by_cases h2 : b.whole p l
    · refine ⟨[⟨p, (l : Int)⟩], cubesL_in hno h2, ⟨fun c hc => ?_, List.pairwise_singleton _ _, fun d d1 d2 _ => ⟨_, List.mem_singleton.2 rfl, d1, d2⟩, fun c hc => ?_⟩⟩
      · rw [List.mem_singleton] at hc
        subst hc
        exact ⟨⟨l, hl, rfl, hp⟩, Nat.le_refl _, Nat.le_refl _, h2⟩
      · rw [List.mem_singleton] at hc
        subst hc
        exact hpar
    · cases l with
      | zero => exact absurd (whole_zero hp.1 h1) h2
      | succ m =>
        rw [cubesL_div hno h2] at hlen ⊢
        have hge : ∀ n k, n + k = 8 → (foldTo (fun i o => cubesL b m (p.child m i) o) n out).length ≤ (foldTo (fun i o => cubesL b m (p.child m i) o) 8 out).length := by
          intro n k
          induction k generalizing n with
          | zero => intro e; rw [Nat.add_zero] at e; rw [e]; exact Nat.le_refl _
          | succ k ih =>
            intro e
            exact Nat.le_trans (cubesL_ge b m (p.child m n) _) (ih (n + 1) (by omega))
        have key : ∀ n, n ≤ 8 → ∃ D, foldTo (fun i o => cubesL b m (p.child m i) o) n out = out ++ D ∧ Cov b (code p.nat) (code p.nat + n * 8 ^ m) D := by
          intro n
          induction n with
          | zero => exact fun _ => ⟨[], by rw [List.append_nil]; rfl, .nil fun d d1 d2 => by omega⟩
          | succ n ih =>
            intro hn
            obtain ⟨D, e, hc⟩ := ih (by omega)
            have hle := hge (n + 1) (7 - n) (by omega)
            have hch := al_child hp (by omega) (show n < 8 by omega)
            obtain ⟨D2, e2, hc2⟩ := cubesL_cov m (by omega) (p.child m n) (foldTo (fun i o => cubesL b m (p.child m i) o) n out) hch
              (fun _ hal => by rw [child_al hp (by omega) hal]; exact h2) (Nat.le_trans hle hlen)
            rw [code_child hp (by omega) (show n < 8 by omega)] at hc2
            refine ⟨D ++ D2, ?_, ?_⟩
            · show cubesL b m (p.child m n) _ = _
              rw [e2, e, List.append_assoc]
            · have h3 := hc.join hc2 (Nat.le_add_right _ _) (Nat.le_add_right _ _)
              rw [Nat.add_mul, Nat.one_mul, ← Nat.add_assoc]
              exact h3
        obtain ⟨D, e, hc⟩ := key 8 (by omega)
        refine ⟨D, e, ?_⟩
        rw [Nat.pow_succ, Nat.mul_comm]
        exact hc
theorem code_p0 : code p0.nat = 0 := by decide +kernel
/-- What the cubes of a box are. -/
theorem mCubes_cov {b : Bx} (h : (mCubes b).2 = 0) : Cov b 0 4398046511104 (mCubes b).1 := by
  unfold mCubes at h ⊢
  split
  · rename_i hne
    rw [if_pos hne] at h
    split
    · rename_i hlt
      rw [if_pos hlt] at h
      cases h
    · obtain ⟨D, e, hc⟩ := cubesL_cov (b := b) 14 (by omega) p0 [] al_top (fun h => by omega) (by omega)
      rw [e, List.nil_append]
      rw [code_p0] at hc
      exact hc
  · rename_i hne
    refine .nil fun d _ _ hd => hne ?_
    unfold Bx.cell Bx.has at hd
    unfold Bx.ne
    omega
/-- A point lies in a cube. -/
def Cube.inC (c : Cube) (p : Pt) : Prop := (c.at_.x ≤ p.x ∧ p.x < c.at_.x + ((2 ^ c.lvl.toNat : Nat) : Int)) ∧ (c.at_.y ≤ p.y ∧ p.y < c.at_.y + ((2 ^ c.lvl.toNat : Nat) : Int)) ∧ (c.at_.z ≤ p.z ∧ p.z < c.at_.z + ((2 ^ c.lvl.toNat : Nat) : Int))
instance (c : Cube) (p : Pt) : Decidable (c.inC p) := by unfold Cube.inC; infer_instance
theorem mDecP_code {p : Pt} (hp : p.In) : mDecP (code p.nat) = p := by
  have h := mDec_enc hp
  rw [mEnc_code hp] at h
  unfold mDec at h
  rw [if_pos ⟨by omega, by have := code_lt p.nat; omega⟩] at h
  exact (Prod.mk.inj h).1
theorem inC_code {c : Cube} (hc : c.ok) (p : Pt) : c.inC p ↔ p.In ∧ c.lo ≤ code p.nat ∧ code p.nat < c.lo + c.sz := by
  obtain ⟨m, hm, hl, hal⟩ := hc
  unfold Cube.inC Cube.lo Cube.sz
  rw [hl, Int.toNat_natCast]
  generalize c.at_ = q at *
  have hf := al_far hal hm
  have hpw := Nat.two_pow_pos m
  constructor
  · intro h
    have hp : p.In := by
      have hq := hal.1
      unfold Pt.In Pt.far at hf
      unfold Pt.In at hq ⊢
      simp only at hf
      omega
    have hcr : p.corner m = q := by
      have key : ∀ k, k < 3 → p.nat k / 2 ^ m * 2 ^ m = q.nat k := fun k hk => by
        have h1 := (hp.nat k).1
        have h2 := (hal.1.nat k).1
        have h3 := hal.2 k hk
        have h4 : q.at k ≤ p.at k ∧ p.at k < q.at k + ((2 ^ m : Nat) : Int) := by
          rcases (by omega : k = 0 ∨ k = 1 ∨ k = 2) with rfl | rfl | rfl
          · exact h.1
          · exact h.2.1
          · exact h.2.2
        rw [h1, h2] at h4
        have h5 := same_div h3 (d := p.nat k) (by omega) (by omega)
        rw [h5]
        exact Nat.div_mul_cancel (Nat.dvd_of_mod_eq_zero h3)
      have k0 := key 0 (by omega)
      have k1 := key 1 (by omega)
      have k2 := key 2 (by omega)
      have e0 := (hal.1.nat 0).1
      have e1 := (hal.1.nat 1).1
      have e2 := (hal.1.nat 2).1
      unfold Pt.corner
      rw [k0, k1, k2, ← e0, ← e1, ← e2]
      rfl
    have h6 := code_corner hp m hm
    rw [hcr, mEnc_code hp, mEnc_code hal.1] at h6
    exact ⟨hp, by omega, by omega⟩
  · intro ⟨hp, h1, h2⟩
    have h3 := fun k hk => cube_at hal h1 h2 k hk
    rw [mDecP_code hp] at h3
    have k0 := h3 0 (by omega)
    have k1 := h3 1 (by omega)
    have k2 := h3 2 (by omega)
    simp only [Pt.at, Pt.far] at k0 k1 k2
    omega
theorem cell_has {b : Bx} {p : Pt} (hp : p.In) : b.cell (code p.nat) ↔ b.has p := by
  unfold Bx.cell
  rw [mDecP_code hp]
/-- A point of the box lies in one cube. -/
theorem cov_in {b : Bx} {L : List Cube} (h : Cov b 0 4398046511104 L) (p : Pt) : (∃ c ∈ L, c.inC p) ↔ (p.In ∧ b.has p) := by
  constructor
  · rintro ⟨c, hc, hin⟩
    obtain ⟨hok, _, _, hw⟩ := h.each c hc
    obtain ⟨hp, h1, h2⟩ := (inC_code hok p).1 hin
    obtain ⟨m, hm, hl, hal⟩ := hok
    unfold Cube.sz at h2
    rw [hl, Int.toNat_natCast] at h2 hw
    exact ⟨hp, (cell_has hp).1 (whole_all hal hw h1 h2)⟩
  · rintro ⟨hp, hb⟩
    obtain ⟨c, hc, h1, h2⟩ := h.full (code p.nat) (Nat.zero_le _) (code_lt _) ((cell_has hp).2 hb)
    exact ⟨c, hc, (inC_code (h.each c hc).1 p).2 ⟨hp, h1, h2⟩⟩
theorem count_one {α : Type} (p : α → Bool) : ∀ (L : List α), (L.Pairwise fun a b => ¬ (p a = true ∧ p b = true)) → L.countP p = if (∃ a ∈ L, p a = true) then 1 else 0
  | [], _ => by simp
  | a :: l, h => by
    rw [List.pairwise_cons] at h
    have ih := count_one p l h.2
    by_cases ha : p a = true
    · have hno : ¬ ∃ x ∈ l, p x = true := fun ⟨x, hx, hpx⟩ => h.1 x hx ⟨ha, hpx⟩
      rw [List.countP_cons, ih, if_neg hno, if_pos ha, if_pos ⟨a, List.mem_cons_self, ha⟩]
    · rw [List.countP_cons, ih, if_neg ha, Nat.add_zero]
      by_cases hx : ∃ x ∈ l, p x = true
      · obtain ⟨x, hx1, hx2⟩ := hx
        rw [if_pos ⟨x, hx1, hx2⟩, if_pos ⟨x, List.mem_cons_of_mem _ hx1, hx2⟩]
      · rw [if_neg hx, if_neg]
        rintro ⟨x, hx1, hx2⟩
        rcases List.mem_cons.1 hx1 with rfl | hx1
        · exact ha hx2
        · exact hx ⟨x, hx1, hx2⟩
theorem cov_count {b : Bx} {L : List Cube} (h : Cov b 0 4398046511104 L) (p : Pt) : (L.countP fun c => decide (c.inC p)) = if p.In ∧ b.has p then 1 else 0 := by
  rw [count_one _ L]
  · have := cov_in h p
    by_cases hx : p.In ∧ b.has p
    · rw [if_pos hx, if_pos]
      obtain ⟨c, hc, hin⟩ := this.2 hx
      exact ⟨c, hc, decide_eq_true hin⟩
    · rw [if_neg hx, if_neg]
      rintro ⟨c, hc, hin⟩
      exact hx (this.1 ⟨c, hc, of_decide_eq_true hin⟩)
  · refine h.sorted.imp_of_mem fun {c d} hc hd hlt hh => ?_
    obtain ⟨_, c1, c2⟩ := (inC_code (h.each c hc).1 p).1 (of_decide_eq_true hh.1)
    obtain ⟨_, d1, d2⟩ := (inC_code (h.each d hd).1 p).1 (of_decide_eq_true hh.2)
    omega
/-- No eight cubes make a greater one. -/
theorem cov_eight {b : Bx} {L : List Cube} (h : Cov b 0 4398046511104 L) {c d : Cube} (hc : c ∈ L) (hd : d ∈ L) (hl : d.lvl = c.lvl) (h0 : ∀ k, k < 3 → c.at_.nat k % (2 * 2 ^ c.lvl.toNat) = 0)
    (hx : d.at_ = ⟨c.at_.x + ((2 ^ c.lvl.toNat : Nat) : Int), c.at_.y + ((2 ^ c.lvl.toNat : Nat) : Int), c.at_.z + ((2 ^ c.lvl.toNat : Nat) : Int)⟩) : False := by
  obtain ⟨hok, _, _, hw⟩ := h.each c hc
  obtain ⟨hok2, _, _, hw2⟩ := h.each d hd
  obtain ⟨m, hm, hlm, hal⟩ := hok
  obtain ⟨m2, hm2, hlm2, hal2⟩ := hok2
  have hmm : m2 = m := by omega
  subst hmm
  have hmost := h.most c hc
  rw [hlm2] at hw2
  rw [hlm, Int.toNat_natCast] at hw hmost hx h0
  rw [Int.toNat_natCast] at hw2
  have hpw := Nat.two_pow_pos m2
  have hal3 : c.at_.al (m2 + 1) := ⟨hal.1, fun k hk => by rw [Nat.pow_succ, Nat.mul_comm]; exact h0 k hk⟩
  have hfar : d.at_.far m2 = c.at_.far (m2 + 1) := by
    rw [hx]
    unfold Pt.far
    simp only [Nat.pow_succ]
    congr 1 <;> omega
  by_cases h14 : m2 < 14
  · refine hmost h14 hal3 ⟨hw.1, ?_⟩
    rw [← hfar]
    exact hw2.2
  · have : m2 = 14 := by omega
    subst this
    have hin := hal2.1
    have hin2 := hal.1
    rw [hx] at hin
    unfold Pt.In at hin hin2
    simp only at hin
    omega
/-- The cubes are in the order of their codes. -/
theorem cov_less {b : Bx} {L : List Cube} (h : Cov b 0 4398046511104 L) {i : Nat} {c d : Cube} (hc : L[i]? = some c) (hd : L[i + 1]? = some d) : mCmp c.at_ d.at_ < 0 := by
  obtain ⟨h1, rfl⟩ := List.getElem?_eq_some_iff.1 hc
  obtain ⟨h2, rfl⟩ := List.getElem?_eq_some_iff.1 hd
  have hlt := List.pairwise_iff_getElem.1 h.sorted i (i + 1) h1 h2 (by omega)
  have o1 := (h.each _ (List.getElem_mem h1)).1
  have o2 := (h.each _ (List.getElem_mem h2)).1
  obtain ⟨m1, _, _, a1⟩ := o1
  obtain ⟨m2, _, _, a2⟩ := o2
  rw [mCmp_neg, mEnc_code a1.1, mEnc_code a2.1]
  have := Cube.sz_pos L[i]
  unfold Cube.lo at hlt
  omega
theorem last_split (t : Int) : ∀ R : List Run, R ≠ [] → ∃ init r, R = init ++ [r] ∧ setLast t R = init ++ [⟨r.first, t⟩] ∧ lastOf R = r.last
  | [], h => absurd rfl h
  | [r], _ => ⟨[], r, rfl, rfl, rfl⟩
  | r :: s :: l, _ => by
    obtain ⟨init, q, e1, e2, e3⟩ := last_split t (s :: l) (by simp)
    exact ⟨r :: init, q, by rw [e1]; rfl, by show r :: setLast t (s :: l) = _; rw [e2]; rfl, e3⟩
/-- The runs R cover what the cubes L cover, with gaps in between. -/
structure RunsOk (L : List Cube) (R : List Run) : Prop where
  each : ∀ r ∈ R, 0 ≤ r.first ∧ r.first ≤ r.last
  gap : R.Pairwise fun r s => r.last + 1 < s.first
  cover : ∀ x, (∃ r ∈ R, r.first ≤ x ∧ x ≤ r.last) ↔ ∃ c ∈ L, mEnc c.at_ ≤ x ∧ x ≤ cubeLast c
theorem RunsOk.step {L : List Cube} {R : List Run} (h : RunsOk L R) (c : Cube) (h0 : 0 ≤ mEnc c.at_) (h1 : mEnc c.at_ ≤ cubeLast c) (hL : ∀ d ∈ L, cubeLast d < mEnc c.at_) : RunsOk (L ++ [c]) (runAdd R (mEnc c.at_) (cubeLast c)) := by
  have hR : ∀ r ∈ R, r.last < mEnc c.at_ := fun r hr => by
    obtain ⟨d, hd, h2, h3⟩ := (h.cover r.last).1 ⟨r, hr, (h.each r hr).2, Int.le_refl _⟩
    have := hL d hd
    omega
  have hc : ∀ x, (∃ d ∈ L ++ [c], mEnc d.at_ ≤ x ∧ x ≤ cubeLast d) ↔ (∃ r ∈ R, r.first ≤ x ∧ x ≤ r.last) ∨ (mEnc c.at_ ≤ x ∧ x ≤ cubeLast c) := fun x => by
    rw [h.cover x]
    constructor
    · rintro ⟨d, hd, hx⟩
      rcases List.mem_append.1 hd with hd | hd
      · exact Or.inl ⟨d, hd, hx⟩
      · rw [List.mem_singleton] at hd; subst hd; exact Or.inr hx
    · rintro (⟨d, hd, hx⟩ | hx)
      · exact ⟨d, List.mem_append_left _ hd, hx⟩
      · exact ⟨c, List.mem_append_right _ (List.mem_singleton.2 rfl), hx⟩
  generalize mEnc c.at_ = f at *
  generalize cubeLast c = t at *
  unfold runAdd
  split
  · rename_i hne
    obtain ⟨init, r, e1, e2, e3⟩ := last_split t R hne.1
    have hl := hne.2
    rw [e3] at hl
    rw [e2]
    subst e1
    have hg := List.pairwise_append.1 h.gap
    have hr := h.each r (List.mem_append_right _ (List.mem_singleton.2 rfl))
    refine ⟨fun s hs => ?_, List.pairwise_append.2 ⟨hg.1, List.pairwise_singleton _ _, fun s hs q hq => ?_⟩, fun x => ?_⟩
    · rcases List.mem_append.1 hs with hs | hs
      · exact h.each s (List.mem_append_left _ hs)
      · rw [List.mem_singleton] at hs
        subst hs
        exact ⟨hr.1, by show r.first ≤ t; omega⟩
    · rw [List.mem_singleton] at hq
      subst hq
      exact hg.2.2 s hs r (List.mem_singleton.2 rfl)
    · rw [hc x]
      constructor
      · rintro ⟨s, hs, h2⟩
        rcases List.mem_append.1 hs with hs | hs
        · exact Or.inl ⟨s, List.mem_append_left _ hs, h2⟩
        · rw [List.mem_singleton] at hs
          subst hs
          simp only at h2
          rcases Int.lt_or_le x f with hx | hx
          · exact Or.inl ⟨r, List.mem_append_right _ (List.mem_singleton.2 rfl), h2.1, by omega⟩
          · exact Or.inr ⟨hx, h2.2⟩
      · rintro (⟨s, hs, h2⟩ | h2)
        · rcases List.mem_append.1 hs with hs | hs
          · exact ⟨s, List.mem_append_left _ hs, h2⟩
          · rw [List.mem_singleton] at hs
            subst hs
            exact ⟨_, List.mem_append_right _ (List.mem_singleton.2 rfl), h2.1, by show x ≤ t; omega⟩
        · exact ⟨_, List.mem_append_right _ (List.mem_singleton.2 rfl), by show r.first ≤ x; omega, h2.2⟩
  · rename_i hne
    refine ⟨fun s hs => ?_, List.pairwise_append.2 ⟨h.gap, List.pairwise_singleton _ _, fun s hs q hq => ?_⟩, fun x => ?_⟩
    · rcases List.mem_append.1 hs with hs | hs
      · exact h.each s hs
      · rw [List.mem_singleton] at hs
        subst hs
        exact ⟨h0, h1⟩
    · rw [List.mem_singleton] at hq
      subst hq
      have h2 := hR s hs
      have hRne : R ≠ [] := by rintro rfl; cases hs
      obtain ⟨init, r, e1, _, e3⟩ := last_split t R hRne
      have hno : lastOf R + 1 ≠ f := fun e => hne ⟨hRne, e⟩
      rw [e3] at hno
      show s.last + 1 < f
      subst e1
      have hr := hR r (List.mem_append_right _ (List.mem_singleton.2 rfl))
      rcases List.mem_append.1 hs with hs | hs
      · have h4 := (List.pairwise_append.1 h.gap).2.2 s hs r (List.mem_singleton.2 rfl)
        have h5 := (h.each r (List.mem_append_right _ (List.mem_singleton.2 rfl))).2
        omega
      · rw [List.mem_singleton] at hs
        subst hs
        omega
    · rw [hc x]
      constructor
      · rintro ⟨s, hs, h2⟩
        rcases List.mem_append.1 hs with hs | hs
        · exact Or.inl ⟨s, hs, h2⟩
        · rw [List.mem_singleton] at hs
          subst hs
          exact Or.inr h2
      · rintro (⟨s, hs, h2⟩ | h2)
        · exact ⟨s, List.mem_append_left _ hs, h2⟩
        · exact ⟨_, List.mem_append_right _ (List.mem_singleton.2 rfl), h2⟩
theorem cov_ok {b : Bx} {L : List Cube} (h : Cov b 0 4398046511104 L) {c : Cube} (hc : c ∈ L) : mEnc c.at_ = (c.lo : Int) ∧ cubeLast c = (c.lo : Int) + (c.sz : Int) - 1 := by
  obtain ⟨m, _, _, hal⟩ := (h.each c hc).1
  unfold cubeLast
  rw [mEnc_code hal.1]
  exact ⟨rfl, rfl⟩
theorem runs_ok {b : Bx} {L : List Cube} (h : Cov b 0 4398046511104 L) : RunsOk L (runsOf L) := by
  have key : ∀ k, k ≤ L.length → RunsOk (L.take k) (runsOf (L.take k)) := by
    intro k
    induction k with
    | zero =>
      intro _
      exact ⟨fun _ h => (by cases h), List.Pairwise.nil, fun x => ⟨fun ⟨_, hr, _⟩ => (by cases hr), fun ⟨_, hc, _⟩ => (by cases hc)⟩⟩
    | succ k ih =>
      intro hk
      have hgk : L[k]? = some L[k] := List.getElem?_eq_getElem hk
      rw [runsOf_succ L k _ hgk, List.take_succ_eq_append_getElem hk]
      have hmem : L[k] ∈ L := List.getElem_mem hk
      obtain ⟨e1, e2⟩ := cov_ok h hmem
      have hsz := Cube.sz_pos L[k]
      refine (ih (by omega)).step _ (by omega) (by omega) fun d hd => ?_
      obtain ⟨j, hj, rfl⟩ := List.getElem_of_mem hd
      rw [List.length_take] at hj
      rw [List.getElem_take]
      have hjL : j < L.length := by omega
      obtain ⟨_, e4⟩ := cov_ok h (List.getElem_mem hjL)
      have hlt := List.pairwise_iff_getElem.1 h.sorted j k hjL hk (by omega)
      omega
  have := key L.length (Nat.le_refl _)
  rwa [List.take_length] at this
theorem runs_count {b : Bx} {L : List Cube} (h : Cov b 0 4398046511104 L) (p : Pt) : ((runsOf L).countP fun r => decide (r.first ≤ mEnc p ∧ mEnc p ≤ r.last)) = if p.In ∧ b.has p then 1 else 0 := by
  have hr := runs_ok h
  rw [count_one _ (runsOf L)]
  · have h1 := hr.cover (mEnc p)
    have h2 := cov_in h p
    have h3 : (∃ c ∈ L, mEnc c.at_ ≤ mEnc p ∧ mEnc p ≤ cubeLast c) ↔ ∃ c ∈ L, c.inC p := by
      constructor
      · rintro ⟨c, hc, h4, h5⟩
        obtain ⟨e1, e2⟩ := cov_ok h hc
        have hp : p.In := by
          by_cases hp : p.In
          · exact hp
          · rw [mEnc_out hp] at h4; omega
        rw [mEnc_code hp] at h4 h5
        exact ⟨c, hc, (inC_code (h.each c hc).1 p).2 ⟨hp, by omega, by omega⟩⟩
      · rintro ⟨c, hc, hin⟩
        obtain ⟨e1, e2⟩ := cov_ok h hc
        obtain ⟨hp, h4, h5⟩ := (inC_code (h.each c hc).1 p).1 hin
        refine ⟨c, hc, ?_, ?_⟩ <;> rw [mEnc_code hp] <;> omega
    by_cases hx : p.In ∧ b.has p
    · rw [if_pos hx, if_pos]
      obtain ⟨r, hr2, hin⟩ := h1.2 (h3.2 (h2.2 hx))
      exact ⟨r, hr2, decide_eq_true hin⟩
    · rw [if_neg hx, if_neg]
      rintro ⟨r, hr2, hin⟩
      exact hx (h2.1 (h3.1 (h1.1 ⟨r, hr2, of_decide_eq_true hin⟩)))
  · refine hr.gap.imp_of_mem fun {r s} hr1 hs1 hlt hh => ?_
    have e1 := of_decide_eq_true hh.1
    have e2 := of_decide_eq_true hh.2
    have := hr.each r hr1
    omega
end Go.Proofs.Ytkfijpghjjnpkaa
/-
  The cells of a box counted, and its codes visited one after the other: plain. No statement is proved here.
-/
namespace Go.Proofs.Ytkfijpghjjnpkaa
open Go.RowKit

def inN (x y z : Int) : Nat := if (⟨x, y, z⟩ : Pt).In then 1 else 0
def czN (b : Bx) (x y : Int) : Nat → Nat
  | 0 => 0
  | k + 1 => czN b x y k + inN x y (b.mn.z + (k : Int))
def cyN (b : Bx) (x : Int) : Nat → Nat
  | 0 => 0
  | j + 1 => cyN b x j + czN b x (b.mn.y + (j : Int)) (b.mx.z - b.mn.z).toNat
def cxN (b : Bx) : Nat → Nat
  | 0 => 0
  | i + 1 => cxN b i + cyN b (b.mn.x + (i : Int)) (b.mx.y - b.mn.y).toNat
theorem czN_le (b : Bx) (x y : Int) : ∀ k, czN b x y k ≤ k
  | 0 => Nat.le_refl _
  | k + 1 => by
    have h := czN_le b x y k
    unfold czN inN
    split <;> omega
theorem cyN_le (b : Bx) (x : Int) (h : (b.mx.z - b.mn.z).toNat ≤ 10) : ∀ j, cyN b x j ≤ 10 * j
  | 0 => Nat.le_refl _
  | j + 1 => by
    have h1 := cyN_le b x h j
    have h2 := czN_le b x (b.mn.y + (j : Int)) (b.mx.z - b.mn.z).toNat
    unfold cyN
    omega
theorem cxN_le (b : Bx) (h : (b.mx.z - b.mn.z).toNat ≤ 10) (hy : (b.mx.y - b.mn.y).toNat ≤ 10) : ∀ i, cxN b i ≤ 100 * i
  | 0 => Nat.le_refl _
  | i + 1 => by
    have h1 := cxN_le b h hy i
    have h2 := cyN_le b (b.mn.x + (i : Int)) h (b.mx.y - b.mn.y).toNat
    unfold cxN
    omega
def lzP (b : Bx) (x y : Int) : Nat → List Pt
  | 0 => []
  | k + 1 => lzP b x y k ++ if (⟨x, y, b.mn.z + (k : Int)⟩ : Pt).In then [⟨x, y, b.mn.z + (k : Int)⟩] else []
def lyP (b : Bx) (x : Int) : Nat → List Pt
  | 0 => []
  | j + 1 => lyP b x j ++ lzP b x (b.mn.y + (j : Int)) (b.mx.z - b.mn.z).toNat
def lxP (b : Bx) : Nat → List Pt
  | 0 => []
  | i + 1 => lxP b i ++ lyP b (b.mn.x + (i : Int)) (b.mx.y - b.mn.y).toNat
theorem lzP_len (b : Bx) (x y : Int) : ∀ k, (lzP b x y k).length = czN b x y k
  | 0 => rfl
  | k + 1 => by
    unfold lzP czN inN
    rw [List.length_append, lzP_len b x y k]
    split <;> rfl
theorem lyP_len (b : Bx) (x : Int) : ∀ j, (lyP b x j).length = cyN b x j
  | 0 => rfl
  | j + 1 => by
    unfold lyP cyN
    rw [List.length_append, lyP_len b x j, lzP_len]
theorem lxP_len (b : Bx) : ∀ i, (lxP b i).length = cxN b i
  | 0 => rfl
  | i + 1 => by
    unfold lxP cxN
    rw [List.length_append, lxP_len b i, lyP_len]
theorem lzP_mem (b : Bx) (x y : Int) (p : Pt) : ∀ k, p ∈ lzP b x y k ↔ p.In ∧ p.x = x ∧ p.y = y ∧ b.mn.z ≤ p.z ∧ p.z < b.mn.z + (k : Int)
  | 0 => by first | (simp [lzP]; done) | (simp [lzP]; omega)
  | k + 1 => by
    have ih := lzP_mem b x y p k
    unfold lzP
    rw [List.mem_append, ih]
    by_cases hin : (⟨x, y, b.mn.z + (k : Int)⟩ : Pt).In
    · rw [if_pos hin, List.mem_singleton]
      constructor
      · rintro (h | rfl)
        · exact ⟨h.1, h.2.1, h.2.2.1, h.2.2.2.1, by omega⟩
        · exact ⟨hin, rfl, rfl, by simp only; omega, by simp only; omega⟩
      · rintro ⟨h1, h2, h3, h4, h5⟩
        by_cases hz : p.z = b.mn.z + (k : Int)
        · right; obtain ⟨a, c, d⟩ := p; simp_all
        · exact Or.inl ⟨h1, h2, h3, h4, by omega⟩
    · rw [if_neg hin]
      constructor
      · rintro (h | h)
        · exact ⟨h.1, h.2.1, h.2.2.1, h.2.2.2.1, by omega⟩
        · cases h
      · rintro ⟨h1, h2, h3, h4, h5⟩
        by_cases hz : p.z = b.mn.z + (k : Int)
        · exfalso; apply hin; obtain ⟨a, c, d⟩ := p; simp_all
        · exact Or.inl ⟨h1, h2, h3, h4, by omega⟩
theorem lyP_mem (b : Bx) (x : Int) (p : Pt) : ∀ j, p ∈ lyP b x j ↔ p.In ∧ p.x = x ∧ (b.mn.y ≤ p.y ∧ p.y < b.mn.y + (j : Int)) ∧ b.mn.z ≤ p.z ∧ p.z < b.mx.z
  | 0 => by first | (simp [lyP]; done) | (simp [lyP]; omega)
  | j + 1 => by
    have ih := lyP_mem b x p j
    unfold lyP
    rw [List.mem_append, ih, lzP_mem]
    constructor
    · rintro (⟨h1, h2, h3, h4⟩ | ⟨h1, h2, h3, h4, h5⟩)
      · exact ⟨h1, h2, by omega, h4⟩
      · exact ⟨h1, h2, by omega, by omega⟩
    · rintro ⟨h1, h2, h3, h4⟩
      by_cases hy : p.y = b.mn.y + (j : Int)
      · exact Or.inr ⟨h1, h2, hy, h4.1, by omega⟩
      · exact Or.inl ⟨h1, h2, by omega, h4⟩
theorem lxP_mem (b : Bx) (p : Pt) : ∀ i, p ∈ lxP b i ↔ p.In ∧ (b.mn.x ≤ p.x ∧ p.x < b.mn.x + (i : Int)) ∧ (b.mn.y ≤ p.y ∧ p.y < b.mx.y) ∧ b.mn.z ≤ p.z ∧ p.z < b.mx.z
  | 0 => by first | (simp [lxP]; done) | (simp [lxP]; omega)
  | i + 1 => by
    have ih := lxP_mem b p i
    unfold lxP
    rw [List.mem_append, ih, lyP_mem]
    constructor
    · rintro (⟨h1, h2, h3, h4⟩ | ⟨h1, h2, h3, h4⟩)
      · exact ⟨h1, by omega, h3, h4⟩
      · exact ⟨h1, by omega, by omega, h4⟩
    · rintro ⟨h1, h2, h3, h4⟩
      by_cases hx : p.x = b.mn.x + (i : Int)
      · exact Or.inr ⟨h1, hx, by omega, h4⟩
      · exact Or.inl ⟨h1, by omega, h3, h4⟩
theorem lzP_nodup (b : Bx) (x y : Int) : ∀ k, (lzP b x y k).Nodup
  | 0 => List.Pairwise.nil
  | k + 1 => by
    unfold lzP
    refine List.pairwise_append.2 ⟨lzP_nodup b x y k, ?_, fun p hp q hq => ?_⟩
    · split
      · exact List.pairwise_singleton _ _
      · exact List.Pairwise.nil
    · have h1 := (lzP_mem b x y p k).1 hp
      split at hq
      · rw [List.mem_singleton] at hq
        rintro rfl
        rw [hq] at h1
        simp only at h1
        omega
      · cases hq
theorem lyP_nodup (b : Bx) (x : Int) : ∀ j, (lyP b x j).Nodup
  | 0 => List.Pairwise.nil
  | j + 1 => by
    unfold lyP
    refine List.pairwise_append.2 ⟨lyP_nodup b x j, lzP_nodup _ _ _ _, fun p hp q hq => ?_⟩
    have h1 := (lyP_mem b x p j).1 hp
    have h2 := (lzP_mem b x _ q _).1 hq
    rintro rfl
    omega
theorem lxP_nodup (b : Bx) : ∀ i, (lxP b i).Nodup
  | 0 => List.Pairwise.nil
  | i + 1 => by
    unfold lxP
    refine List.pairwise_append.2 ⟨lxP_nodup b i, lyP_nodup _ _ _, fun p hp q hq => ?_⟩
    have h1 := (lxP_mem b p i).1 hp
    have h2 := (lyP_mem b _ q _).1 hq
    rintro rfl
    omega
theorem len_le {α : Type} : ∀ (l m : List α), l.Nodup → (∀ x ∈ l, x ∈ m) → l.length ≤ m.length
  | [], m, _, _ => Nat.zero_le _
  | a :: l, m, hn, hs => by
    obtain ⟨m1, m2, rfl⟩ := List.append_of_mem (hs a List.mem_cons_self)
    rw [List.nodup_cons] at hn
    have h := len_le l (m1 ++ m2) hn.2 fun x hx => by
      have h1 := hs x (List.mem_cons_of_mem _ hx)
      rcases List.mem_append.1 h1 with h1 | h1
      · exact List.mem_append_left _ h1
      · rcases List.mem_cons.1 h1 with rfl | h1
        · exact absurd hx hn.1
        · exact List.mem_append_right _ h1
    simp only [List.length_append, List.length_cons] at h ⊢
    omega
/-- The number of cells of a box. -/
def cellsN (b : Bx) : Nat := cxN b (b.mx.x - b.mn.x).toNat
/-- The codes V are those of the box's cells below s. -/
structure Vis (b : Bx) (V : List Nat) (s : Nat) : Prop where
  each : ∀ d ∈ V, d < 4398046511104 ∧ b.cell d ∧ d < s
  nodup : V.Nodup
  full : ∀ d, d < 4398046511104 → b.cell d → d < s → d ∈ V
theorem Vis.nil (b : Bx) : Vis b [] 0 := ⟨fun _ h => (by cases h), List.Pairwise.nil, fun d _ _ h => absurd h (Nat.not_lt_zero _)⟩
theorem code_dec {d : Nat} (h : d < 4398046511104) : code (mDecP d).nat = d := by
  have h1 := mEnc_dec h
  rw [mEnc_code (mDecP_in d)] at h1
  omega
theorem mem_cells {b : Bx} {p : Pt} : p ∈ lxP b (b.mx.x - b.mn.x).toNat ↔ p.In ∧ b.has p := by
  rw [lxP_mem]
  unfold Bx.has
  constructor
  · rintro ⟨h1, h2, h3, h4⟩
    exact ⟨h1, by omega, h3, h4⟩
  · rintro ⟨h1, h2, h3, h4⟩
    exact ⟨h1, by omega, h3, h4⟩
theorem Vis.le {b : Bx} {V : List Nat} {s : Nat} (h : Vis b V s) : V.length ≤ cellsN b := by
  have h1 := len_le (V.map mDecP) (lxP b (b.mx.x - b.mn.x).toNat) ?_ fun p hp => ?_
  · rw [List.length_map, lxP_len] at h1
    exact h1
  · refine List.pairwise_map.2 (h.nodup.imp_of_mem fun {c d} hc hd hne e => hne ?_)
    rw [← code_dec (h.each c hc).1, ← code_dec (h.each d hd).1, e]
  · obtain ⟨d, hd, rfl⟩ := List.mem_map.1 hp
    exact mem_cells.2 ⟨mDecP_in d, (h.each d hd).2.1⟩
theorem Vis.done {b : Bx} {V : List Nat} {s : Nat} (h : Vis b V s) (hn : mNext b (s : Int) < 0) : V.length = cellsN b := by
  refine Nat.le_antisymm h.le ?_
  have hall : ∀ d, d < 4398046511104 → b.cell d → d < s := by
    rcases mNext_ok b (s : Int) with ⟨c, _, _, _, _, e, _⟩ | ⟨h1, _⟩
    · omega
    · intro d hd hc
      have := h1 d (Nat.zero_le _) hd hc
      omega
  have h1 := len_le ((lxP b (b.mx.x - b.mn.x).toNat).map fun p => code p.nat) V ?_ fun d hd => ?_
  · rw [List.length_map, lxP_len] at h1
    exact h1
  · refine List.pairwise_map.2 ((lxP_nodup b _).imp_of_mem fun {p q} hp hq hne e => hne ?_)
    rw [← mDecP_code (mem_cells.1 hp).1, ← mDecP_code (mem_cells.1 hq).1, e]
  · obtain ⟨p, hp, rfl⟩ := List.mem_map.1 hd
    obtain ⟨hi, hb⟩ := mem_cells.1 hp
    have hc := (cell_has (b := b) hi).2 hb
    exact h.full _ (code_lt _) hc (hall _ (code_lt _) hc)
/-- One more code. -/
theorem Vis.step {b : Bx} {V : List Nat} {s : Nat} (h : Vis b V s) (hn : 0 ≤ mNext b (s : Int)) : ∃ c : Nat, mNext b (s : Int) = (c : Int) ∧ c < 4398046511104 ∧ mDec (c : Int) = (mDecP c, true) ∧ ((mDecP c).In ∧ b.has (mDecP c)) ∧ Vis b (V ++ [c]) (c + 1) := by
  rcases mNext_ok b (s : Int) with ⟨c, _, h2, h3, h4, e, h5⟩ | ⟨_, e⟩
  · refine ⟨c, e, h2, ?_, ⟨mDecP_in c, h3⟩, ⟨fun d hd => ?_, ?_, fun d hd hc hlt => ?_⟩⟩
    · unfold mDec
      rw [if_pos ⟨by omega, by omega⟩, Int.toNat_natCast]
    · rcases List.mem_append.1 hd with hd | hd
      · obtain ⟨a1, a2, a3⟩ := h.each d hd
        exact ⟨a1, a2, by omega⟩
      · rw [List.mem_singleton] at hd
        subst hd
        exact ⟨h2, h3, by omega⟩
    · refine List.pairwise_append.2 ⟨h.nodup, List.pairwise_singleton _ _, fun a ha d hd => ?_⟩
      rw [List.mem_singleton] at hd
      have := (h.each a ha).2.2
      omega
    · by_cases hds : d < s
      · exact List.mem_append_left _ (h.full d hd hc hds)
      · have := h5 d (Nat.zero_le _) hd hc (by omega)
        exact List.mem_append_right _ (by rw [List.mem_singleton]; omega)
  · omega
theorem next_after {b : Bx} {s : Nat} (h : 0 ≤ mNext b (s : Int)) : (s : Int) ≤ mNext b (s : Int) := by
  rcases mNext_ok b (s : Int) with ⟨c, _, _, _, h4, e, _⟩ | ⟨_, e⟩
  · omega
  · omega
end Go.Proofs.Ytkfijpghjjnpkaa
