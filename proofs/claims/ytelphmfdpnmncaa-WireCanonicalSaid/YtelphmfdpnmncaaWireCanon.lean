/-
  What was decoded encodes to the bytes it was decoded of: the plain laws of WireCanonical. No program in sight.
-/
import Derived.Test.YtelphmfdpnmncaaWireCut
namespace Go.Proofs.Ytelphmfdpnmncaa
open Go.RowKit

theorem many_i64 (l : List UInt8) : ∀ (n at_ : Nat) (acc : List Int), (∀ x ∈ acc, isI64 x) → ∀ x ∈ (many dec l n at_ acc).1, isI64 x
  | 0, _, _, h => h
  | n + 1, at_, acc, h => by
    rw [many]
    split
    · intro x hx; simp at hx
    · refine many_i64 l n _ _ ?_
      intro x hx
      rcases List.mem_append.1 hx with hx | hx
      · exact h x hx
      · rw [List.mem_singleton] at hx
        subst hx
        rcases dec_facts (l := l.drop at_) (n := (dec (l.drop at_)).1) (u := (dec (l.drop at_)).2.1) (e := (dec (l.drop at_)).2.2) rfl with ⟨_, _, _, _, h⟩ | ⟨h, _⟩
        · exact h
        · rw [h]; exact ⟨by decide, by decide⟩
theorem decI_i64 {l : List UInt8} {r : List Int} {u e : Int} (h : decI l = (r, u, e)) : ∀ x ∈ r, isI64 x := by
  have hr : r = (decI l).1 := by rw [h]
  subst hr
  unfold decI decList
  split
  · intro x hx; simp at hx
  · exact many_i64 l _ _ _ (by intro x hx; simp at hx)
theorem many_nil {α : Type} {one : List UInt8 → α × Int × Int} (l : List UInt8) : ∀ (n at_ : Nat) (acc r : List α) (u e : Int), many one l n at_ acc = (r, u, e) → e ≠ 0 → r = []
  | 0, _, _, r, u, e, h, he => by simp [many] at h; exact absurd h.2.2.symm he
  | n + 1, at_, acc, r, u, e, h, he => by
    rw [many] at h
    split at h
    · simp only [Prod.mk.injEq] at h; exact h.1.symm
    · exact many_nil l n _ _ r u e h he
theorem decList_nil {α : Type} {one : List UInt8 → α × Int × Int} {l : List UInt8} {r : List α} {u e : Int} (h : decList one l = (r, u, e)) (he : e ≠ 0) : r = [] := by
  unfold decList at h
  split at h
  · simp only [Prod.mk.injEq] at h; exact h.1.symm
  · exact many_nil l _ _ _ r u e h he
/-- What the closure is told of a decoder's answer, with the length of what it encodes to. -/
def Canon (l L : List UInt8) (u e : Int) : Prop := (e = 5 ∨ e = 6 ∨ e = 0 ∧ ∃ U : Nat, u = U ∧ U ≤ l.length ∧ L = l.take U) ∧ L.length ≤ l.length + 10
theorem canon_of {l L : List UInt8} {u e : Int} (h5 : e = 0 ∨ e = 5 ∨ e = 6) (h0 : e = 0 → l.take u.toNat = L ∧ 0 ≤ u ∧ u ≤ l.length) (h1 : e ≠ 0 → L.length ≤ 10) : Canon l L u e := by
  rcases h5 with rfl | h5
  · obtain ⟨h2, h3, h4⟩ := h0 rfl
    refine ⟨Or.inr (Or.inr ⟨rfl, u.toNat, by omega, by omega, h2.symm⟩), ?_⟩
    rw [← h2, List.length_take]; omega
  · refine ⟨by omega, ?_⟩
    have := h1 (by omega)
    omega
theorem canon_n {l : List UInt8} {n u e : Int} (h : dec l = (n, u, e)) : Canon l (enc n) u e ∧ isI64 n := by
  have hf := dec_facts h
  refine ⟨canon_of (by omega) (fun he => by subst he; exact dec_canon' l n u h) (fun _ => enc_len n), ?_⟩
  rcases hf with ⟨_, _, _, _, h⟩ | ⟨rfl, _⟩
  · exact h
  · exact ⟨by decide, by decide⟩
theorem decS_err {l s : List UInt8} {u e : Int} (h : decS l = (s, u, e)) : e = 0 ∨ e = 5 ∨ e = 6 := by
  obtain ⟨a, b, c, hd⟩ : ∃ a b c, lenDec l 1 = (a, b, c) := ⟨_, _, _, rfl⟩
  have hf := lenDec_facts (by omega) hd
  unfold decS at h
  rw [hd] at h
  simp only at h
  split at h <;> simp only [Prod.mk.injEq] at h <;> omega
theorem canon_s {l s : List UInt8} {u e : Int} (h : decS l = (s, u, e)) : Canon l (encS s) u e := by
  refine canon_of (decS_err h) (fun he => by subst he; exact decS_canon h) (fun he => ?_)
  have hs : s = [] := by
    unfold decS at h
    split at h
    · simp only [Prod.mk.injEq] at h; exact h.1.symm
    · simp only [Prod.mk.injEq] at h; exact absurd h.2.2.symm he
  subst hs
  decide
theorem many_err5 {α : Type} {one : List UInt8 → α × Int × Int} (hone : ∀ m, (one m).2.2 = 0 ∨ (one m).2.2 = 5 ∨ (one m).2.2 = 6) (l : List UInt8) : ∀ (n at_ : Nat) (acc : List α), (many one l n at_ acc).2.2 = 0 ∨ (many one l n at_ acc).2.2 = 5 ∨ (many one l n at_ acc).2.2 = 6
  | 0, _, _ => Or.inl rfl
  | n + 1, at_, acc => by
    rw [many]
    split
    · exact hone _
    · exact many_err5 hone l n _ _
theorem decList_err {α : Type} {one : List UInt8 → α × Int × Int} (hone : ∀ m, (one m).2.2 = 0 ∨ (one m).2.2 = 5 ∨ (one m).2.2 = 6) {l : List UInt8} {r : List α} {u e : Int} (h : decList one l = (r, u, e)) : e = 0 ∨ e = 5 ∨ e = 6 := by
  have he : e = (decList one l).2.2 := by rw [h]
  subst he
  unfold decList
  split
  · obtain ⟨a, b, c, hd⟩ : ∃ a b c, lenDec l 1 = (a, b, c) := ⟨_, _, _, rfl⟩
    have hf := lenDec_facts (by omega) hd
    rw [hd]
    simp only
    omega
  · exact many_err5 hone l _ _ _
theorem canon_i {l : List UInt8} {r : List Int} {u e : Int} (h : decI l = (r, u, e)) : Canon l (encI r) u e := by
  refine canon_of (decList_err (fun m => ?_) h) (fun he => by subst he; exact decI_canon h) (fun he => ?_)
  · have := dec_facts (l := m) (n := (dec m).1) (u := (dec m).2.1) (e := (dec m).2.2) rfl; omega
  · obtain rfl := decList_nil h he
    decide
theorem canon_t {l : List UInt8} {r : List (List UInt8)} {u e : Int} (h : decT l = (r, u, e)) : Canon l (encT r) u e := by
  refine canon_of (decList_err (fun m => ?_) h) (fun he => by subst he; exact decT_canon h) (fun he => ?_)
  · exact decS_err (l := m) (s := (decS m).1) (u := (decS m).2.1) (e := (decS m).2.2) rfl
  · obtain rfl := decList_nil h he
    decide
theorem canon_d {l D : List UInt8} {u e : Int} (h : decD l = (D, u, e)) : Canon l (encD (D.length / 16) D) u e := by
  obtain ⟨a, b, c, hd⟩ : ∃ a b c, lenDec l 16 = (a, b, c) := ⟨_, _, _, rfl⟩
  have hf := lenDec_facts (by omega) hd
  have h2 := h
  unfold decD at h2
  rw [hd] at h2
  simp only at h2
  split at h2
  · rename_i hc
    simp only [Prod.mk.injEq] at h2
    obtain ⟨rfl, rfl, rfl⟩ := h2
    exact canon_of (by omega) (fun he => absurd he hc) (fun _ => by decide)
  · rename_i hc
    simp only [Prod.mk.injEq] at h2
    obtain ⟨_, _, rfl⟩ := h2
    exact canon_of (by omega) (fun _ => by have := decD_canon h; exact ⟨this.1, this.2.2⟩) (fun he => absurd rfl he)
end Go.Proofs.Ytelphmfdpnmncaa
