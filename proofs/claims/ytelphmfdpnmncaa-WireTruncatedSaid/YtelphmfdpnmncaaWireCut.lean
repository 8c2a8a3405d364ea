/-
  What was encoded and then cut short is answered with the error of a cut: the plain laws. No program in sight.
-/
import Derived.Test.YtelphmfdpnmncaaWireMath
namespace Go.Proofs.Ytelphmfdpnmncaa
open Go.RowKit

/-- A decoder that answers the same when more bytes follow, unless it missed some. -/
def Stab {α : Type} (f : List UInt8 → α × Int × Int) : Prop := ∀ l t : List UInt8, (f l).2.2 = 5 ∨ f (l ++ t) = f l
theorem decGo_stab : ∀ (l t : List UInt8) (k z : Nat), (decGo l k z).2.2 = 5 ∨ decGo (l ++ t) k z = decGo l k z
  | [], _, _, _ => Or.inl rfl
  | c :: l, t, k, z => by
    rw [List.cons_append, decGo, decGo]
    split
    · exact Or.inr rfl
    · split
      · exact Or.inr rfl
      · exact decGo_stab l t _ _
theorem dec_stab : Stab dec := fun l t => decGo_stab l t 0 0
theorem lenDec_stab {least : Nat} (hl : 1 ≤ least) : Stab (fun l => lenDec l least) := by
  intro l t
  simp only
  rcases dec_stab l t with h | h
  · left; unfold lenDec; rw [if_pos (by rw [h]; decide)]; exact h
  · unfold lenDec
    rw [h]
    split
    · exact Or.inr rfl
    · split
      · exact Or.inr rfl
      · split
        · exact Or.inl rfl
        · right
          rename_i h3
          rw [if_neg]
          have h4 : (dec l).1 ≤ ((l.length : Int) - (dec l).2.1) / (least : Int) := by omega
          have h5 := (Int.le_ediv_iff_mul_le (by omega : (0 : Int) < least)).1 h4
          have h6 : (dec l).1 ≤ (((l ++ t).length : Int) - (dec l).2.1) / (least : Int) := by
            rw [Int.le_ediv_iff_mul_le (by omega), List.length_append]; omega
          omega
theorem decS_stab : Stab decS := by
  intro l t
  rcases lenDec_stab (Nat.le_refl 1) l t with h | h
  · left; simp only at h; unfold decS; rw [if_pos (by rw [h]; decide)]; exact h
  · simp only at h
    unfold decS
    rw [h]
    obtain ⟨a, b, c, hd⟩ : ∃ a b c, lenDec l 1 = (a, b, c) := ⟨_, _, _, rfl⟩
    have hf := lenDec_facts (by omega) hd
    rw [hd]
    simp only
    split
    · exact Or.inr rfl
    · right
      have : (List.take a.toNat (List.drop b.toNat (l ++ t))) = List.take a.toNat (List.drop b.toNat l) := by
        rw [List.drop_append_of_le_length (by omega), List.take_append_of_le_length (by rw [List.length_drop]; omega)]
      rw [this]
theorem decD_stab : Stab decD := by
  intro l t
  rcases lenDec_stab (by omega : 1 ≤ 16) l t with h | h
  · left; simp only at h; unfold decD; rw [if_pos (by rw [h]; decide)]; exact h
  · simp only at h
    unfold decD
    rw [h]
    obtain ⟨a, b, c, hd⟩ : ∃ a b c, lenDec l 16 = (a, b, c) := ⟨_, _, _, rfl⟩
    have hf := lenDec_facts (by omega) hd
    rw [hd]
    simp only
    split
    · exact Or.inr rfl
    · right
      have : (List.take (a.toNat * 16) (List.drop b.toNat (l ++ t))) = List.take (a.toNat * 16) (List.drop b.toNat l) := by
        rw [List.drop_append_of_le_length (by omega), List.take_append_of_le_length (by rw [List.length_drop]; omega)]
      rw [this]
theorem many_stab {α : Type} {one : List UInt8 → α × Int × Int} (hone : Stab one) (hin : ∀ l, (one l).2.2 = 0 → (one l).2.1 ≤ l.length) (l t : List UInt8) :
    ∀ (n at_ : Nat) (acc : List α), at_ ≤ l.length → (many one l n at_ acc).2.2 = 5 ∨ many one (l ++ t) n at_ acc = many one l n at_ acc
  | 0, _, _, _ => Or.inr rfl
  | n + 1, at_, acc, ha => by
    rw [many, many, List.drop_append_of_le_length ha]
    rcases hone (l.drop at_) t with h | h
    · left; rw [if_pos (by rw [h]; decide)]; exact h
    · rw [h]
      split
      · exact Or.inr rfl
      · rename_i h2
        refine many_stab hone hin l t n _ _ ?_
        have := hin (l.drop at_) (by omega)
        rw [List.length_drop] at this
        omega
theorem decList_stab {α : Type} {one : List UInt8 → α × Int × Int} (hone : Stab one) (hin : ∀ l, (one l).2.2 = 0 → (one l).2.1 ≤ l.length) : Stab (decList one) := by
  intro l t
  rcases lenDec_stab (Nat.le_refl 1) l t with h | h
  · left; simp only at h; unfold decList; rw [if_pos (by rw [h]; decide)]; exact h
  · simp only at h
    unfold decList
    rw [h]
    obtain ⟨a, b, c, hd⟩ : ∃ a b c, lenDec l 1 = (a, b, c) := ⟨_, _, _, rfl⟩
    have hf := lenDec_facts (by omega) hd
    rw [hd]
    simp only
    split
    · exact Or.inr rfl
    · exact many_stab hone hin l t _ _ _ (by omega)
theorem dec_in (l : List UInt8) (h : (dec l).2.2 = 0) : (dec l).2.1 ≤ l.length := (dec_canon' l (dec l).1 (dec l).2.1 (by rw [← h])).2.2
theorem decS_in (l : List UInt8) (h : (decS l).2.2 = 0) : (decS l).2.1 ≤ l.length := (decS_canon (l := l) (s := (decS l).1) (u := (decS l).2.1) (by rw [← h])).2.2
theorem decI_stab : Stab decI := decList_stab dec_stab dec_in
theorem decT_stab : Stab decT := decList_stab decS_stab decS_in
/-- What every proper beginning of an encoding is answered with. -/
theorem stab_cut {α : Type} {f : List UInt8 → α × Int × Int} {b : List UInt8} {x : α} (hs : Stab f) (hin : ∀ l x u, f l = (x, u, 0) → u ≤ l.length) (hb : f b = (x, (b.length : Int), 0)) {i : Nat} (hi : i < b.length) : (f (b.take i)).2.2 = 5 := by
  rcases hs (b.take i) (b.drop i) with h | h
  · exact h
  · rw [List.take_append_drop, hb] at h
    have := hin _ _ _ h.symm
    rw [List.length_take] at this
    omega
theorem cut_enc {n : Int} (hn : isI64 n) {i : Nat} (hi : i < (enc n).length) : (dec ((enc n).take i)).2.2 = 5 :=
  stab_cut dec_stab (fun l x u h => (dec_canon' l x u h).2.2) (by have := dec_enc n [] hn; rwa [List.append_nil] at this) hi
theorem cut_encS {s : List UInt8} (hs : s.length ≤ 9223372036854775807) {i : Nat} (hi : i < (encS s).length) : (decS ((encS s).take i)).2.2 = 5 :=
  stab_cut decS_stab (fun _ _ _ h => (decS_canon h).2.2) (by have := decS_enc s [] hs; rwa [List.append_nil] at this) hi
theorem cut_encI {l : List Int} (hl : l.length ≤ 9223372036854775807) (h : ∀ x ∈ l, isI64 x) {i : Nat} (hi : i < (encI l).length) : (decI ((encI l).take i)).2.2 = 5 :=
  stab_cut decI_stab (fun _ _ _ h => (decI_canon h).2.2) (by have := decI_enc l [] hl h; rwa [List.append_nil] at this) hi
theorem cut_encT {l : List (List UInt8)} (hl : l.length ≤ 9223372036854775807) (h : ∀ x ∈ l, x.length ≤ 9223372036854775807) {i : Nat} (hi : i < (encT l).length) : (decT ((encT l).take i)).2.2 = 5 :=
  stab_cut decT_stab (fun _ _ _ h => (decT_canon h).2.2) (by have := decT_enc l [] hl h; rwa [List.append_nil] at this) hi
theorem cut_encD {n : Nat} {D : List UInt8} (hn : n ≤ 9223372036854775807) (hD : D.length = n * 16) {i : Nat} (hi : i < (encD n D).length) : (decD ((encD n D).take i)).2.2 = 5 :=
  stab_cut decD_stab (fun _ _ _ h => (decD_canon h).2.2.2) (by have := decD_enc n D [] hn hD; rwa [List.append_nil] at this) hi
theorem encT_len (x : List (List UInt8)) : (encT x).length ≤ 10 + 10 * x.length + (x.map List.length).sum := by
  have h1 := enc_len x.length
  have h2 : ∀ y : List (List UInt8), (y.map encS).flatten.length ≤ 10 * y.length + (y.map List.length).sum := by
    intro y
    induction y with
    | nil => simp
    | cons a y ih =>
      have := enc_len a.length
      simp only [List.map_cons, List.flatten_cons, List.length_append, List.sum_cons, List.length_cons, encS]
      omega
  have := h2 x
  unfold encT; rw [List.length_append]; omega
theorem total_mem : ∀ (x : List (List UInt8)) (y : List UInt8), y ∈ x → y.length ≤ (x.map List.length).sum
  | a :: x, y, h => by
    simp only [List.map_cons, List.sum_cons]
    rcases List.mem_cons.1 h with rfl | h
    · omega
    · have := total_mem x y h; omega
end Go.Proofs.Ytelphmfdpnmncaa
