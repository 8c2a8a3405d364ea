/-
  Plain laws of the wire encoding: decoding an encoding, canonical encodings, proper prefixes, lengths. No program in sight.
-/
import Derived.Test.YtpbebmbkcpdbeaaDecSpec
import Derived.Test.YtpbebmbkcpdbeaaBase
namespace Go.Proofs.Ytpbebmbkcpdbeaa
open Go.RowKit

theorem decGo_enc (t : List UInt8) : ∀ (j k z acc : Nat), k + j = 9 → z * 128 ^ k < 18446744073709551616 → (k = 0 ∨ 0 < z) →
    decGo (encN j z ++ t) k acc = (unzz (acc + z * 128 ^ k), (k : Int) + (encN j z).length, 0)
  | 0, k, z, acc, hk, hz, h0 => by
    obtain rfl : k = 9 := by omega
    have hz1 : z < 2 := by
      rcases Nat.lt_or_ge z 2 with h | h
      · exact h
      · have := Nat.mul_le_mul_right (128 ^ 9) h; omega
    obtain rfl : z = 1 := by omega
    simp [encN, decGo]
  | j + 1, k, z, acc, hk, hz, h0 => by
    by_cases h : z < 128
    · rw [encN_last _ _ h]
      simp only [List.cons_append, List.nil_append, decGo]
      rw [ofNat_toNat8 z (by omega), if_neg (by omega), if_pos h, Nat.mod_eq_of_lt h]
      simp
    · rw [encN_step j z (by omega)]
      simp only [List.cons_append, decGo]
      rw [ofNat_toNat8 _ (by omega), if_neg (by omega), if_neg (by omega)]
      have hd : z / 128 * 128 ^ (k + 1) + z % 128 * 128 ^ k = z * 128 ^ k := by
        rw [Nat.pow_succ, Nat.mul_comm (128 ^ k) 128, ← Nat.mul_assoc, ← Nat.add_mul]
        congr 1; omega
      rw [decGo_enc t j (k + 1) (z / 128) _ (by omega) (by omega) (Or.inr (by omega))]
      have e : acc + (z % 128 + 128) % 128 * 128 ^ k + z / 128 * 128 ^ (k + 1) = acc + z * 128 ^ k := by
        rw [show (z % 128 + 128) % 128 = z % 128 from by omega]; omega
      rw [e]
      simp
      omega
theorem dec_enc (n : Int) (t : List UInt8) (h : isI64 n) : dec (enc n ++ t) = (n, ((enc n).length : Int), 0) := by
  unfold dec enc
  rw [decGo_enc t 9 0 (zz n) 0 rfl (by have := zz_lt n h.1 h.2; omega) (Or.inl rfl)]
  simp [unzz_zz]

theorem decGo_canon : ∀ (l : List UInt8) (k acc : Nat) (n u : Int), k ≤ 9 → decGo l k acc = (n, u, 0) →
    (k : Int) < u ∧ ∃ z, l.take (u.toNat - k) = encN (9 - k) z ∧ n = unzz (acc + z * 128 ^ k) ∧ (k = 0 ∨ 0 < z)
  | [], k, acc, n, u, hk, h => by simp [decGo] at h
  | c :: t, k, acc, n, u, hk, h => by
    rw [decGo] at h
    by_cases h1 : (k = 9 ∧ 1 < c.toNat) ∨ (0 < k ∧ c.toNat = 0)
    · rw [if_pos h1] at h; simp at h
    · rw [if_neg h1] at h
      by_cases h2 : c.toNat < 128
      · rw [if_pos h2] at h
        simp only [Prod.mk.injEq, and_true] at h
        obtain ⟨h3, h4⟩ := h
        refine ⟨by omega, c.toNat, ?_, ?_, by omega⟩
        · rw [encN_last _ _ h2, show u.toNat - k = 1 from by omega]
          simp
        · rw [← h3, Nat.mod_eq_of_lt h2]
      · rw [if_neg h2] at h
        have hk9 : k + 1 ≤ 9 := by omega
        obtain ⟨h5, z, h6, h7, h8⟩ := decGo_canon t (k + 1) _ n u hk9 h
        have hz : 0 < z := by omega
        have hc := c.toNat_lt
        refine ⟨by omega, z * 128 + (c.toNat - 128), ?_, ?_, by omega⟩
        · have e1 : 9 - k = (9 - (k + 1)) + 1 := by omega
          have e2 : u.toNat - k = (u.toNat - (k + 1)) + 1 := by omega
          rw [e2, List.take_succ_cons, h6, e1, encN_step _ _ (by omega)]
          have e3 : (z * 128 + (c.toNat - 128)) % 128 + 128 = c.toNat := by omega
          have e4 : (z * 128 + (c.toNat - 128)) / 128 = z := by omega
          rw [e3, e4]
          simp
        · rw [h7]
          congr 1
          rw [Nat.pow_succ, Nat.add_mul, show c.toNat % 128 = c.toNat - 128 from by omega, Nat.mul_assoc, Nat.mul_comm 128 (128 ^ k)]
          omega
theorem dec_canon {l : List UInt8} {n u : Int} (h : dec l = (n, u, 0)) : l.take u.toNat = enc n := by
  obtain ⟨h1, z, h2, h3, _⟩ := decGo_canon l 0 0 n u (by omega) h
  simp at h2 h3
  rw [h2, h3, enc, zz_unzz]

theorem lenDec_enc (n : Nat) (least : Nat) (t : List UInt8) (h1 : 1 ≤ least) (hn : n ≤ 9223372036854775807) (h : n * least ≤ t.length) : lenDec (enc n ++ t) least = ((n : Int), ((enc n).length : Int), 0) := by
  unfold lenDec
  rw [dec_enc n t ⟨by omega, by omega⟩]
  simp only [ne_eq, not_true_eq_false, if_false]
  rw [if_neg (by omega), if_neg]
  rw [List.length_append]
  have : (n : Int) ≤ (((enc n).length + t.length : Nat) - ((enc n).length : Int)) / (least : Int) := by
    rw [Int.le_ediv_iff_mul_le (by omega)]
    have h' : ((n * least : Nat) : Int) ≤ t.length := by omega
    rw [Int.natCast_mul] at h'
    omega
  omega
theorem lenDec_dec {l : List UInt8} {least : Nat} {n u : Int} (h : lenDec l least = (n, u, 0)) : dec l = (n, u, 0) := by
  obtain ⟨a, b, c, hd⟩ : ∃ a b c, dec l = (a, b, c) := ⟨_, _, _, rfl⟩
  unfold lenDec at h
  rw [hd] at h ⊢
  simp only at h
  split at h
  · rename_i hc; simp only [Prod.mk.injEq] at h; exact absurd h.2.2 hc
  · rename_i hc
    split at h
    · simp at h
    · split at h
      · simp at h
      · simp only [Prod.mk.injEq] at h
        obtain ⟨rfl, rfl, _⟩ := h
        have : c = 0 := by omega
        rw [this]

theorem decS_enc (s t : List UInt8) (hs : s.length ≤ 9223372036854775807) : decS (encS s ++ t) = (s, ((encS s).length : Int), 0) := by
  unfold decS encS
  rw [List.append_assoc, lenDec_enc s.length 1 (s ++ t) (by omega) hs (by simp)]
  simp
theorem decS_canon {l s : List UInt8} {u : Int} (h : decS l = (s, u, 0)) : l.take u.toNat = encS s ∧ 0 ≤ u ∧ u ≤ l.length := by
  obtain ⟨a, b, c, hd⟩ : ∃ a b c, lenDec l 1 = (a, b, c) := ⟨_, _, _, rfl⟩
  have hf := lenDec_facts (by omega) hd
  unfold decS at h
  rw [hd] at h
  by_cases h1 : c = 0
  · subst h1
    have hc := dec_canon (lenDec_dec hd)
    simp at h
    obtain ⟨rfl, rfl⟩ := h
    refine ⟨?_, by omega, by omega⟩
    unfold encS
    have e : ((l.drop b.toNat).take a.toNat).length = a.toNat := by rw [List.length_take, List.length_drop]; omega
    rw [e, show ((a.toNat : Nat) : Int) = a from by omega, ← hc, show (b + a).toNat = b.toNat + a.toNat from by omega, List.take_add]
  · simp [h1] at h

section
variable {α : Type} {one : List UInt8 → α × Int × Int} {e : α → List UInt8}
theorem many_enc (l t : List UInt8) : ∀ (xs : List α) (at_ : Nat) (acc : List α), (∀ x ∈ xs, ∀ t, one (e x ++ t) = (x, ((e x).length : Int), 0)) → l.drop at_ = (xs.map e).flatten ++ t →
    many one l xs.length at_ acc = (acc ++ xs, ((at_ + (xs.map e).flatten.length : Nat) : Int), 0)
  | [], at_, acc, _, _ => by simp [many]
  | x :: xs, at_, acc, h, hd => by
    have hx := h x (by simp)
    rw [List.length_cons, many, hd, List.map_cons, List.flatten_cons, List.append_assoc, hx]
    simp only [ne_eq, not_true_eq_false, if_false, Int.toNat_natCast]
    rw [many_enc l t xs (at_ + (e x).length) (acc ++ [x]) (fun y hy => h y (by simp [hy]))]
    · simp; omega
    · rw [← List.drop_drop, hd]
      simp
theorem many_canon (l : List UInt8) (hone : ∀ m x u, one m = (x, u, 0) → m.take u.toNat = e x ∧ 0 ≤ u ∧ u ≤ m.length) : ∀ (n at_ : Nat) (acc r : List α) (u : Int), at_ ≤ l.length → many one l n at_ acc = (r, u, 0) →
    ∃ xs : List α, r = acc ++ xs ∧ xs.length = n ∧ (at_ : Int) ≤ u ∧ u ≤ l.length ∧ l.take u.toNat = l.take at_ ++ (xs.map e).flatten
  | 0, at_, acc, r, u, hle, h => by
    rw [many] at h
    simp only [Prod.mk.injEq] at h
    obtain ⟨rfl, rfl, _⟩ := h
    exact ⟨[], by simp, rfl, by omega, by omega, by simp⟩
  | n + 1, at_, acc, r, u, hle, h => by
    obtain ⟨x, v, c, hx⟩ : ∃ x v c, one (l.drop at_) = (x, v, c) := ⟨_, _, _, rfl⟩
    rw [many, hx] at h
    by_cases hc : c = 0
    · subst hc
      simp only [ne_eq, not_true_eq_false, if_false] at h
      obtain ⟨h1, h2, h3⟩ := hone _ _ _ hx
      rw [List.length_drop] at h3
      obtain ⟨xs, rfl, h5, h6, h7, h8⟩ := many_canon l hone n (at_ + v.toNat) _ r u (by omega) h
      refine ⟨x :: xs, by simp, by simp [h5], by omega, h7, ?_⟩
      rw [h8, List.take_add, h1]
      simp
    · simp [hc] at h
end
theorem flat_ge {α : Type} (e : α → List UInt8) (xs : List α) (h : ∀ x, 0 < (e x).length) : xs.length ≤ (xs.map e).flatten.length := by
  induction xs with
  | nil => simp
  | cons x xs ih => have := h x; simp at ih ⊢; omega
theorem flat_le {α : Type} (e : α → List UInt8) (b : Nat) (h : ∀ x, (e x).length ≤ b) (xs : List α) : (xs.map e).flatten.length ≤ b * xs.length := by
  induction xs with
  | nil => simp
  | cons x xs ih => have := h x; rw [List.map_cons, List.flatten_cons, List.length_append, List.length_cons, Nat.mul_add]; omega
theorem cut_cat (a b : List UInt8) : ((bcs (a ++ b)).drop a.length).take b.length = bcs b := by
  rw [bcs_append, ← bcs_length a, List.drop_left, ← bcs_length b, List.take_length]
theorem rd_take {w : World} {B n c k : Nat} {A : Option Addr} {l : List UInt8} (h : Rd w B 1 A n c (bcs l)) (hk : k ≤ n) : Rd w B 1 A k c (bcs (l.take k)) := by
  have hl := h.len
  rw [bcs_length, Nat.mul_one] at hl
  refine ⟨by rw [bcs_length, List.length_take]; omega, Nat.le_trans hk h.le, h.cap, fun hn => ?_⟩
  obtain ⟨b, off, e, hb, hc⟩ := h.cells (by omega)
  refine ⟨b, off, e, hb, fun j u hu => hc j u ?_⟩
  rw [bcs, List.map_take, List.getElem?_take] at hu
  split at hu
  · exact hu
  · cases hu
theorem encS_pos (s : List UInt8) : 0 < (encS s).length := by unfold encS; have := enc_pos s.length; simp; omega
theorem decList_enc {α : Type} {one : List UInt8 → α × Int × Int} {e : α → List UInt8} (xs : List α) (t : List UInt8) (hl : xs.length ≤ 9223372036854775807) (h : ∀ x ∈ xs, ∀ t, one (e x ++ t) = (x, ((e x).length : Int), 0)) (hp : ∀ x, 0 < (e x).length) :
    decList one (enc xs.length ++ (xs.map e).flatten ++ t) = (xs, ((enc xs.length ++ (xs.map e).flatten).length : Int), 0) := by
  unfold decList
  rw [List.append_assoc, lenDec_enc xs.length 1 _ (by omega) hl (by have := flat_ge e xs hp; rw [List.length_append]; omega)]
  simp only [ne_eq, not_true_eq_false, if_false, Int.toNat_natCast]
  rw [many_enc (e := e) _ t xs (enc xs.length).length [] h (by simp)]
  simp
theorem decI_enc (l : List Int) (t : List UInt8) (hl : l.length ≤ 9223372036854775807) (h : ∀ x ∈ l, isI64 x) : decI (encI l ++ t) = (l, ((encI l).length : Int), 0) :=
  decList_enc l t hl (fun x hx t => dec_enc x t (h x hx)) enc_pos
theorem decT_enc (l : List (List UInt8)) (t : List UInt8) (hl : l.length ≤ 9223372036854775807) (h : ∀ x ∈ l, x.length ≤ 9223372036854775807) : decT (encT l ++ t) = (l, ((encT l).length : Int), 0) :=
  decList_enc l t hl (fun x hx t => decS_enc x t (h x hx)) encS_pos
theorem decD_enc (n : Nat) (D t : List UInt8) (hn : n ≤ 9223372036854775807) (hD : D.length = n * 16) : decD (encD n D ++ t) = (D, ((encD n D).length : Int), 0) := by
  unfold decD encD
  rw [List.append_assoc, lenDec_enc n 16 (D ++ t) (by omega) hn (by simp; omega)]
  simp [hD]
theorem decList_canon {α : Type} {one : List UInt8 → α × Int × Int} {e : α → List UInt8} (hone : ∀ m x u, one m = (x, u, 0) → m.take u.toNat = e x ∧ 0 ≤ u ∧ u ≤ m.length) {l : List UInt8} {r : List α} {u : Int} (h : decList one l = (r, u, 0)) :
    l.take u.toNat = enc r.length ++ (r.map e).flatten ∧ 0 ≤ u ∧ u ≤ l.length := by
  obtain ⟨a, b, c, hd⟩ : ∃ a b c, lenDec l 1 = (a, b, c) := ⟨_, _, _, rfl⟩
  have hf := lenDec_facts (by omega) hd
  unfold decList at h
  rw [hd] at h
  by_cases h1 : c = 0
  · subst h1
    have hc := dec_canon (lenDec_dec hd)
    simp only [ne_eq, not_true_eq_false, if_false] at h
    obtain ⟨xs, h2, h3, h4, h5, h6⟩ := many_canon l hone a.toNat b.toNat [] r u (by omega) h
    simp only [List.nil_append] at h2
    subst h2
    refine ⟨?_, by omega, h5⟩
    rw [h6, hc, h3, show ((a.toNat : Nat) : Int) = a from by omega]
  · simp [h1] at h
theorem dec_canon' (m : List UInt8) (x u : Int) (h : dec m = (x, u, 0)) : m.take u.toNat = enc x ∧ 0 ≤ u ∧ u ≤ m.length := by
  refine ⟨dec_canon h, ?_⟩
  rcases dec_facts h with ⟨_, h1, _, h2, _⟩ | ⟨_, h1, h2⟩ <;> omega
theorem decI_canon {l : List UInt8} {r : List Int} {u : Int} (h : decI l = (r, u, 0)) : l.take u.toNat = encI r ∧ 0 ≤ u ∧ u ≤ l.length := decList_canon dec_canon' h
theorem decT_canon {l : List UInt8} {r : List (List UInt8)} {u : Int} (h : decT l = (r, u, 0)) : l.take u.toNat = encT r ∧ 0 ≤ u ∧ u ≤ l.length := decList_canon (fun _ _ _ h => decS_canon h) h
theorem decD_canon {l D : List UInt8} {u : Int} (h : decD l = (D, u, 0)) : l.take u.toNat = encD (D.length / 16) D ∧ D.length % 16 = 0 ∧ 0 ≤ u ∧ u ≤ l.length := by
  obtain ⟨a, b, c, hd⟩ : ∃ a b c, lenDec l 16 = (a, b, c) := ⟨_, _, _, rfl⟩
  have hf := lenDec_facts (by omega) hd
  unfold decD at h
  rw [hd] at h
  by_cases h1 : c = 0
  · subst h1
    have hc := dec_canon (lenDec_dec hd)
    simp at h
    obtain ⟨rfl, rfl⟩ := h
    have e : ((l.drop b.toNat).take (a.toNat * 16)).length = a.toNat * 16 := by rw [List.length_take, List.length_drop]; omega
    refine ⟨?_, by rw [e]; omega, by omega, by omega⟩
    unfold encD
    rw [e, show ((a.toNat * 16 / 16 : Nat) : Int) = a from by omega, ← hc, show (b + a * 16).toNat = b.toNat + a.toNat * 16 from by omega, List.take_add]
  · simp [h1] at h

/-- The length of an encoding hangs on half of the number alone, and does not fall. -/
theorem encN_len_le : ∀ (j a b : Nat), a / 2 ≤ b / 2 → (encN j a).length ≤ (encN j b).length
  | 0, a, b, _ => by simp [encN]
  | j + 1, a, b, h => by
    by_cases ha : a < 128
    · rw [encN_last _ _ ha]; exact encN_pos (j + 1) b
    · have hb : ¬ b < 128 := by omega
      rw [encN_step _ _ (by omega), encN_step _ _ (by omega)]
      simp only [List.length_cons]
      have := encN_len_le j (a / 128) (b / 128) (by omega)
      omega
def far (n : Int) : Int := max n (-1 - n)
theorem far_zz (n : Int) : far n = ((zz n / 2 : Nat) : Int) := by unfold far zz; split <;> omega
theorem enc_len_le (m n : Int) (h : far m ≤ far n) : (enc m).length ≤ (enc n).length := by
  rw [far_zz, far_zz] at h
  exact encN_len_le 9 _ _ (by omega)
theorem enc_same_len (m : Int) : (enc (-1 - m)).length = (enc m).length := by
  have h : far (-1 - m) = far m := by unfold far; omega
  have h1 := enc_len_le (-1 - m) m (by omega)
  have h2 := enc_len_le m (-1 - m) (by omega)
  omega
theorem enc_one (m : Int) : (enc m).length = 1 ↔ far m < 64 := by
  rw [far_zz, enc]
  by_cases h : zz m < 128
  · rw [encN_last _ _ h]; simp; omega
  · rw [encN_step _ _ (by omega)]
    have := encN_pos 8 (zz m / 128)
    simp only [List.length_cons]
    omega
theorem enc_inj {m n : Int} (hm : isI64 m) (hn : isI64 n) (t u : List UInt8) (h : enc m ++ t = enc n ++ u) : m = n := by
  have h1 := dec_enc m t hm
  have h2 := dec_enc n u hn
  rw [h] at h1
  rw [h1] at h2
  injection h2
theorem enc_prefix {m n : Int} (hm : isI64 m) (hn : isI64 n) : ((enc m).take (min (enc m).length (enc n).length) = (enc n).take (min (enc m).length (enc n).length)) ↔ m = n := by
  constructor
  · intro h
    rcases Nat.le_total (enc m).length (enc n).length with hl | hl
    · rw [Nat.min_eq_left hl, List.take_length] at h
      refine enc_inj hm hn ((enc n).drop (enc m).length) [] ?_
      rw [List.append_nil]
      conv => lhs; rw [h]
      conv => rhs; rw [← List.take_append_drop (enc m).length (enc n)]
      rw [← h]
    · rw [Nat.min_eq_right hl, List.take_length] at h
      refine enc_inj hm hn [] ((enc m).drop (enc n).length) ?_
      rw [List.append_nil]
      rw [← h]
      have hl2 : ((enc m).take (enc n).length).length = (enc n).length := by rw [List.length_take]; omega
      rw [hl2]
      exact (List.take_append_drop _ _).symm
  · rintro rfl; rfl
end Go.Proofs.Ytpbebmbkcpdbeaa
