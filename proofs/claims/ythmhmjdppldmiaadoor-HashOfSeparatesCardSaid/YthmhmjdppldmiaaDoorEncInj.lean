/-
  The input of Of is one-to-one: for tags from 0 to 255 and lists of short parts.
-/
import Derived.Test.YthmhmjdppldmiaaDoorRefOf2
namespace Go.Proofs.YthmhmjdppldmiaaDoor

theorem u8_ofNat_inj {a b : Nat} (ha : a < 256) (hb : b < 256) (h : UInt8.ofNat a = UInt8.ofNat b) : a = b := by
  have := congrArg UInt8.toNat h
  simp only [UInt8.toNat_ofNat'] at this
  omega
theorem encN_inj : ∀ (k a b : Nat) (t u : List UInt8), a < 128 ^ (k + 1) → b < 128 ^ (k + 1) → encN k a ++ t = encN k b ++ u → a = b ∧ t = u
  | 0, a, b, t, u, ha, hb, h => by
    simp only [encN, List.singleton_append, List.cons.injEq] at h
    exact ⟨u8_ofNat_inj (by omega) (by omega) h.1, h.2⟩
  | k + 1, a, b, t, u, ha, hb, h => by
    simp only [encN] at h
    have hp : 128 ^ (k + 1 + 1) = 128 ^ (k + 1) * 128 := Nat.pow_succ ..
    split at h <;> split at h
    · simp only [List.singleton_append, List.cons.injEq] at h
      exact ⟨u8_ofNat_inj (by omega) (by omega) h.1, h.2⟩
    · simp only [List.singleton_append, List.cons_append, List.cons.injEq] at h
      have := u8_ofNat_inj (by omega) (by omega) h.1
      omega
    · simp only [List.singleton_append, List.cons_append, List.cons.injEq] at h
      have := u8_ofNat_inj (by omega) (by omega) h.1
      omega
    · simp only [List.cons_append, List.cons.injEq] at h
      have h1 := u8_ofNat_inj (by omega) (by omega) h.1
      obtain ⟨h2, h3⟩ := encN_inj k (a / 128) (b / 128) t u (Nat.div_lt_of_lt_mul (by omega)) (Nat.div_lt_of_lt_mul (by omega)) h.2
      exact ⟨by omega, h3⟩
theorem encS_inj {x y t u : List UInt8} (hx : x.length ≤ 1000000) (hy : y.length ≤ 1000000) (h : encS x ++ t = encS y ++ u) : x = y ∧ t = u := by
  unfold encS enc at h
  rw [List.append_assoc, List.append_assoc] at h
  have hz : ∀ n : Nat, zz (n : Int) = 2 * n := by intro n; unfold zz; split <;> omega
  rw [hz, hz] at h
  obtain ⟨h1, h2⟩ := encN_inj 9 _ _ _ _ (by omega) (by omega) h
  exact List.append_inj h2 (by omega)
theorem encS_ne (x : List UInt8) : encS x ≠ [] := by
  intro h
  have h1 := enc_pos x.length
  have h2 : (encS x).length = 0 := by rw [h]; rfl
  unfold encS at h2
  rw [List.length_append] at h2
  omega
theorem partsOf_inj : ∀ (l m : List (List UInt8)), (∀ x ∈ l, x.length ≤ 1000000) → (∀ x ∈ m, x.length ≤ 1000000) → partsOf l = partsOf m → l = m
  | [], [], _, _, _ => rfl
  | [], y :: m, _, _, h => by
    simp only [partsOf, List.map_nil, List.flatten_nil, List.map_cons, List.flatten_cons] at h
    exact absurd (List.append_eq_nil_iff.1 h.symm).1 (encS_ne y)
  | x :: l, [], _, _, h => by
    simp only [partsOf, List.map_nil, List.flatten_nil, List.map_cons, List.flatten_cons] at h
    exact absurd (List.append_eq_nil_iff.1 h).1 (encS_ne x)
  | x :: l, y :: m, hl, hm, h => by
    simp only [partsOf, List.map_cons, List.flatten_cons] at h
    obtain ⟨rfl, h2⟩ := encS_inj (hl x (by simp)) (hm y (by simp)) h
    rw [partsOf_inj l m (fun z hz => hl z (List.mem_cons_of_mem _ hz)) (fun z hz => hm z (List.mem_cons_of_mem _ hz)) h2]
theorem inputOf_inj {a b : Int} {l m : List (List UInt8)} (ha : 0 ≤ a ∧ a ≤ 255) (hb : 0 ≤ b ∧ b ≤ 255) (hl : few12 l = true) (hm : few12 m = true) (h : inputOf a l = inputOf b m) : a = b ∧ l = m := by
  unfold inputOf at h
  injection h with h1 h2
  refine ⟨?_, partsOf_inj l m (fun x hx => Nat.le_trans ((few12_parts hl).2 x hx) (by omega)) (fun x hx => Nat.le_trans ((few12_parts hm).2 x hx) (by omega)) h2⟩
  have h3 := congrArg UInt8.toNat h1
  have e1 := tagByte_int a
  have e2 := tagByte_int b
  omega
end Go.Proofs.YthmhmjdppldmiaaDoor
