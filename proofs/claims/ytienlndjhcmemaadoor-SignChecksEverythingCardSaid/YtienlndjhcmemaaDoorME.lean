/-
  ME: several texts in one: SignSpec, SignLaws, SgCells, SgKit, SgText, SgDigits, SgClimb, RefDig, RefOf2, SgRest1, SgRClimb, SgSmall. No statement is proved here.
-/
import Derived.Test.YtienlndjhcmemaaDoorMC
import Derived.Test.YtienlndjhcmemaaDoorMD
import Derived.Deep.CutBlock
/-
  Signatures as plain functions of lists: what Digits, Count, Size, Public, Message, Sign and Verify answer. No program in sight.
-/
namespace Go.Proofs.YtienlndjhcmemaaDoor

/-! ### Digits -/
def nib (b : UInt8) : List Nat := [b.toNat / 16, b.toNat % 16]
def digs (d : List UInt8) : List Nat := d.flatMap nib
def chk (d : List UInt8) : Nat := 30 * d.length - (digs d).sum
def digitsD (d : List UInt8) : List Nat := digs d ++ [chk d / 256 % 16, chk d / 16 % 16, chk d % 16]
theorem digs_len (d : List UInt8) : (digs d).length = 2 * d.length := by
  induction d with
  | nil => rfl
  | cons b d ih => unfold digs at *; simp only [List.flatMap_cons, List.length_append, List.length_cons, ih, nib]; simp; omega
theorem nib_le (b : UInt8) : b.toNat / 16 ≤ 15 ∧ b.toNat % 16 ≤ 15 := by have := b.toNat_lt; omega
theorem digs_le (d : List UInt8) : ∀ x ∈ digs d, x ≤ 15 := by
  intro x hx
  unfold digs at hx
  obtain ⟨b, _, hb⟩ := List.mem_flatMap.1 hx
  have := nib_le b
  unfold nib at hb
  simp at hb
  omega
theorem digs_sum (d : List UInt8) : (digs d).sum ≤ 30 * d.length := by
  induction d with
  | nil => simp [digs]
  | cons b d ih =>
    have := nib_le b
    unfold digs at *
    simp only [List.flatMap_cons, List.sum_append, List.length_cons, nib]
    simp
    omega
theorem digitsD_len {d : List UInt8} (h : d.length = 16) : (digitsD d).length = 35 := by unfold digitsD; rw [List.length_append, digs_len, h]; rfl
theorem digitsD_le (d : List UInt8) : ∀ x ∈ digitsD d, x ≤ 15 := by
  intro x hx
  unfold digitsD at hx
  rcases List.mem_append.1 hx with h | h
  · exact digs_le d x h
  · simp at h; omega
theorem digs_inj : ∀ {a b : List UInt8}, digs a = digs b → a = b
  | [], [], _ => rfl
  | [], y :: b, h => by simp [digs, nib] at h
  | x :: a, [], h => by simp [digs, nib] at h
  | x :: a, y :: b, h => by
    have h' : nib x ++ digs a = nib y ++ digs b := h
    simp only [nib, List.cons_append, List.nil_append, List.cons.injEq] at h'
    obtain ⟨h1, h2, h3⟩ := h'
    have : x = y := UInt8.toNat_inj.1 (by omega)
    rw [this, digs_inj h3]
theorem sum_mono : ∀ {l m : List Nat}, l.length = m.length → (∀ (i x y : Nat), l[i]? = some x → m[i]? = some y → x ≤ y) → l.sum ≤ m.sum ∧ (l.sum = m.sum → l = m)
  | [], [], _, _ => ⟨Nat.le_refl _, fun _ => rfl⟩
  | [], y :: m, h, _ => by simp at h
  | x :: l, [], h, _ => by simp at h
  | x :: l, y :: m, h, hp => by
    obtain ⟨h1, h2⟩ := sum_mono (l := l) (m := m) (by simpa using h) (fun i u v hu hv => hp (i + 1) u v (by simpa using hu) (by simpa using hv))
    have h0 := hp 0 x y rfl rfl
    simp only [List.sum_cons]
    refine ⟨by omega, fun he => ?_⟩
    rw [show x = y by omega, h2 (by omega)]
/-- If no digit of b is greater than that of a at the same place, a and b are the same. -/
theorem cross_le {a b : List UInt8} (ha : a.length = 16) (hb : b.length = 16) (h : ∀ (i x y : Nat), (digitsD b)[i]? = some x → (digitsD a)[i]? = some y → x ≤ y) : a = b := by
  have la := digs_len a
  have lb := digs_len b
  have h1 := sum_mono (l := digs b) (m := digs a) (by omega) fun i x y hx hy => by
    have e1 := (List.getElem?_eq_some_iff.1 hx).1
    have e2 := (List.getElem?_eq_some_iff.1 hy).1
    exact h i x y (by unfold digitsD; rw [List.getElem?_append_left e1]; exact hx) (by unfold digitsD; rw [List.getElem?_append_left e2]; exact hy)
  have key : ∀ k : Nat, k < 3 → ∀ x y, [chk b / 256 % 16, chk b / 16 % 16, chk b % 16][k]? = some x → [chk a / 256 % 16, chk a / 16 % 16, chk a % 16][k]? = some y → x ≤ y := by
    intro k hk x y hx hy
    refine h (32 + k) x y ?_ ?_
    · unfold digitsD
      rw [List.getElem?_append_right (by omega), show 32 + k - (digs b).length = k by omega]
      exact hx
    · unfold digitsD
      rw [List.getElem?_append_right (by omega), show 32 + k - (digs a).length = k by omega]
      exact hy
  have k0 := key 0 (by omega) _ _ rfl rfl
  have k1 := key 1 (by omega) _ _ rfl rfl
  have k2 := key 2 (by omega) _ _ rfl rfl
  have sa := digs_sum a
  have sb := digs_sum b
  have ca : chk a = 480 - (digs a).sum := by unfold chk; rw [ha]
  have cb : chk b = 480 - (digs b).sum := by unfold chk; rw [hb]
  exact (digs_inj (h1.2 (by omega))).symm

/-! ### Keys -/
def countD (h : Int) : Nat := if h < 0 ∨ 6 < h then 0 else 2 ^ h.toNat
def sizeD (h i : Int) : Nat := if i < 0 ∨ (countD h : Int) ≤ i then 0 else (enc i).length + 16 * (35 + h.toNat)
/-- n steps of a chain behind number a. -/
def climbD (i j : Int) (a : Nat) (v : List UInt8) : Nat → List UInt8
  | 0 => v
  | n + 1 => ofDig 4 [encI [i, j, ((a + n + 1 : Nat) : Int)], climbD i j a v n]
theorem climbD_len (i j : Int) (a : Nat) {v : List UInt8} (hv : v.length = 16) : ∀ n, (climbD i j a v n).length = 16
  | 0 => hv
  | _ + 1 => ofDig_len _ _
theorem climbD_add (i j : Int) (a b : Nat) (v : List UInt8) : ∀ n, climbD i j (a + b) (climbD i j a v b) n = climbD i j a v (b + n)
  | 0 => rfl
  | n + 1 => by
    show ofDig 4 [encI [i, j, ((a + b + n + 1 : Nat) : Int)], climbD i j (a + b) (climbD i j a v b) n] = ofDig 4 [encI [i, j, ((a + (b + n) + 1 : Nat) : Int)], climbD i j a v (b + n)]
    rw [climbD_add i j a b v n, show a + b + n + 1 = a + (b + n) + 1 by omega]
def startD (seed : List UInt8) (i j : Int) : List UInt8 := (mac seed (encI [i, j])).take 16
def leafD (vs : List (List UInt8)) : List UInt8 := ofDig 4 [encD vs.length vs.flatten]
def joinD (level n : Int) (a b : List UInt8) : List UInt8 := ofDig 5 [encI [level, n], a, b]
def chainD (seed : List UInt8) (i : Nat) (n j : Nat) : List UInt8 := climbD i j 0 (startD seed i j) n
def valueD (seed : List UInt8) : Nat → Nat → List UInt8
  | 0, n => leafD ((List.range 35).map fun j => chainD seed n 15 j)
  | l + 1, n => joinD ((l + 1 : Nat) : Int) (n : Nat) (valueD seed l (2 * n)) (valueD seed l (2 * n + 1))
theorem valueD_len (seed : List UInt8) (l n : Nat) : (valueD seed l n).length = 16 := by
  cases l <;> exact ofDig_len _ _
def messageD (p : List UInt8) (i : Int) (m : List UInt8) : List UInt8 := ofDig 6 [p, enc i, m]
def digAt (d : List UInt8) (j : Nat) : Nat := ((digitsD d)[j]?).getD 0
theorem digAt_le (d : List UInt8) (j : Nat) : digAt d j ≤ 15 := by
  unfold digAt
  cases h : (digitsD d)[j]? with
  | none => simp
  | some x => exact digitsD_le d x (List.mem_of_getElem? h)
/-- What stands behind the index in a signature. -/
def restD (seed : List UInt8) (h i : Nat) (d : List UInt8) : List UInt8 :=
  ((List.range 35).map fun j => chainD seed i (digAt d j) j).flatten ++ ((List.range h).map fun l => valueD seed l ((i / 2 ^ l) ^^^ 1)).flatten
def signD (seed : List UInt8) (h i : Nat) (m : List UInt8) : List UInt8 := enc i ++ restD seed h i (messageD (valueD seed h 0) i m)
def part (r : List UInt8) (k : Nat) : List UInt8 := (r.drop (16 * k)).take 16
def upD (h i : Nat) (r : List UInt8) (v : List UInt8) : Nat → List UInt8
  | 0 => v
  | l + 1 => if i / 2 ^ l % 2 = 1 then joinD ((l + 1 : Nat) : Int) ((i / 2 ^ (l + 1) : Nat) : Int) (part r (35 + l)) (upD h i r v l) else joinD ((l + 1 : Nat) : Int) ((i / 2 ^ (l + 1) : Nat) : Int) (upD h i r v l) (part r (35 + l))
def rootD (h i : Nat) (d r : List UInt8) : List UInt8 := upD h i r (leafD ((List.range 35).map fun (j : Nat) => climbD i j (digAt d j) (part r j) (15 - digAt d j))) h

/-! ### A signature is accepted -/
theorem chainD_len (seed : List UInt8) (i n j : Nat) : (chainD seed i n j).length = 16 := by
  unfold chainD
  refine climbD_len _ _ _ ?_ _
  unfold startD
  rw [List.length_take, show (mac seed (encI [(i : Int), (j : Int)])).length = 32 from sha_len _]
  rfl
theorem flat16_at : ∀ {vs : List (List UInt8)} {k : Nat} {x : List UInt8} (t : List UInt8), (∀ v ∈ vs, v.length = 16) → vs[k]? = some x → part (vs.flatten ++ t) k = x
  | [], k, x, t, _, h => by simp at h
  | v :: vs, 0, x, t, hv, h => by
    obtain rfl : v = x := by simpa using h
    unfold part
    have := hv v (by simp)
    simp only [List.flatten_cons, Nat.mul_zero, List.drop_zero, List.append_assoc]
    rw [List.take_append_of_le_length (by omega), List.take_of_length_le (by omega)]
  | v :: vs, k + 1, x, t, hv, h => by
    have h1 := hv v (by simp)
    have := flat16_at (vs := vs) (k := k) (x := x) t (fun u hu => hv u (List.mem_cons_of_mem _ hu)) (by simpa using h)
    rw [← this]
    unfold part
    rw [List.flatten_cons, List.append_assoc, List.drop_append, List.drop_of_length_le (by omega), List.nil_append, h1, show 16 * (k + 1) - 16 = 16 * k by omega]
theorem flat16_len : ∀ {vs : List (List UInt8)}, (∀ v ∈ vs, v.length = 16) → vs.flatten.length = 16 * vs.length
  | [], _ => rfl
  | v :: vs, h => by
    rw [List.flatten_cons, List.length_append, h v (by simp), flat16_len (fun u hu => h u (List.mem_cons_of_mem _ hu)), List.length_cons]
    omega
theorem restD_len (seed : List UInt8) (h i : Nat) (d : List UInt8) : (restD seed h i d).length = 16 * (35 + h) := by
  unfold restD
  rw [List.length_append, flat16_len, flat16_len]
  · simp; omega
  · intro v hv; obtain ⟨l, _, rfl⟩ := List.mem_map.1 hv; exact valueD_len _ _ _
  · intro v hv; obtain ⟨l, _, rfl⟩ := List.mem_map.1 hv; exact chainD_len _ _ _ _
theorem part_chain (seed : List UInt8) (h i : Nat) (d : List UInt8) {j : Nat} (hj : j < 35) : part (restD seed h i d) j = chainD seed i (digAt d j) j := by
  unfold restD
  refine flat16_at _ (fun v hv => ?_) ?_
  · obtain ⟨l, _, rfl⟩ := List.mem_map.1 hv; exact chainD_len _ _ _ _
  · rw [List.getElem?_map, List.getElem?_range hj]; rfl
theorem part_shift (a b : List UInt8) (k l : Nat) (h : a.length = 16 * k) : part (a ++ b) (k + l) = part b l := by
  unfold part
  rw [List.drop_append, List.drop_of_length_le (by omega), List.nil_append, h, show 16 * (k + l) - 16 * k = 16 * l by omega]
theorem part_path (seed : List UInt8) (h i : Nat) (d : List UInt8) {l : Nat} (hl : l < h) : part (restD seed h i d) (35 + l) = valueD seed l ((i / 2 ^ l) ^^^ 1) := by
  unfold restD
  rw [part_shift _ _ 35 l]
  · have := flat16_at (vs := (List.range h).map fun l => valueD seed l ((i / 2 ^ l) ^^^ 1)) (k := l) [] (fun v hv => by obtain ⟨l, _, rfl⟩ := List.mem_map.1 hv; exact valueD_len _ _ _) (x := valueD seed l ((i / 2 ^ l) ^^^ 1)) (by rw [List.getElem?_map, List.getElem?_range hl]; rfl)
    rwa [List.append_nil] at this
  · rw [flat16_len]
    · simp
    · intro v hv; obtain ⟨l, _, rfl⟩ := List.mem_map.1 hv; exact chainD_len _ _ _ _
theorem xor_one (n : Nat) : n ^^^ 1 = if n % 2 = 1 then n - 1 else n + 1 := by
  have h1 : n ^^^ 1 = 2 * (n / 2) + (1 - n % 2) := by
    apply Nat.eq_of_testBit_eq
    intro k
    rw [Nat.testBit_xor]
    cases k with
    | zero =>
      simp [Nat.testBit_zero]
      rcases Nat.mod_two_eq_zero_or_one n with h | h <;> simp [h] <;> omega
    | succ k =>
      rw [Nat.testBit_succ, Nat.testBit_succ, Nat.testBit_succ]
      have e1 : (2 * (n / 2) + (1 - n % 2)) / 2 = n / 2 := by omega
      rw [e1]
      simp
  rw [h1]
  split <;> omega
theorem up_value (seed : List UInt8) (h i : Nat) (d : List UInt8) : ∀ l, l ≤ h → upD h i (restD seed h i d) (valueD seed 0 i) l = valueD seed l (i / 2 ^ l)
  | 0, _ => by rw [Nat.pow_zero, Nat.div_one]; rfl
  | l + 1, hl => by
    have ih := up_value seed h i d l (by omega)
    have hp := part_path seed h i d (l := l) (by omega)
    have hdiv : i / 2 ^ (l + 1) = i / 2 ^ l / 2 := by rw [Nat.pow_succ, Nat.div_div_eq_div_mul]
    rw [xor_one] at hp
    unfold upD
    rw [ih, hp, hdiv]
    generalize i / 2 ^ l = n
    show _ = joinD _ _ _ _
    by_cases hn : n % 2 = 1
    · rw [if_pos hn, if_pos hn, show 2 * (n / 2) = n - 1 by omega, show n - 1 + 1 = n by omega]
    · rw [if_neg hn, if_neg hn, show 2 * (n / 2) = n by omega]
theorem root_sign (seed : List UInt8) (h i : Nat) (d : List UInt8) (hi : i < 2 ^ h) : rootD h i d (restD seed h i d) = valueD seed h 0 := by
  unfold rootD
  have hleaf : leafD ((List.range 35).map fun (j : Nat) => climbD i j (digAt d j) (part (restD seed h i d) j) (15 - digAt d j)) = valueD seed 0 i := by
    show _ = leafD _
    congr 1
    apply List.map_congr_left
    intro j hj
    rw [List.mem_range] at hj
    rw [part_chain seed h i d hj]
    unfold chainD
    have h15 := digAt_le d j
    have := climbD_add (i : Int) (j : Int) 0 (digAt d j) (startD seed i j) (15 - digAt d j)
    rw [Nat.zero_add] at this
    rw [this, show digAt d j + (15 - digAt d j) = 15 by omega]
  rw [hleaf, up_value seed h i d h (Nat.le_refl _), Nat.div_eq_of_lt hi]
end Go.Proofs.YtienlndjhcmemaaDoor
/-
  What Verify answers, as a plain function, and its laws: it accepts what Sign makes, and tells a prefix and a longer text. No program in sight.
-/
namespace Go.Proofs.YtienlndjhcmemaaDoor

def verifyD (p : List UInt8) (h : Int) (m sig : List UInt8) : Int × Int :=
  if countD h = 0 then (0, 1) else
  if (dec sig).2.2 ≠ 0 then (0, (dec sig).2.2) else
  if sizeD h (dec sig).1 = 0 then (0, 8) else
  if sig.length < sizeD h (dec sig).1 then (0, 5) else
  if sizeD h (dec sig).1 < sig.length then (0, 6) else
  if rootD h.toNat (dec sig).1.toNat (messageD p (dec sig).1 m) (sig.drop (dec sig).2.1.toNat) = p then ((dec sig).1, 0) else (0, 8)
def publicD (seed : List UInt8) (h : Int) : List UInt8 × Int := if countD h = 0 then (List.replicate 16 0, 1) else (valueD seed h.toNat 0, 0)
def makeD (seed : List UInt8) (h i : Int) (m : List UInt8) : List UInt8 × Int :=
  if countD h = 0 then ([], 1) else if i < 0 ∨ (countD h : Int) ≤ i then ([], 23) else (signD seed h.toNat i.toNat m, 0)

theorem countD_of {h : Nat} (hh : h ≤ 6) : countD h = 2 ^ h := by
  unfold countD
  rw [if_neg (by omega), Int.toNat_natCast]
theorem two_pow_pos (h : Nat) : 0 < 2 ^ h := Nat.pow_pos (by omega)
theorem two_pow_le {h : Nat} (hh : h ≤ 6) : 2 ^ h ≤ 64 := Nat.le_trans (Nat.pow_le_pow_right (by omega) hh) (by decide)
theorem sizeD_of {h i : Nat} (hh : h ≤ 6) (hi : i < 2 ^ h) : sizeD h i = (enc i).length + 16 * (35 + h) := by
  unfold sizeD
  rw [countD_of hh, if_neg (by omega), Int.toNat_natCast]
theorem enc_small {i : Nat} (hi : i < 64) : enc (i : Int) = [UInt8.ofNat (2 * i)] := by
  unfold enc
  have : zz (i : Int) = 2 * i := by unfold zz; split <;> omega
  rw [this]
  exact encN_last 9 _ (by omega)
theorem signD_len (seed : List UInt8) {h i : Nat} (m : List UInt8) (hh : h ≤ 6) (hi : i < 2 ^ h) : (signD seed h i m).length = sizeD h i := by
  unfold signD
  rw [List.length_append, restD_len, sizeD_of hh hi]
theorem isI64_small {i : Nat} (hi : i < 64) : isI64 (i : Int) := by unfold isI64; omega
/-- Verify of an index and as many bytes as it asks for. -/
theorem verify_of (p : List UInt8) {h i : Nat} (m r : List UInt8) (hh : h ≤ 6) (hi : i < 2 ^ h) (hr : r.length = 16 * (35 + h)) :
    verifyD p h m (enc i ++ r) = if rootD h i (messageD p i m) r = p then ((i : Int), 0) else (0, 8) := by
  have h64 := two_pow_le hh
  have hp := two_pow_pos h
  have hd := dec_enc (i : Int) r (isI64_small (by omega))
  have hs := sizeD_of hh hi
  have hle := enc_small (i := i) (by omega)
  unfold verifyD
  rw [hd, countD_of hh]
  simp only
  rw [if_neg (by omega), if_neg (by simp), hs, if_neg (by omega), List.length_append, hr, if_neg (by omega), if_neg (by omega)]
  simp
theorem verify_sign (seed : List UInt8) {h i : Nat} (m : List UInt8) (hh : h ≤ 6) (hi : i < 2 ^ h) : verifyD (valueD seed h 0) h m (signD seed h i m) = ((i : Int), 0) := by
  unfold signD
  rw [verify_of _ _ _ hh hi (restD_len _ _ _ _), root_sign seed h i _ hi, if_pos rfl]
theorem verify_more (p seed : List UInt8) {h i : Nat} (m x more : List UInt8) (hh : h ≤ 6) (hi : i < 2 ^ h) (hm : more ≠ []) : verifyD p h x (signD seed h i m ++ more) = (0, 6) := by
  have h64 := two_pow_le hh
  have hp := two_pow_pos h
  have hl := signD_len seed m hh hi
  have hs := sizeD_of hh hi
  have hml : 0 < more.length := List.length_pos_iff.2 hm
  have hd : dec (signD seed h i m ++ more) = ((i : Int), ((enc i).length : Int), 0) := by
    unfold signD
    rw [List.append_assoc]
    exact dec_enc _ _ (isI64_small (by omega))
  have hle := enc_small (i := i) (by omega)
  unfold verifyD
  rw [hd, countD_of hh]
  simp only
  rw [if_neg (by omega), if_neg (by simp), if_neg (by omega), List.length_append, if_neg (by omega), if_pos (by omega)]
theorem verify_prefix (p seed : List UInt8) {h i k : Nat} (m x : List UInt8) (hh : h ≤ 6) (hi : i < 2 ^ h) (hk : k < (signD seed h i m).length) : verifyD p h x ((signD seed h i m).take k) = (0, 5) := by
  have h64 := two_pow_le hh
  have hp := two_pow_pos h
  have hl := signD_len seed m hh hi
  have hs := sizeD_of hh hi
  have hle := enc_small (i := i) (by omega)
  cases k with
  | zero =>
    unfold verifyD
    rw [List.take_zero, show dec [] = (0, 0, 5) from rfl, countD_of hh]
    simp only
    rw [if_neg (by omega), if_pos (by simp)]
  | succ k =>
    have hd : dec ((signD seed h i m).take (k + 1)) = ((i : Int), ((enc i).length : Int), 0) := by
      unfold signD
      rw [List.take_append, List.take_of_length_le (by rw [hle]; simp)]
      exact dec_enc _ _ (isI64_small (by omega))
    unfold verifyD
    rw [hd, countD_of hh]
    simp only
    rw [if_neg (by omega), if_neg (by simp), if_neg (by rw [hs]; omega), List.length_take, if_pos (by omega)]
end Go.Proofs.YtienlndjhcmemaaDoor
/-
  The cells of the digits' array while Digits fills it. No program in sight.
-/
namespace Go.Proofs.YtienlndjhcmemaaDoor
open Go.RowKit

def ivs (l : List Nat) : List Value := l.map fun x : Nat => Value.int .i64 (x : Int)
theorem ivs_len (l : List Nat) : (ivs l).length = l.length := by simp [ivs]
theorem ivs_append (l m : List Nat) : ivs (l ++ m) = ivs l ++ ivs m := by simp [ivs]
theorem ivs_one (l : List Nat) : ∀ u ∈ ivs l, u.oneCell' = true := by
  intro u hu
  obtain ⟨x, _, rfl⟩ := List.mem_map.1 hu
  rfl
def zerosI (n : Nat) : List Value := List.replicate n (.int .i64 0)
theorem zerosI_len (n : Nat) : (zerosI n).length = n := by simp [zerosI]
theorem set_at (p q : List Value) (x y : Value) : (p ++ x :: q).set p.length y = p ++ y :: q := by
  induction p with
  | nil => rfl
  | cons a p ih => simp [ih]
/-- The cells when i bytes are written. -/
def dgCells (d : List UInt8) (i : Nat) : List Value := ivs (digs (d.take i)) ++ zerosI (35 - 2 * i)
theorem dgCells_zero (d : List UInt8) : dgCells d 0 = zerosI 35 := rfl
theorem dgCells_len (d : List UInt8) {i : Nat} (h : i ≤ d.length) (h2 : i ≤ 16) : (dgCells d i).length = 35 := by
  unfold dgCells
  rw [List.length_append, ivs_len, digs_len, List.length_take, zerosI_len]
  omega
theorem digs_next {d : List UInt8} {i : Nat} {b : UInt8} (h : d[i]? = some b) : digs (d.take (i + 1)) = digs (d.take i) ++ [b.toNat / 16, b.toNat % 16] := by
  rw [List.take_add_one, h]
  unfold digs
  rw [List.flatMap_append]
  rfl
theorem dgCells_next {d : List UInt8} {i : Nat} {b : UInt8} (h : d[i]? = some b) (hi : i < 16) :
    ((dgCells d i).set (2 * i) (.int .i64 ((b.toNat / 16 : Nat) : Int))).set (2 * i + 1) (.int .i64 ((b.toNat % 16 : Nat) : Int)) = dgCells d (i + 1) := by
  have hlt := (List.getElem?_eq_some_iff.1 h).1
  have hl : (ivs (digs (d.take i))).length = 2 * i := by rw [ivs_len, digs_len, List.length_take]; omega
  unfold dgCells
  rw [digs_next h, ivs_append]
  have hz : zerosI (35 - 2 * i) = .int .i64 0 :: .int .i64 0 :: zerosI (35 - 2 * (i + 1)) := by
    unfold zerosI
    rw [show 35 - 2 * i = (35 - 2 * (i + 1)) + 1 + 1 by omega, List.replicate_succ, List.replicate_succ]
  rw [hz]
  have e1 := set_at (ivs (digs (d.take i))) (.int .i64 0 :: zerosI (35 - 2 * (i + 1))) (.int .i64 0) (.int .i64 ((b.toNat / 16 : Nat) : Int))
  rw [hl] at e1
  rw [e1]
  have e2 := set_at (ivs (digs (d.take i)) ++ [.int .i64 ((b.toNat / 16 : Nat) : Int)]) (zerosI (35 - 2 * (i + 1))) (.int .i64 0) (.int .i64 ((b.toNat % 16 : Nat) : Int))
  rw [List.length_append, hl, List.append_assoc, List.append_assoc] at e2
  refine Eq.trans e2 ?_
  rw [List.append_assoc]
  rfl
theorem dgCells_at (d : List UInt8) (i k : Nat) (h : i ≤ d.length) (h1 : 2 * i ≤ k) (h2 : k < 35) : (dgCells d i)[k]? = some (.int .i64 0) := by
  have hl : (ivs (digs (d.take i))).length = 2 * i := by rw [ivs_len, digs_len, List.length_take]; omega
  unfold dgCells
  rw [List.getElem?_append_right (by omega), hl]
  unfold zerosI
  rw [List.getElem?_replicate, if_pos (by omega)]
/-- What is left of 30 a byte. -/
def dgSum (d : List UInt8) (i : Nat) : Nat := 30 * i - (digs (d.take i)).sum
theorem dgSum_le (d : List UInt8) (i : Nat) (h : i ≤ 16) : dgSum d i ≤ 480 := by unfold dgSum; omega
theorem dgSum_next {d : List UInt8} {i : Nat} {b : UInt8} (h : d[i]? = some b) : dgSum d (i + 1) = dgSum d i + 30 - b.toNat / 16 - b.toNat % 16 := by
  have hlt := (List.getElem?_eq_some_iff.1 h).1
  have h1 := digs_sum (d.take i)
  have h2 := nib_le b
  rw [List.length_take] at h1
  unfold dgSum
  rw [digs_next h, List.sum_append]
  simp only [List.sum_cons, List.sum_nil]
  omega
theorem dgSum_all {d : List UInt8} (h : d.length = 16) : dgSum d 16 = chk d := by
  unfold dgSum chk
  rw [List.take_of_length_le (by omega), h]
/-- The cells behind the last three digits. -/
theorem dgCells_all {d : List UInt8} (h : d.length = 16) : (((dgCells d 16).set 34 (.int .i64 ((chk d % 16 : Nat) : Int))).set 33 (.int .i64 ((chk d / 16 % 16 : Nat) : Int))).set 32 (.int .i64 ((chk d / 256 % 16 : Nat) : Int)) = ivs (digitsD d) := by
  have hl : (ivs (digs d)).length = 32 := by rw [ivs_len, digs_len]; omega
  unfold dgCells
  rw [List.take_of_length_le (by omega)]
  unfold digitsD
  rw [ivs_append]
  generalize ivs (digs d) = p at *
  rw [List.set_append_right _ _ (by omega), List.set_append_right _ _ (by omega), List.set_append_right _ _ (by omega), hl]
  rfl
end Go.Proofs.YtienlndjhcmemaaDoor
/-
  Bounds on encodings and inputs; the slices' types. No statement is proved here.
-/
namespace Go.Proofs.YtienlndjhcmemaaDoor
open Go.RowKit

theorem Tryd.sl_int : SlTy Tryd.prog 66 3 (.int .i64 0) 1 8 := ⟨by kernel_rfl, by kernel_rfl, rfl, by decide⟩
theorem Tryd.sl_str : SlTy Tryd.prog 56 9 (.string ⟨#[]⟩) 1 16 := ⟨by kernel_rfl, by kernel_rfl, rfl, by decide⟩
theorem encI_le (l : List Int) : (encI l).length ≤ 10 * (l.length + 1) := by
  unfold encI
  rw [List.length_append]
  have h1 := enc_len l.length
  have h2 : ((l.map enc).flatten).length ≤ 10 * l.length := by
    induction l with
    | nil => simp
    | cons x l ih =>
      have := enc_len x
      have h3 := enc_len (l.length : Int)
      have := ih h3
      simp only [List.map_cons, List.flatten_cons, List.length_append, List.length_cons]
      omega
  omega
theorem input_le (tag : Int) (l : List (List UInt8)) (b : Nat) (h : ∀ x ∈ l, x.length ≤ b) : (inputOf tag l).length ≤ 1 + l.length * (10 + b) := by
  unfold inputOf
  rw [List.length_cons]
  have : (partsOf l).length ≤ l.length * (10 + b) := by
    induction l with
    | nil => simp [partsOf]
    | cons x l ih =>
      have h1 := h x (by simp)
      have h2 := ih fun y hy => h y (List.mem_cons_of_mem _ hy)
      have h3 := enc_len x.length
      unfold partsOf at *
      simp only [List.map_cons, List.flatten_cons, List.length_append, List.length_cons, Nat.add_mul, Nat.one_mul]
      unfold encS at *
      rw [List.length_append]
      omega
  omega
theorem input2_le (tag : Int) (x y : List UInt8) (hx : x.length ≤ 1000) (hy : y.length ≤ 1000) : (inputOf tag [x, y]).length ≤ 1000000000 := by
  have := input_le tag [x, y] 1000 (by intro z hz; simp at hz; rcases hz with rfl | rfl <;> assumption)
  simp at this
  omega
theorem input3_le (tag : Int) (x y z : List UInt8) (hx : x.length ≤ 1000) (hy : y.length ≤ 1000) (hz : z.length ≤ 100000000) : (inputOf tag [x, y, z]).length ≤ 1000000000 := by
  have := input_le tag [x, y, z] 100000000 (by intro u hu; simp at hu; rcases hu with rfl | rfl | rfl <;> omega)
  simp at this
  omega
theorem input1_le (tag : Int) (x : List UInt8) (hx : x.length ≤ 1000) : (inputOf tag [x]).length ≤ 1000000000 := by
  have := input_le tag [x] 1000 (by intro u hu; simp at hu; subst hu; assumption)
  simp at this
  omega
theorem iv_cells (l : List Int) : ∀ v ∈ l.map iv, v.cells = #[v] := by
  intro v hv
  obtain ⟨x, _, rfl⟩ := List.mem_map.1 hv
  rfl
theorem sv_cells (l : List (List UInt8)) : ∀ v ∈ l.map sv, v.cells = #[v] := by
  intro v hv
  obtain ⟨x, _, rfl⟩ := List.mem_map.1 hv
  rfl
end Go.Proofs.YtienlndjhcmemaaDoor
/-
  text and digest of sign, Count and Size: what they return.
-/
namespace Go.Proofs.YtienlndjhcmemaaDoor
open Go.RowKit

/-- A digest as a value. -/
def dv (d : List UInt8) : Value := .agg (bcs d).toArray

set_option maxRecDepth 100000 in
set_option maxHeartbeats 400000 in
theorem sgText_any (l : List UInt8) (w : World) (hl : l.length = 16) : Calls Tryd.prog 35 #[.agg (bcs l).toArray] w fun e w' => e = .returned (sv l) ∧ Below w.heap.size w w' := by
  have hbl : (bcs l).length = 16 := by rw [bcs_length]; exact hl
  have HL := Lib.hid hbl
  clear hbl
  go_enter Tryd.func35, Tryd.ntmps35
  go_wp2_with (with_reducible refine bxArr (cs := bcs l) (.tmp 0) (wn rfl) rfl rfl ?_)
  intro w1 h1 hb
  have hrd : Rd w1 (w.heap.size + 1) 1 (some ⟨w.heap.size, 0, none⟩) 16 16 (bcs l) := by
    refine ⟨by rw [HL.out], Nat.le_refl _, by decide, fun _ => ⟨w.heap.size, 0, rfl, by omega, fun j u hu => ?_⟩⟩
    rw [Nat.zero_add]
    exact h1.cell hu
  clear h1
  go_wp2_with (first | (with_reducible refine slPtr (.tmp 1) Tryd.arr_b16 Tryd.one_u8 (by omega) (wn rfl) rfl rfl ?_) | (with_reducible refine convStr (.tmp 3) l Tryd.sl_u8.und Tryd.und_u8 Tryd.und_str (wn rfl) rfl rfl hrd ?_))
  go_ret
  exact ⟨rfl, hb⟩

set_option maxRecDepth 100000 in
set_option maxHeartbeats 400000 in
theorem sgDigest_any (l : List UInt8) (w : World) (hl : 16 ≤ l.length) : Calls Tryd.prog 39 #[sv l] w fun e w' => e = .returned (.agg (bcs (l.take 16)).toArray) ∧ Below w.heap.size w w' := by
  have hbl : (bcs (l.take 16)).length = 16 := by rw [bcs_length, List.length_take]; omega
  have hspl : spl (zerosB 16) 0 (bcs (l.take 16)) = bcs (l.take 16) := by
    have := spl_head (zerosB 16) [] (bcs (l.take 16)) (by rw [hbl, zerosB_len])
    rwa [List.append_nil, List.append_nil] at this
  have HL := Lib.hid hbl
  have HS := Lib.hid hspl
  clear hbl hspl
  unfold sv
  go_enter Tryd.func39, Tryd.ntmps39
  go_wp2_with (with_reducible refine alArr (z := zerosB 16) Tryd.ag_b16 (wn rfl) rfl ?_)
  intro w1 h1 hb
  have hg : w.heap.size ≤ w.heap.size := Nat.le_refl _
  go_wp2_with (first | (with_reducible refine slPtr (.tmp 2) Tryd.arr_b16 Tryd.one_u8 (by omega) (wn rfl) rfl rfl ?_) | (with_reducible refine cpStr (.tmp 3) (.tmp 4) l Tryd.sl_u8.und Tryd.one_u8 (wn rfl) rfl rfl rfl h1 (by rw [zerosB_len]; omega) ?_))
  intro w2 h2 _ hbel
  rw [HS.out] at h2
  replace hb := hb.trans (hbel _ hg)
  clear hbel h1
  go_wp2_with (first | (with_reducible refine ldArr (.tmp 2) Tryd.ag_b16 (wn rfl) rfl rfl HL.out h2 ?_) | (with_reducible refine stArr (cs := bcs (l.take 16)) (.tmp 2) (.tmp 6) Tryd.ag_b16 (wn rfl) rfl rfl rfl h2 HL.out HL.out (bcs_one _) ?_))
  intro w3 h3 _ hbel
  go_wp2_with fail
  refine bodyPost_ret (v := .agg (bcs (l.take 16)).toArray) ?_ rfl ⟨rfl, hb.trans (hbel _ hg)⟩
  exact res_cell1 _ Tryd.results39 Tryd.ag_b16 _ rfl HL.out (fun j u hu => by rw [Nat.zero_add]; exact h3.cell hu)

set_option maxRecDepth 100000 in
set_option maxHeartbeats 400000 in
theorem count_any (h : Int) (w : World) : Calls Tryd.prog 12 #[.int .i64 h] w fun e w' => e = .returned (.int .i64 (countD h : Int)) ∧ Below w.heap.size w w' := by
  by_cases h1 : h < 0
  · have hc : countD h = 0 := by unfold countD; rw [if_pos (Or.inl h1)]
    have HC := Lib.hid hc
    clear hc
    have e1 : decide (h < 0) = true := decide_eq_true h1
    go_enter Tryd.func12, Tryd.ntmps12
    go_wp2_with fail
    go_ret
    rw [HC.out]
    exact ⟨rfl, Below.refl _ _⟩
  · by_cases h2 : 6 < h
    · have hc : countD h = 0 := by unfold countD; rw [if_pos (Or.inr h2)]
      have HC := Lib.hid hc
      clear hc
      go_enter Tryd.func12, Tryd.ntmps12
      go_wp2_with fail
      go_ret
      rw [HC.out]
      exact ⟨rfl, Below.refl _ _⟩
    · obtain ⟨k, rfl⟩ : ∃ k : Nat, h = (k : Int) := ⟨h.toNat, by omega⟩
      have hk : k ≤ 6 := by omega
      have hc : countD (k : Int) = 2 ^ k := by unfold countD; rw [if_neg (by omega), Int.toNat_natCast]
      rw [hc]
      clear hc
      go_enter Tryd.func12, Tryd.ntmps12
      rcases (by omega : k = 0 ∨ k = 1 ∨ k = 2 ∨ k = 3 ∨ k = 4 ∨ k = 5 ∨ k = 6) with rfl | rfl | rfl | rfl | rfl | rfl | rfl
      all_goals
        go_wp2_with fail
        go_ret
        exact ⟨rfl, Below.refl _ _⟩
end Go.Proofs.YtienlndjhcmemaaDoor
/-
  Digits of sign: what it returns.
-/
namespace Go.Proofs.YtienlndjhcmemaaDoor
open Go.RowKit

/-- An element of an array of integers by value. -/
theorem ixArr {P : Program} {w : World} {ops : Array Oper} {rest : List Oper} {o : Oper} {a : Act} {Q : Exit → Act → World → Prop} {t e : TypeId} {n : Nat} {k2 : IntKind} {cs : List Value} {kk : IntKind} {K : Int} (x y : Operand) (i : Nat) (v : Value)
    (hu : P.underlying t = some (.array n e)) (hue : P.underlying e = some (.int k2)) (he : (P.info? e).map (·.size) = some 1) (hgd : Region.wanted o (yielded ops a.tmps) = true)
    (ho : o.op = .index t x y) (hx : a.eval x = .agg cs.toArray) (hy : a.eval y = .int kk K) (hK : K = (i : Int)) (hv : cs[i]? = some v) (hl : cs.length = n)
    (h : wpList P ops Q rest (a.put o.dst v) w) : wpList P ops Q (o :: rest) a w := by
  subst hK
  obtain ⟨j, hj, hs⟩ := Option.map_eq_some_iff.1 he
  have hlt : i < n := by rw [← hl]; exact (List.getElem?_eq_some_iff.1 hv).1
  refine opVal (v := v) hgd ?_ h
  unfold execOp
  have hp : (Go.part e cs.toArray i).run P w = .ok v w := by
    unfold Go.part
    have ha : (isAgg e).run P w = .ok false w := by
      unfold isAgg
      rw [Sem.run_bind, run_underlying hue w]
      rfl
    simp [ha, hv]
  simp [ho, hx, hy, Instr.index, asIntOf, run_underlying hu, sizeOf, typeInfo, hj, hs, hlt, hp]
theorem Tryd.arr_i35 : Tryd.prog.underlying 25 = some (.array 35 3) := by kernel_rfl
theorem Tryd.ag_i35 : AgTy Tryd.prog 25 (zerosI 35).toArray 35 := ⟨by kernel_rfl, by kernel_rfl, by simp [zerosI]⟩
theorem bcs_get {l : List UInt8} {i : Nat} {b : UInt8} (h : l[i]? = some b) : (bcs l)[i]? = some (.int .u8 (b.toNat : Int)) := by
  unfold bcs
  rw [List.getElem?_map, h]
  rfl

theorem dgCells_old {d : List UInt8} {i : Nat} {b : UInt8} (h : d[i]? = some b) (_hi : i < 16) :
    (dgCells d (i + 1))[2 * i]? = some (.int .i64 ((b.toNat / 16 : Nat) : Int)) ∧ (dgCells d (i + 1))[2 * i + 1]? = some (.int .i64 ((b.toNat % 16 : Nat) : Int)) := by
  have hlt := (List.getElem?_eq_some_iff.1 h).1
  have hl : (ivs (digs (d.take i))).length = 2 * i := by rw [ivs_len, digs_len, List.length_take]; omega
  unfold dgCells
  rw [digs_next h, ivs_append]
  refine ⟨?_, ?_⟩
  · rw [List.append_assoc, List.getElem?_append_right (by omega), hl, Nat.sub_self]
    rfl
  · rw [List.append_assoc, List.getElem?_append_right (by omega), hl, show 2 * i + 1 - 2 * i = 1 by omega]
    rfl

theorem dgSum_room {d : List UInt8} {i : Nat} {b : UInt8} (_h : d[i]? = some b) (_hi : i < 16) : dgSum d i + 30 ≥ b.toNat / 16 + b.toNat % 16 := by
  have := nib_le b
  omega
theorem below_drewN' {B : Nat} {w w' : World} (h : Below B w w') (n : Nat) : Below B w (w'.drewN n) := ⟨h.os, h.tape, h.output, h.size, h.block⟩
/-- The cells when j of the last digits are written. -/
def dgTail (d : List UInt8) : Nat → List Value
  | 0 => dgCells d 16
  | j + 1 => (dgTail d j).set (34 - j) (.int .i64 ((chk d / 16 ^ j % 16 : Nat) : Int))
theorem dgTail_len {d : List UInt8} (h : d.length = 16) : ∀ j, (dgTail d j).length = 35
  | 0 => dgCells_len d (by omega) (by omega)
  | j + 1 => by unfold dgTail; rw [List.length_set, dgTail_len h j]

set_option maxRecDepth 100000 in
set_option maxHeartbeats 1000000 in
theorem digits_any (d : List UInt8) (w : World) (hd : d.length = 16) : Calls Tryd.prog 10 #[.agg (bcs d).toArray] w fun e w' => e = .returned (.agg (ivs (digitsD d)).toArray) ∧ Below w.heap.size w w' := by
  have HB := Lib.hid (show (bcs d).length = 16 by rw [bcs_length]; exact hd)
  have hg : w.heap.size ≤ w.heap.size := Nat.le_refl _
  go_enter Tryd.func10, Tryd.ntmps10
  go_wp2_with (with_reducible refine bxArr (cs := bcs d) (.tmp 0) (wn rfl) rfl rfl ?_)
  intro w1 h1 hb
  have n1 := h1.lt
  go_wp2_with (with_reducible refine alArr (z := zerosI 35) Tryd.ag_i35 (wn rfl) rfl ?_)
  intro w2 h2 hb2
  have e12 : w.heap.size < w1.heap.size := n1
  replace h1 := h1.below hb2 n1
  replace hb := hb.trans (hb2.mono hb.size)
  clear hb2 n1
  generalize w1.heap.size = g2 at *
  have n2 := h2.lt
  go_wp2_with (with_reducible refine alArr (z := zerosI 35) Tryd.ag_i35 (wn rfl) rfl ?_)
  intro w3 h3 hb3
  replace h1 := h1.below hb3 h1.lt
  replace h2 := h2.below hb3 h2.lt
  replace hb := hb.trans (hb3.mono hb.size)
  clear hb3
  generalize w2.heap.size = g3 at *
  have h3' : Arr w3 g3 25 (dgCells d 0) := h3
  clear h3
  go_wp2_with (with_reducible refine ldArr (.tmp 1) Tryd.ag_b16 (wn rfl) rfl rfl HB.out h1 ?_)
  go_loopw [4, 9] (fun v4 v9 wr => ∃ i : Nat, i ≤ 16 ∧ v9 = .int .i64 i ∧ v4 = .int .i64 ((dgSum d i : Nat) : Int) ∧ Arr wr g3 25 (dgCells d i) ∧ Arr wr g2 25 (zerosI 35) ∧ Below w.heap.size w wr) (fun _ v9 _ => 16 - (intOf v9).toNat)
  case atStart => exact ⟨0, by omega, rfl, rfl, h3', h2, hb⟩
  case round =>
    clear h3' h2 h1 hb
    obtain ⟨i, hi, rfl, rfl, h3, h2, hb⟩ := hrel
    by_cases hlt : i < 16
    · obtain ⟨b, hbi⟩ : ∃ b, d[i]? = some b := ⟨_, List.getElem?_eq_getElem (show i < d.length by omega)⟩
      have hbc := bcs_get hbi
      have hn := dgCells_next hbi hlt
      have hsn := dgSum_next hbi
      have hdl := dgSum_room hbi hlt
      have hs := dgSum_le d i (by omega)
      have c0 := h3.cell (dgCells_at d i (2 * i) (by omega) (by omega) (by omega))
      have c1 := h3.cell (dgCells_at d i (2 * i + 1) (by omega) (by omega) (by omega))
      have f0 := h3.thaw (2 * i)
      have f1 := h3.thaw (2 * i + 1)
      have hbn := b.toNat_lt
      have HN := Lib.hid hn
      have HSN := Lib.hid hsn
      have HBC := Lib.hid hbc
      have HBC' := Lib.hid hbi
      clear hn hsn hbi hbc
      go_wp2_with (with_reducible refine ixArr (.tmp 8) (.tmp 9) i (.int .u8 (b.toNat : Int)) Tryd.arr_b16 Tryd.und_u8 Tryd.one_u8 (wn rfl) rfl rfl rfl rfl HBC.out HB.out ?_)
      have h3n := (h3.set (2 * i) (.int .i64 ((b.toNat / 16 : Nat) : Int))).set (2 * i + 1) (.int .i64 ((b.toNat % 16 : Nat) : Int))
      rw [HN.out] at h3n
      have h2n := (h2.other (b' := g3) (by omega) (2 * i) (.int .i64 ((b.toNat / 16 : Nat) : Int))).other (b' := g3) (by omega) (2 * i + 1) (.int .i64 ((b.toNat % 16 : Nat) : Int))
      have hbn2 := (hb.setCell (p := ⟨g3, 2 * i, none⟩) (by show w.heap.size ≤ g3; omega) (.int .i64 ((b.toNat / 16 : Nat) : Int))).setCell (p := ⟨g3, 2 * i + 1, none⟩) (by show w.heap.size ≤ g3; omega) (.int .i64 ((b.toNat % 16 : Nat) : Int))
      have d0 := h3n.cell (dgCells_old (i := i) HBC'.out hlt).1
      have d1 := h3n.cell (dgCells_old (i := i) HBC'.out hlt).2
      simp only [Int.natCast_ediv, Int.natCast_emod, Int.cast_ofNat_Int] at h3n h2n hbn2 d0 d1
      clear c0 c1 f0 f1 h3 h2 hb
      generalize (wr.setCell ⟨g3, 2 * i, none⟩ (.int .i64 ((b.toNat : Int) / 16))).setCell ⟨g3, 2 * i + 1, none⟩ (.int .i64 ((b.toNat : Int) % 16)) = w6 at *
      have hx : 0 ≤ (b.toNat : Int) / 16 ∧ (b.toNat : Int) / 16 ≤ 15 := by omega
      have hy : 0 ≤ (b.toNat : Int) % 16 ∧ (b.toNat : Int) % 16 ≤ 15 := by omega
      obtain ⟨hx0, hx1⟩ := hx
      obtain ⟨hy0, hy1⟩ := hy
      generalize hX : (b.toNat : Int) / 16 = X at *
      generalize hY : (b.toNat : Int) % 16 = Y at *
      have HX := Lib.hid hX
      have HY := Lib.hid hY
      clear hX hY
      have k0 : (0 : Int) ≤ 2 * (i : Int) := by omega
      have k1 : 2 * (i : Int) < 35 := by omega
      have k2 : (0 : Int) ≤ 2 * (i : Int) + 1 := by omega
      have k3 : 2 * (i : Int) + 1 < 35 := by omega
      have t0 : (2 * (i : Int)).toNat = 2 * i := by omega
      have t1 : (2 * (i : Int) + 1).toNat = 2 * i + 1 := by omega
      go_quiet (fail)
      go_wp2
      go_roundw
      case rel =>
        have hsn := HSN.out
        have h1 := HX.out
        have h2' := HY.out
        have hdn := hdl
        refine ⟨i + 1, by omega, by go_num, ?_, h3n.drewN nq, h2n.drewN nq, Go.Proofs.YtienlndjhcmemaaDoor.below_drewN' hbn2 nq⟩
        congr 1
        omega
      case measure => simp [intOf]; omega
    · obtain rfl : i = 16 := by omega
      have hall := dgSum_all hd
      have hcells := dgCells_all hd
      have hs := dgSum_le d 16 (by omega)
      rw [hall] at hs
      have h3' : Arr wr g3 25 (dgTail d 0) := h3
      have HA := Lib.hid hall
      have HC := Lib.hid hcells
      clear hall hcells h3
      go_wp2
      rw [HA.out]
      go_loopw [4, 40] (fun v4 v40 wr => ∃ j : Nat, j ≤ 3 ∧ v40 = .int .i64 j ∧ v4 = .int .i64 ((chk d / 16 ^ j : Nat) : Int) ∧ Arr wr g3 25 (dgTail d j) ∧ Arr wr g2 25 (zerosI 35) ∧ Below w.heap.size w wr) (fun _ v40 _ => 3 - (intOf v40).toNat)
      case atStart => exact ⟨0, by omega, rfl, by simp, h3', h2, hb⟩
      case round =>
        clear h3' h2 hb
        obtain ⟨j, hj, rfl, rfl, h3, h2, hb⟩ := hrel
        have hc480 : chk d / 16 ^ j ≤ 480 := Nat.le_trans (Nat.div_le_self _ _) hs
        by_cases hlt : j < 3
        · obtain ⟨u, hu⟩ : ∃ u, (dgTail d j)[34 - j]? = some u := ⟨_, List.getElem?_eq_getElem (show 34 - j < (dgTail d j).length by rw [dgTail_len hd]; omega)⟩
          have hnx : (dgTail d j).set (34 - j) (.int .i64 ((chk d / 16 ^ j % 16 : Nat) : Int)) = dgTail d (j + 1) := rfl
          have hdv : chk d / 16 ^ j / 16 = chk d / 16 ^ (j + 1) := by rw [Nat.div_div_eq_div_mul, Nat.pow_succ]
          have HNX := Lib.hid hnx
          have HDV := Lib.hid hdv
          have c0 := h3.cell hu
          have f0 := h3.thaw (34 - j)
          clear hnx hdv hu
          generalize chk d / 16 ^ j = q at *
          have k0 : (0 : Int) ≤ 34 - (j : Int) := by omega
          have t0 : (34 - (j : Int)).toNat = 34 - j := by omega
          go_wp2
          have h3n := h3.set (34 - j) (.int .i64 ((q % 16 : Nat) : Int))
          rw [HNX.out] at h3n
          have h2n := h2.other (b' := g3) (by omega) (34 - j) (.int .i64 ((q % 16 : Nat) : Int))
          have hbn2 := hb.setCell (p := ⟨g3, 34 - j, none⟩) (by show w.heap.size ≤ g3; omega) (.int .i64 ((q % 16 : Nat) : Int))
          simp only [Int.natCast_emod, Int.cast_ofNat_Int] at h3n h2n hbn2
          go_roundw
          case rel => exact ⟨j + 1, by omega, by go_num, by rw [← HDV.out]; go_num, h3n, h2n, hbn2⟩
          case measure => simp [intOf]; omega
        · obtain rfl : j = 3 := by omega
          rw [show dgTail d 3 = ivs (digitsD d) from by have := HC.out; simpa [dgTail] using this] at h3
          have hl35 : (ivs (digitsD d)).length = 35 := by rw [ivs_len]; exact digitsD_len hd
          have HL := Lib.hid hl35
          clear hl35
          go_wp2_with (first | (with_reducible refine ldArr (.tmp 3) Tryd.ag_i35 (wn rfl) rfl rfl HL.out h3 ?_) | (with_reducible refine stArr (cs := ivs (digitsD d)) (.tmp 2) (.tmp 51) Tryd.ag_i35 (wn rfl) rfl rfl rfl h2 (zerosI_len _) HL.out (ivs_one _) ?_))
          intro w9 h9 _ hbel
          go_wp2_with fail
          refine bodyPost_ret (v := .agg (ivs (digitsD d)).toArray) ?_ rfl ⟨rfl, hb.trans (hbel _ (by omega))⟩
          exact res_cell1 _ Tryd.results10 Tryd.ag_i35 _ rfl HL.out (fun j u hu => by rw [Nat.zero_add]; exact h9.cell hu)
end Go.Proofs.YtienlndjhcmemaaDoor
/-
  climb, start, join and Message of sign: what they return.
-/
namespace Go.Proofs.YtienlndjhcmemaaDoor
open Go.RowKit

def GClimb (i j K : Int) (D : List UInt8) (ix_ : Nat) (v : Value) (w : World) : Prop :=
  match ix_ with
  | 3 => Reads 3 (([i, j, K]).map iv) v w
  | 4 => Reads (encI [i, j, K]).length (bcs (encI [i, j, K])) v w
  | 5 => v = sv (encI [i, j, K])
  | 6 => v = .agg (bcs D).toArray
  | 7 => v = sv D
  | 8 => Reads 2 (([encI [i, j, K], D]).map sv) v w
  | 9 => v = .agg (bcs (ofDig 4 [encI [i, j, K], D])).toArray
  | _ => True
set_option maxRecDepth 100000 in
set_option maxHeartbeats 1000000 in
theorem climb_any (i j : Int) (d : List UInt8) (a n : Nat) (w : World) (ht : Tabs w) (hi : isI64 i) (hj : isI64 j) (hd : d.length = 16) (han : a + n ≤ 1000) :
    Calls Tryd.prog 29 #[.int .i64 i, .int .i64 j, .agg (bcs d).toArray, .int .i64 (a : Int), .int .i64 ((a + n : Nat) : Int)] w fun e w' => e = .returned (.agg (bcs (climbD i j a d n)).toArray) ∧ Below w.heap.size w w' := by
  have hbd : (bcs d).length = 16 := by rw [bcs_length]; exact hd
  have HB := Lib.hid hbd
  clear hbd
  have hg : w.heap.size ≤ w.heap.size := Nat.le_refl _
  go_enter Tryd.func29, Tryd.ntmps29
  go_wp2_with (with_reducible refine bxArr (cs := bcs d) (.tmp 2) (wn rfl) rfl rfl ?_)
  intro w1 h7 hb
  have h7l := h7.lt
  go_wp2_with (with_reducible refine alArr (z := zerosB 16) Tryd.ag_b16 (wn rfl) rfl ?_)
  intro w2 h10 hb2
  have hne : w.heap.size ≠ w1.heap.size := by omega
  replace h7 := h7.below hb2 h7l
  replace hb := hb.trans (hb2.mono hb.size)
  clear hb2
  have hg10 : w.heap.size ≤ w1.heap.size := by omega
  clear h7l
  generalize w1.heap.size = g10 at *
  have h7' : Arr w2 w.heap.size 23 (bcs (climbD i j a d 0)) := h7
  clear h7
  go_wp2_with fail
  go_loopw [11] (fun k_ wr => ∃ (m : Nat) (K : Int), m ≤ n ∧ k_ = .int .i64 K ∧ K = ((a + m + 1 : Nat) : Int) ∧ Arr wr w.heap.size 23 (bcs (climbD i j a d m)) ∧ Arr wr g10 23 (zerosB 16) ∧ Below w.heap.size w wr) (fun k_ _ => a + n + 1 - (intOf k_).toNat)
  case atStart => exact ⟨0, _, by omega, rfl, by omega, h7', h10, hb⟩
  case round =>
    clear h7' h10 hb
    obtain ⟨m, K, hm, rfl, hK, h7, h10, hb⟩ := hrel
    by_cases hlt : m < n
    · have hnx : ofDig 4 [encI [i, j, K], climbD i j a d m] = climbD i j a d (m + 1) := by rw [hK]; rfl
      have HNX := Lib.hid hnx
      have hD16 := climbD_len i j a hd m
      clear hnx
      generalize climbD i j a d m = D at *
      have HD := Lib.hid hD16
      have HDB := Lib.hid (show (bcs D).length = 16 by rw [bcs_length]; exact hD16)
      have h64 : ∀ x ∈ [i, j, K], isI64 x := by
        intro x hx
        simp only [List.mem_cons, List.not_mem_nil, or_false] at hx
        rcases hx with rfl | rfl | rfl
        · exact hi
        · exact hj
        · unfold isI64; omega
      have hlen : (encI [i, j, K]).length ≤ 70368744177664 := Nat.le_trans (encI_le _) (by simp)
      have hin : (inputOf 4 [encI [i, j, K], D]).length ≤ 1000000000 := input2_le 4 _ _ (Nat.le_trans (encI_le _) (by simp)) (by omega)
      go_wp2_with fail
      refine aStart (by kernel_rfl) ?_
      replace h7 := h7.drew
      replace h10 := h10.drew
      replace hb := hb.drew
      generalize wr.drew = wd at *
      refine aTake (i := 0) (v := .int .i64 i) rfl (by kernel_rfl) (wn rfl) (fun _ _ _ h => h) (fun w => by kernel_rfl) ?_
      refine aTake (i := 1) (v := .int .i64 j) rfl (by kernel_rfl) (wn rfl) (fun _ _ _ h => h) (fun w => by kernel_rfl) ?_
      refine aTake (i := 2) (v := .int .i64 K) rfl (by kernel_rfl) (wn rfl) (fun _ _ _ h => h) (fun w => by kernel_rfl) ?_
      refine rgFloat [(3, 22), (4, 23), (5, 24), (6, 25), (7, 26), (8, 27), (9, 28)] (GClimb i j K D) _ 1 rfl (by kernel_rfl) ?mono ?step ?fin
      case mono =>
        intro p hp v w w' h hE
        simp only [List.mem_cons, List.not_mem_nil, or_false] at hp
        rcases hp with rfl | rfl | rfl | rfl | rfl | rfl | rfl
        · exact Reads.ext h hE
        · exact Reads.ext h hE
        · exact h
        · exact h
        · exact h
        · exact Reads.ext h hE
        · exact h
      case step =>
        intro p hp
        simp only [List.mem_cons, List.not_mem_nil, or_false] at hp
        rcases hp with rfl | rfl | rfl | rfl | rfl | rfl | rfl
        · refine ⟨_, rfl, rfl, fun a w' hF hE hG => ?_⟩
          have hx19 : a.eval (.tmp 19) = iv (i) := (hF.eval 19 (by kernel_rfl)).trans (by kernel_rfl)
          have hx20 : a.eval (.tmp 20) = iv (j) := (hF.eval 20 (by kernel_rfl)).trans (by kernel_rfl)
          have hx21 : a.eval (.tmp 21) = iv (K) := (hF.eval 21 (by kernel_rfl)).trans (by kernel_rfl)
          refine bsRow (([i, j, K]).map iv) Tryd.sl_int (wn rfl) rfl (by rw [Array.toList_map]; show [(0, a.eval (.tmp 19)), (1, a.eval (.tmp 20)), (2, a.eval (.tmp 21))] = _; rw [hx19, hx20, hx21]; rfl) rfl (by omega) (by omega) (iv_cells _) ?_
          intro A5 w5 hrd hb5
          exact ⟨_, rfl, hb5, A5, 3, _, rfl, Nat.le_refl _, hrd⟩
        · refine ⟨_, rfl, rfl, fun a w' hF hE hG => ?_⟩
          obtain ⟨A5, c5, B5, q1, q2, hrd⟩ : Reads 3 (([i, j, K]).map iv) (a.tmps.getD 22 undef) w' := hG (3, 22) (by simp) (by kernel_rfl)
          refine callOp 48 [.slice A5 3 c5] [] [] (by kernel_rfl) (wn rfl) rfl rfl (by rw [← q1]; rfl) ?_
          refine (ints_any [i, j, K] A5 3 c5 B5 w' hrd q2 h64 hlen).mono ?_
          rintro e w2 hret
          obtain ⟨A6, c6, rfl, _, hrd2, hb2⟩ := hret.open
          exact ⟨_, rfl, ⟨_, rfl, hb2, A6, c6, _, rfl, Nat.le_refl _, hrd2⟩⟩
        · refine ⟨_, rfl, rfl, fun a w' hF hE hG => ?_⟩
          obtain ⟨A5, c5, B5, q1, q2, hrd⟩ : Reads (encI [i, j, K]).length (bcs (encI [i, j, K])) (a.tmps.getD 23 undef) w' := hG (4, 23) (by simp) (by kernel_rfl)
          refine convStr (.tmp 23) (encI [i, j, K]) Tryd.sl_u8.und Tryd.und_u8 Tryd.und_str (wn rfl) rfl q1 hrd ?_
          exact ⟨_, rfl, Below.refl _ _, rfl⟩
        · refine ⟨_, rfl, rfl, fun a w' hF hE hG => ?_⟩
          refine ldArr (b := w.heap.size) (.tmp 7) Tryd.ag_b16 (wn rfl) rfl ((hF.eval 7 (by kernel_rfl)).trans (by kernel_rfl)) HDB.out (h7.below hE h7.lt) ?_
          exact ⟨_, rfl, Below.refl _ _, rfl⟩
        · refine ⟨_, rfl, rfl, fun a w' hF hE hG => ?_⟩
          have hx : a.tmps.getD 25 undef = .agg (bcs D).toArray := hG (6, 25) (by simp) (by kernel_rfl)
          refine callOp 35 [.agg (bcs D).toArray] [] [] (by kernel_rfl) (wn rfl) rfl rfl (by rw [← hx]; rfl) ?_
          refine (sgText_any D w' HD.out).mono ?_
          rintro e w2 ⟨rfl, hb2⟩
          exact ⟨_, rfl, ⟨_, rfl, hb2, rfl⟩⟩
        · refine ⟨_, rfl, rfl, fun a w' hF hE hG => ?_⟩
          have hx24 : a.tmps.getD 24 undef = sv (encI [i, j, K]) := hG (5, 24) (by simp) (by kernel_rfl)
          have hx26 : a.tmps.getD 26 undef = sv (D) := hG (7, 26) (by simp) (by kernel_rfl)
          refine bsRow (([encI [i, j, K], D]).map sv) Tryd.sl_str (wn rfl) rfl (by rw [Array.toList_map]; show [(0, a.tmps.getD 24 undef), (1, a.tmps.getD 26 undef)] = _; rw [hx24, hx26]; rfl) rfl (by omega) (by omega) (sv_cells _) ?_
          intro A5 w5 hrd hb5
          exact ⟨_, rfl, hb5, A5, 2, _, rfl, Nat.le_refl _, hrd⟩
        · refine ⟨_, rfl, rfl, fun a w' hF hE hG => ?_⟩
          obtain ⟨A5, c5, B5, q1, q2, hrd⟩ : Reads 2 (([encI [i, j, K], D]).map sv) (a.tmps.getD 27 undef) w' := hG (8, 27) (by simp) (by kernel_rfl)
          refine callOp 34 [.int .i64 4, .slice A5 2 c5] [] [] (by kernel_rfl) (wn rfl) rfl rfl (by rw [← q1]; rfl) ?_
          refine (of_any 4 [encI [i, j, K], D] A5 2 c5 B5 w' (ht.below (hb.trans (hE.mono hb.size)) ht.size) hrd q2 hin (by simp)).mono ?_
          rintro e w2 ⟨rfl, hb2⟩
          exact ⟨_, rfl, ⟨_, rfl, hb2, rfl⟩⟩
      case fin =>
        intro a wf hF hE hG
        have qf : a.tmps.getD 28 undef = .agg (bcs (ofDig 4 [encI [i, j, K], D])).toArray := hG (9, 28) (by simp)
        replace h7 := h7.below hE h7.lt
        replace h10 := h10.below hE h10.lt
        have hszf := hb.size
        replace hb := hb.trans (hE.mono hb.size)
        rw [hF.eq]
        simp only [putsX]
        rw [qf]
        generalize a.tmps.getD 22 undef = x22
        generalize a.tmps.getD 23 undef = x23
        generalize a.tmps.getD 24 undef = x24
        generalize a.tmps.getD 25 undef = x25
        generalize a.tmps.getD 26 undef = x26
        generalize a.tmps.getD 27 undef = x27
        clear hG hF hE qf
        refine aNext (i := 10) (by kernel_rfl) rfl ?_
        refine stArr (b := w.heap.size) (cs := bcs (ofDig 4 [encI [i, j, K], D])) (.tmp 7) (.tmp 28) Tryd.ag_b16 (wn rfl) rfl (by kernel_rfl) (by kernel_rfl) h7 HDB.out (by rw [bcs_length]; exact ofDig_len _ _) (bcs_one _) ?_
        intro w3 h7 hkeep hbel
        replace h10 := hkeep _ _ _ (Ne.symm hne) h10
        replace hb := hb.trans (hbel _ hg)
        clear hkeep hbel
        rw [HNX.out] at h7
        refine aDone (by kernel_rfl) ?_
        simp only [Act.put, List.setIfInBounds_toArray, List.set_cons_succ, List.set_cons_zero]
        go_wp2_with fail
        go_roundw
        case rel => exact ⟨m + 1, K + 1, by omega, by go_num, by omega, h7, h10, hb⟩
        case measure => (simp [intOf]; try omega)
    · obtain rfl : m = n := by omega
      have HD := Lib.hid (show (bcs (climbD i j a d m)).length = 16 by rw [bcs_length]; exact climbD_len i j a hd m)
      go_wp2_with (first | (with_reducible refine ldArr (.tmp 7) Tryd.ag_b16 (wn rfl) rfl rfl HD.out h7 ?_) | (with_reducible refine stArr (cs := bcs (climbD i j a d m)) (.tmp 10) (.tmp 29) Tryd.ag_b16 (wn rfl) rfl rfl rfl h10 (zerosB_len _) HD.out (bcs_one _) ?_))
      intro w3 h3 _ hbel
      go_wp2_with fail
      refine bodyPost_ret (v := .agg (bcs (climbD i j a d m)).toArray) ?_ rfl ⟨rfl, hb.trans (hbel _ hg10)⟩
      exact res_cell1 _ Tryd.results29 Tryd.ag_b16 _ rfl HD.out (fun j u hu => by rw [Nat.zero_add]; exact h3.cell hu)
end Go.Proofs.YtienlndjhcmemaaDoor
/-
  The specification's digest of a text, and parts of a text.
-/
namespace Go.Proofs.YtienlndjhcmemaaDoor
open Go.RowKit

theorem ext_take (l : List UInt8) (V : Nat) : (⟨l.toArray⟩ : ByteArray).extract 0 V = ⟨(l.take V).toArray⟩ := by
  apply ByteArray.ext
  apply Array.ext'
  simp
theorem ext_drop (l : List UInt8) (U : Nat) : (⟨l.toArray⟩ : ByteArray).extract U (⟨l.toArray⟩ : ByteArray).size = ⟨(l.drop U).toArray⟩ := by
  apply ByteArray.ext
  apply Array.ext'
  have : (⟨l.toArray⟩ : ByteArray).size = l.length := by simp [ByteArray.size]
  rw [this]
  simp
  rw [List.take_of_length_le (by rw [List.length_drop]; exact Nat.le_refl _)]
section
variable {P : Program} {w : World} {ops : Array Oper} {rest : List Oper} {o : Oper} {a : Act} {Q : Exit → Act → World → Prop}
/-- A byte of a text. -/
theorem ixStr {t : TypeId} {kk : IntKind} {K : Int} (x y : Operand) (l : List UInt8) (k : Nat) (b : UInt8) (ht : P.underlying t = some .string) (hgd : Region.wanted o (yielded ops a.tmps) = true)
    (ho : o.op = .index t x y) (hx : a.eval x = .string ⟨l.toArray⟩) (hy : a.eval y = .int kk K) (hK : K = (k : Int)) (hb : l[k]? = some b)
    (hk : wpList P ops Q rest (a.put o.dst (.int .u8 (b.toNat : Int))) w) : wpList P ops Q (o :: rest) a w := by
  subst hK
  refine opVal (v := .int .u8 (b.toNat : Int)) hgd ?_ hk
  unfold execOp
  have hlt := (List.getElem?_eq_some_iff.1 hb).1
  have hg : (⟨l.toArray⟩ : ByteArray)[k]? = some b := by
    rw [← hb]
    simp only [getElem?_def, ByteArray.size, List.size_toArray]
    by_cases h : k < l.length
    · rw [dif_pos h, dif_pos h]; rfl
    · omega
  simp [ho, hx, hy, Instr.index, asIntOf, run_underlying ht, hg]
/-- 's[:hi]' of a text. -/
theorem slStrH {t : TypeId} {kh : IntKind} {H : Int} (x h : Operand) (l : List UInt8) (V : Nat) (hgd : Region.wanted o (yielded ops a.tmps) = true)
    (ho : o.op = .slice t x none (some h) none) (hx : a.eval x = .string ⟨l.toArray⟩) (hh : a.eval h = .int kh H) (hH : H = (V : Int)) (h2 : V ≤ l.length) (ht : P.underlying t = some .string)
    (hk : wpList P ops Q rest (a.put o.dst (.string ⟨(l.take V).toArray⟩)) w) : wpList P ops Q (o :: rest) a w := by
  subst hH
  refine opVal (v := .string ⟨(l.take V).toArray⟩) hgd ?_ hk
  unfold execOp
  have hs : (⟨l.toArray⟩ : ByteArray).size = l.length := by simp [ByteArray.size]
  have := run_slice_string_h (P := P) w t ⟨l.toArray⟩ ht kh (V : Int) (by omega) (by rw [hs]; omega)
  rw [Int.toNat_natCast, ext_take] at this
  simp only [ho, hx, hh, Option.map_some, Option.map_none, Sem.run_bind, Sem.run_pure, run_sliceAt_string w t _ _ _ _ ht, this, Result.andThen_ok]
/-- 's[lo:]' of a text. -/
theorem slStrL {t : TypeId} {kl : IntKind} {L : Int} (x y : Operand) (l : List UInt8) (U : Nat) (hgd : Region.wanted o (yielded ops a.tmps) = true)
    (ho : o.op = .slice t x (some y) none none) (hx : a.eval x = .string ⟨l.toArray⟩) (hh : a.eval y = .int kl L) (hL : L = (U : Int)) (h2 : U ≤ l.length) (ht : P.underlying t = some .string)
    (hk : wpList P ops Q rest (a.put o.dst (.string ⟨(l.drop U).toArray⟩)) w) : wpList P ops Q (o :: rest) a w := by
  subst hL
  refine opVal (v := .string ⟨(l.drop U).toArray⟩) hgd ?_ hk
  unfold execOp
  have hs : (⟨l.toArray⟩ : ByteArray).size = l.length := by simp [ByteArray.size]
  have := run_slice_string_l (P := P) w t ⟨l.toArray⟩ ht kl (U : Int) (by omega) (by rw [hs]; omega)
  rw [Int.toNat_natCast, ext_drop] at this
  simp only [ho, hx, hh, Option.map_some, Option.map_none, Sem.run_bind, Sem.run_pure, run_sliceAt_string w t _ _ _ _ ht, this, Result.andThen_ok]
end
theorem inputB_le (tag : Int) (x : List UInt8) (hx : x.length ≤ 100000000) : (inputOf tag [x]).length ≤ 1000000000 := by
  have := input_le tag [x] 100000000 (by intro u hu; simp at hu; subst hu; assumption)
  simp at this
  omega
set_option maxRecDepth 100000 in
set_option maxHeartbeats 1000000 in
theorem refDig_any (l : List UInt8) (w : World) (hl : 16 ≤ l.length) : Calls Tryd.prog 44 #[sv l] w fun e w' => e = .returned (.agg (bcs (l.take 16)).toArray) ∧ Below w.heap.size w w' := by
  have HD := Lib.hid (show (bcs (l.take 16)).length = 16 by rw [bcs_length, List.length_take]; omega)
  have hsz : (⟨l.toArray⟩ : ByteArray).size = l.length := by simp [ByteArray.size]
  have HSZ := Lib.hid hsz
  clear hsz
  unfold sv
  go_enter Tryd.func44, Tryd.ntmps44
  go_wp2_with (with_reducible refine alArr (z := zerosB 16) Tryd.ag_b16 (wn rfl) rfl ?_)
  intro w1 h2 hb
  have n12 := h2.lt
  go_wp2_with (with_reducible refine alArr (z := zerosB 16) Tryd.ag_b16 (wn rfl) rfl ?_)
  intro w2 h4 hb2
  replace h2 := h2.below hb2 h2.lt
  replace hb := hb.trans (hb2.mono hb.size)
  clear hb2
  generalize w1.heap.size = g4 at *
  rw [zeros_pad l] at h4
  go_wp2_with fail
  go_loopw [4] (fun iv_ wr => ∃ i : Nat, i ≤ 16 ∧ iv_ = .int .i64 i ∧ Arr wr w.heap.size 23 (zerosB 16) ∧ Arr wr g4 23 (bcs (l.take i ++ List.replicate (16 - i) 0)) ∧ Below w.heap.size w wr) (fun iv_ _ => 16 - (intOf iv_).toNat)
  case atStart => exact ⟨0, by omega, rfl, h2, h4, hb⟩
  case round =>
    clear h2 h4 hb
    obtain ⟨i, hi, rfl, h2, h4, hb⟩ := hrel
    by_cases hlt : i < 16
    · obtain ⟨b, hb1, hb2⟩ := bcs_at (l := l) (i := i) (by omega)
      have hc4 : wr.cell? ⟨g4, i, none⟩ = some (.int .u8 0) := h4.cell (pad_at l i 16 (by omega) hlt)
      have hf := h4.thaw i
      have hnx := set_pad hb1 hlt
      have HNX := Lib.hid hnx
      have HB1 := Lib.hid hb1
      clear hnx hb1 hb2
      go_wp2_with (with_reducible refine ixStr (.tmp 10) (.tmp 11) l i b Tryd.und_str (wn rfl) rfl rfl rfl rfl HB1.out ?_)
      go_roundw
      case rel => exact ⟨i + 1, by omega, by go_num, h2.other (by omega) i _, by rw [← HNX.out]; exact h4.set i _, hb.setCell (p := ⟨g4, i, none⟩) (by show w.heap.size ≤ g4; omega) _⟩
      case measure => (simp [intOf]; try omega)
    · obtain rfl : i = 16 := by omega
      rw [show l.take 16 ++ List.replicate (16 - 16) 0 = l.take 16 from by simp] at h4
      go_wp2_with (first | (with_reducible refine ldArr (.tmp 3) Tryd.ag_b16 (wn rfl) rfl rfl HD.out h4 ?_) | (with_reducible refine stArr (cs := bcs (l.take 16)) (.tmp 2) (.tmp 14) Tryd.ag_b16 (wn rfl) rfl rfl rfl h2 (zerosB_len _) HD.out (bcs_one _) ?_))
      intro w5 h2 hkeep hbel
      go_wp2_with fail
      refine bodyPost_ret (v := .agg (bcs (l.take 16)).toArray) ?_ rfl ⟨rfl, hb.trans (hbel _ (Nat.le_refl _))⟩
      exact res_cell1 (bcs (l.take 16)) Tryd.results44 Tryd.ag_b16 _ rfl HD.out (fun j u hu => by rw [Nat.zero_add]; exact h2.cell hu)
end Go.Proofs.YtienlndjhcmemaaDoor
/-
  Of and Few of the specification.
-/
namespace Go.Proofs.YtienlndjhcmemaaDoor
open Go.RowKit

set_option maxRecDepth 100000 in
set_option maxHeartbeats 1000000 in
theorem refOf_any (tag : Int) (l : List (List UInt8)) (A : Option Addr) (n c B : Nat) (w : World) (ht : TabsR w) (hr : Rd w B 1 A n c (l.map sv)) (hB : B ≤ w.heap.size) (hlen : (inputOf tag l).length ≤ 1000000000) (hlp : l.length ≤ 1000000000) :
    Calls Tryd.prog 36 #[.int .i64 tag, .slice A n c] w fun e w' => e = .returned (.agg (bcs (ofDig tag l)).toArray) ∧ Below w.heap.size w w' := by
  have hod : (sha (inputOf tag l)).take 16 = ofDig tag l := rfl
  have HOD := Lib.hid hod
  have HD := Lib.hid (show (bcs (ofDig tag l)).length = 16 by rw [bcs_length]; exact ofDig_len tag l)
  clear hod
  generalize ofDig tag l = dig at *
  go_enter Tryd.func36, Tryd.ntmps36
  go_wp2_with (with_reducible refine alArr (z := zerosB 16) Tryd.ag_b16 (wn rfl) rfl ?_)
  intro w1 h4 hb
  go_wp2_with fail
  refine (input_any tag l A n c B w1 (hr.below (hb.mono hB)) (Nat.le_trans hB hb.size) hlen hlp).mono ?_
  rintro e w2 hret
  obtain ⟨A2, c2, rfl, _, hrd, hb2⟩ := hret.open
  replace h4 := h4.below hb2 h4.lt
  replace hb := hb.trans (hb2.mono hb.size)
  clear hb2 hret
  go_wp2_with fail
  refine (short_any (inputOf tag l) A2 _ c2 _ w2 (ht.below hb ht.size) hrd (Nat.le_refl _) hlen).mono ?_
  rintro e w3 ⟨rfl, hb3⟩
  replace h4 := h4.below hb3 h4.lt
  replace hb := hb.trans (hb3.mono hb.size)
  rw [HOD.out]
  clear hb3 hrd
  go_wp2_with (with_reducible refine stArr (cs := bcs dig) (.tmp 4) (.tmp 8) Tryd.ag_b16 (wn rfl) rfl rfl rfl h4 (zerosB_len _) HD.out (bcs_one _) ?_)
  intro w4 h4 hkeep hbel
  go_wp2_with fail
  refine bodyPost_ret (v := .agg (bcs dig).toArray) ?_ rfl ⟨rfl, hb.trans (hbel _ (Nat.le_refl _))⟩
  exact res_cell1 (bcs dig) Tryd.results36 Tryd.ag_b16 _ rfl HD.out (fun j u hu => by rw [Nat.zero_add]; exact h4.cell hu)

end Go.Proofs.YtienlndjhcmemaaDoor
/-
  start, join and Message of sign, and start, node, leaf, Message and climb of the specification: what they return.
-/
namespace Go.Proofs.YtienlndjhcmemaaDoor
open Go.RowKit

theorem new_row (w : World) (cs : List Value) (t : TypeId) (n : Nat) (hs : cs.length = n) (hn : n ≤ 65536) :
    Rd (w.alloc (.cells cs.toArray t)) (w.alloc (.cells cs.toArray t)).heap.size 1 (some ⟨w.heap.size, 0, none⟩) n n cs ∧ Below w.heap.size w (w.alloc (.cells cs.toArray t)) :=
  ⟨⟨by omega, Nat.le_refl _, by unfold maxLen; omega, fun _ => ⟨w.heap.size, 0, rfl, by simp, cells_new w cs t⟩⟩, (Below.refl _ _).alloc (Nat.le_refl _) _⟩
theorem macD_len (k t : List UInt8) : (mac k t).length = 32 := sha_len _
theorem startD_len (seed : List UInt8) (i j : Int) : (startD seed i j).length = 16 := by
  unfold startD; rw [List.length_take, macD_len]; rfl
theorem enc2_64 {i j : Int} (hi : isI64 i) (hj : isI64 j) : ∀ x ∈ [i, j], isI64 x := by
  intro x hx
  simp only [List.mem_cons, List.not_mem_nil, or_false] at hx
  rcases hx with rfl | rfl
  · exact hi
  · exact hj
theorem encI2_le (i j : Int) : (encI [i, j]).length ≤ 1000 := Nat.le_trans (encI_le _) (by simp)

set_option maxRecDepth 100000 in
set_option maxHeartbeats 1000000 in
theorem start_any (seed : List UInt8) (i j : Int) (w : World) (ht : Tabs w) (hi : isI64 i) (hj : isI64 j) (hs : seed.length ≤ 100000000) :
    Calls Tryd.prog 30 #[sv seed, .int .i64 i, .int .i64 j] w fun e w' => e = .returned (.agg (bcs (startD seed i j)).toArray) ∧ Below w.heap.size w w' := by
  have HL := Lib.hid (show (bcs (startD seed i j)).length = 16 by rw [bcs_length]; exact startD_len _ _ _)
  have hg : w.heap.size ≤ w.heap.size := Nat.le_refl _
  have h64 := Lib.hid (enc2_64 hi hj)
  have hlen := encI2_le i j
  unfold sv
  go_enter Tryd.func30, Tryd.ntmps30
  go_wp2_with (with_reducible refine alArr (z := zerosB 16) Tryd.ag_b16 (wn rfl) rfl ?_)
  intro w1 h6 bw1
  have hb := bw1
  clear bw1
  go_wp2_with fail
  obtain ⟨hrd, bw2⟩ := new_row w1 [.int .i64 i, .int .i64 j] 3 2 rfl (by omega)
  generalize w1.alloc (.cells [.int .i64 i, .int .i64 j].toArray 3) = w2 at *
  replace h6 := h6.below bw2 h6.lt
  replace hb := hb.trans (bw2.mono hb.size)
  clear bw2
  refine (ints_any [i, j] _ 2 2 _ w2 hrd (Nat.le_refl _) h64.out (by omega)).mono ?_
  rintro e w3 hret
  obtain ⟨Aw3, cw3, rfl, _, hrd3, bw3⟩ := hret.open
  clear hret
  replace h6 := h6.below bw3 h6.lt
  replace hb := hb.trans (bw3.mono hb.size)
  clear bw3
  clear hrd
  go_wp2_with (with_reducible refine convStr (.tmp 11) (encI [i, j]) Tryd.sl_u8.und Tryd.und_u8 Tryd.und_str (wn rfl) rfl rfl hrd3 ?_)
  clear hrd3
  go_wp2_with fail
  refine (mac_any seed (encI [i, j]) w3 (ht.below hb ht.size) hs (by omega)).mono ?_
  rintro e w4 ⟨rfl, bw4⟩
  unfold sv
  replace h6 := h6.below bw4 h6.lt
  replace hb := hb.trans (bw4.mono hb.size)
  clear bw4
  go_wp2_with fail
  refine (sgDigest_any (mac seed (encI [i, j])) w4 (by rw [macD_len]; omega)).mono ?_
  rintro e w5 ⟨rfl, bw5⟩
  replace h6 := h6.below bw5 h6.lt
  replace hb := hb.trans (bw5.mono hb.size)
  clear bw5
  go_wp2_with (with_reducible refine stArr (cs := bcs (startD seed i j)) (.tmp 6) (.tmp 14) Tryd.ag_b16 (wn rfl) rfl rfl rfl h6 (zerosB_len _) HL.out (bcs_one _) ?_)
  intro w6 h6 hkeep hbel
  replace hb := hb.trans (hbel _ hg)
  clear hkeep hbel
  go_wp2_with fail
  refine bodyPost_ret (v := (.agg (bcs (startD seed i j)).toArray)) ?_ rfl ⟨rfl, hb⟩
  exact res_cell1 _ Tryd.results30 Tryd.ag_b16 _ rfl HL.out (fun j u hu => by rw [Nat.zero_add]; exact h6.cell hu)

set_option maxRecDepth 100000 in
set_option maxHeartbeats 1000000 in
theorem refStart_any (seed : List UInt8) (i j : Int) (w : World) (ht : TabsR w) (hi : isI64 i) (hj : isI64 j) (hs : seed.length ≤ 100000000) :
    Calls Tryd.prog 32 #[sv seed, .int .i64 i, .int .i64 j] w fun e w' => e = .returned (.agg (bcs (startD seed i j)).toArray) ∧ Below w.heap.size w w' := by
  have HL := Lib.hid (show (bcs (startD seed i j)).length = 16 by rw [bcs_length]; exact startD_len _ _ _)
  have hg : w.heap.size ≤ w.heap.size := Nat.le_refl _
  have h64 := Lib.hid (enc2_64 hi hj)
  have hlen := encI2_le i j
  unfold sv
  go_enter Tryd.func32, Tryd.ntmps32
  go_wp2_with (with_reducible refine alArr (z := zerosB 16) Tryd.ag_b16 (wn rfl) rfl ?_)
  intro w1 h6 bw1
  have hb := bw1
  clear bw1
  go_wp2_with fail
  obtain ⟨hrd, bw2⟩ := new_row w1 [.int .i64 i, .int .i64 j] 3 2 rfl (by omega)
  generalize w1.alloc (.cells [.int .i64 i, .int .i64 j].toArray 3) = w2 at *
  replace h6 := h6.below bw2 h6.lt
  replace hb := hb.trans (bw2.mono hb.size)
  clear bw2
  refine (refInts_any [i, j] _ 2 2 _ w2 hrd (Nat.le_refl _) h64.out (by omega)).mono ?_
  rintro e w3 hret
  obtain ⟨Aw3, cw3, rfl, _, hrd3, bw3⟩ := hret.open
  clear hret
  replace h6 := h6.below bw3 h6.lt
  replace hb := hb.trans (bw3.mono hb.size)
  clear bw3
  clear hrd
  go_wp2_with (with_reducible refine convStr (.tmp 11) (encI [i, j]) Tryd.sl_u8.und Tryd.und_u8 Tryd.und_str (wn rfl) rfl rfl hrd3 ?_)
  clear hrd3
  go_wp2_with fail
  refine (refMac_any seed (encI [i, j]) w3 (ht.below hb ht.size) hs (by omega)).mono ?_
  rintro e w4 ⟨rfl, bw4⟩
  unfold sv
  replace h6 := h6.below bw4 h6.lt
  replace hb := hb.trans (bw4.mono hb.size)
  clear bw4
  go_wp2_with (with_reducible refine slStrH (.tmp 13) (.const (.int .i64 16)) (mac seed (encI [i, j])) 16 (wn rfl) rfl rfl rfl rfl (by rw [macD_len]; omega) Tryd.und_str ?_)
  go_wp2_with fail
  refine (refDig_any ((mac seed (encI [i, j])).take 16) w4 (by rw [List.length_take, macD_len]; omega)).mono ?_
  rintro e w5 ⟨rfl, bw5⟩
  replace h6 := h6.below bw5 h6.lt
  replace hb := hb.trans (bw5.mono hb.size)
  clear bw5
  rw [List.take_take, Nat.min_self]
  go_wp2_with (with_reducible refine stArr (cs := bcs (startD seed i j)) (.tmp 6) (.tmp 15) Tryd.ag_b16 (wn rfl) rfl rfl rfl h6 (zerosB_len _) HL.out (bcs_one _) ?_)
  intro w6 h6 hkeep hbel
  replace hb := hb.trans (hbel _ hg)
  clear hkeep hbel
  go_wp2_with fail
  refine bodyPost_ret (v := (.agg (bcs (startD seed i j)).toArray)) ?_ rfl ⟨rfl, hb⟩
  exact res_cell1 _ Tryd.results32 Tryd.ag_b16 _ rfl HL.out (fun j u hu => by rw [Nat.zero_add]; exact h6.cell hu)

set_option maxRecDepth 100000 in
set_option maxHeartbeats 1000000 in
theorem message_any (p : List UInt8) (i : Int) (m : List UInt8) (w : World) (ht : Tabs w) (hp : p.length = 16) (hi : isI64 i) (hm : m.length ≤ 100000000) :
    Calls Tryd.prog 20 #[.agg (bcs p).toArray, .int .i64 i, sv m] w fun e w' => e = .returned (.agg (bcs (messageD p i m)).toArray) ∧ Below w.heap.size w w' := by
  have HP := Lib.hid (show (bcs p).length = 16 by rw [bcs_length]; exact hp)
  have HL := Lib.hid (show (bcs (messageD p i m)).length = 16 by rw [bcs_length]; exact ofDig_len _ _)
  have hg : w.heap.size ≤ w.heap.size := Nat.le_refl _
  have HPL := Lib.hid hp
  have hen := enc_len i
  have hin : (inputOf 6 [p, enc i, m]).length ≤ 1000000000 := input3_le 6 _ _ _ (by omega) (by omega) hm
  have hsv : ∀ l : List UInt8, Value.string ⟨l.toArray⟩ = sv l := fun _ => rfl
  have HSV := Lib.hid hsv
  clear hp hsv
  unfold isI64 at hi
  unfold sv
  go_enter Tryd.func20, Tryd.ntmps20
  go_wp2_with (with_reducible refine bxArr (cs := bcs p) (.tmp 0) (wn rfl) rfl rfl ?_)
  intro w1 h3 bw1
  have hb := bw1
  clear bw1
  have l3 := h3.lt
  have l3s : w.heap.size < w1.heap.size := h3.lt
  go_wp2_with (with_reducible refine alArr (z := zerosB 16) Tryd.ag_b16 (wn rfl) rfl ?_)
  intro w2 h6 bw2
  replace h3 := h3.below bw2 h3.lt
  replace hb := hb.trans (bw2.mono hb.size)
  clear bw2
  have hg6 : w.heap.size ≤ w1.heap.size := by omega
  generalize hgen : w1.heap.size = g6 at *
  clear hgen
  go_wp2_with (with_reducible refine ldArr (.tmp 3) Tryd.ag_b16 (wn rfl) rfl rfl HP.out h3 ?_)
  go_wp2_with fail
  refine (sgText_any p w2 HPL.out).mono ?_
  rintro e w3 ⟨rfl, bw3⟩
  unfold sv
  replace h3 := h3.below bw3 h3.lt
  replace h6 := h6.below bw3 h6.lt
  replace hb := hb.trans (bw3.mono hb.size)
  clear bw3
  clear h3
  go_wp2_with fail
  refine (int_any i w3 hi.1 hi.2).mono ?_
  rintro e w4 hret
  obtain ⟨Aw4, cw4, rfl, _, hrd3, bw4⟩ := hret.open
  clear hret
  replace h6 := h6.below bw4 h6.lt
  replace hb := hb.trans (bw4.mono hb.size)
  clear bw4
  go_wp2_with (with_reducible refine convStr (.tmp 10) (enc i) Tryd.sl_u8.und Tryd.und_u8 Tryd.und_str (wn rfl) rfl rfl hrd3 ?_)
  clear hrd3
  go_wp2_with fail
  obtain ⟨hrd4, bw5⟩ := new_row w4 [.string ⟨p.toArray⟩, .string ⟨(enc i).toArray⟩, .string ⟨m.toArray⟩] 9 3 rfl (by omega)
  generalize w4.alloc (.cells [.string ⟨p.toArray⟩, .string ⟨(enc i).toArray⟩, .string ⟨m.toArray⟩].toArray 9) = w5 at *
  replace h6 := h6.below bw5 h6.lt
  replace hb := hb.trans (bw5.mono hb.size)
  clear bw5
  refine (of_any 6 [p, enc i, m] _ 3 3 _ w5 (ht.below hb ht.size) hrd4 (Nat.le_refl _) hin (by simp)).mono ?_
  rintro e w6 ⟨rfl, bw6⟩
  replace h6 := h6.below bw6 h6.lt
  replace hb := hb.trans (bw6.mono hb.size)
  clear bw6
  clear hrd4
  go_wp2_with (with_reducible refine stArr (cs := bcs (messageD p i m)) (.tmp 6) (.tmp 14) Tryd.ag_b16 (wn rfl) rfl rfl rfl h6 (zerosB_len _) HL.out (bcs_one _) ?_)
  intro w7 h6 hkeep hbel
  replace hb := hb.trans (hbel _ (by omega))
  clear hkeep hbel
  go_wp2_with fail
  refine bodyPost_ret (v := (.agg (bcs (messageD p i m)).toArray)) ?_ rfl ⟨rfl, hb⟩
  exact res_cell1 _ Tryd.results20 Tryd.ag_b16 _ rfl HL.out (fun j u hu => by rw [Nat.zero_add]; exact h6.cell hu)

set_option maxRecDepth 100000 in
set_option maxHeartbeats 1000000 in
theorem refMessage_any (p : List UInt8) (i : Int) (m : List UInt8) (w : World) (ht : TabsR w) (hp : p.length = 16) (hi : isI64 i) (hm : m.length ≤ 100000000) :
    Calls Tryd.prog 21 #[.agg (bcs p).toArray, .int .i64 i, sv m] w fun e w' => e = .returned (.agg (bcs (messageD p i m)).toArray) ∧ Below w.heap.size w w' := by
  have HP := Lib.hid (show (bcs p).length = 16 by rw [bcs_length]; exact hp)
  have HL := Lib.hid (show (bcs (messageD p i m)).length = 16 by rw [bcs_length]; exact ofDig_len _ _)
  have hg : w.heap.size ≤ w.heap.size := Nat.le_refl _
  have HPL := Lib.hid hp
  have hen := enc_len i
  have hin : (inputOf 6 [p, enc i, m]).length ≤ 1000000000 := input3_le 6 _ _ _ (by omega) (by omega) hm
  have hsv : ∀ l : List UInt8, Value.string ⟨l.toArray⟩ = sv l := fun _ => rfl
  have HSV := Lib.hid hsv
  clear hp hsv
  unfold isI64 at hi
  unfold sv
  go_enter Tryd.func21, Tryd.ntmps21
  go_wp2_with (with_reducible refine bxArr (cs := bcs p) (.tmp 0) (wn rfl) rfl rfl ?_)
  intro w1 h3 bw1
  have hb := bw1
  clear bw1
  have l3 := h3.lt
  have l3s : w.heap.size < w1.heap.size := h3.lt
  go_wp2_with (with_reducible refine alArr (z := zerosB 16) Tryd.ag_b16 (wn rfl) rfl ?_)
  intro w2 h6 bw2
  replace h3 := h3.below bw2 h3.lt
  replace hb := hb.trans (bw2.mono hb.size)
  clear bw2
  have hg6 : w.heap.size ≤ w1.heap.size := by omega
  generalize hgen : w1.heap.size = g6 at *
  clear hgen
  go_wp2_with (with_reducible refine ldArr (.tmp 3) Tryd.ag_b16 (wn rfl) rfl rfl HP.out h3 ?_)
  go_wp2_with fail
  refine (text_any p w2 HPL.out).mono ?_
  rintro e w3 ⟨rfl, bw3⟩
  unfold sv
  replace h3 := h3.below bw3 h3.lt
  replace h6 := h6.below bw3 h6.lt
  replace hb := hb.trans (bw3.mono hb.size)
  clear bw3
  clear h3
  go_wp2_with fail
  refine (refInt_any i w3 hi.1 hi.2).mono ?_
  rintro e w4 hret
  obtain ⟨Aw4, cw4, rfl, _, hrd3, bw4⟩ := hret.open
  clear hret
  replace h6 := h6.below bw4 h6.lt
  replace hb := hb.trans (bw4.mono hb.size)
  clear bw4
  go_wp2_with (with_reducible refine convStr (.tmp 10) (enc i) Tryd.sl_u8.und Tryd.und_u8 Tryd.und_str (wn rfl) rfl rfl hrd3 ?_)
  clear hrd3
  go_wp2_with fail
  obtain ⟨hrd4, bw5⟩ := new_row w4 [.string ⟨p.toArray⟩, .string ⟨(enc i).toArray⟩, .string ⟨m.toArray⟩] 9 3 rfl (by omega)
  generalize w4.alloc (.cells [.string ⟨p.toArray⟩, .string ⟨(enc i).toArray⟩, .string ⟨m.toArray⟩].toArray 9) = w5 at *
  replace h6 := h6.below bw5 h6.lt
  replace hb := hb.trans (bw5.mono hb.size)
  clear bw5
  refine (refOf_any 6 [p, enc i, m] _ 3 3 _ w5 (ht.below hb ht.size) hrd4 (Nat.le_refl _) hin (by simp)).mono ?_
  rintro e w6 ⟨rfl, bw6⟩
  replace h6 := h6.below bw6 h6.lt
  replace hb := hb.trans (bw6.mono hb.size)
  clear bw6
  clear hrd4
  go_wp2_with (with_reducible refine stArr (cs := bcs (messageD p i m)) (.tmp 6) (.tmp 14) Tryd.ag_b16 (wn rfl) rfl rfl rfl h6 (zerosB_len _) HL.out (bcs_one _) ?_)
  intro w7 h6 hkeep hbel
  replace hb := hb.trans (hbel _ (by omega))
  clear hkeep hbel
  go_wp2_with fail
  refine bodyPost_ret (v := (.agg (bcs (messageD p i m)).toArray)) ?_ rfl ⟨rfl, hb⟩
  exact res_cell1 _ Tryd.results21 Tryd.ag_b16 _ rfl HL.out (fun j u hu => by rw [Nat.zero_add]; exact h6.cell hu)

set_option maxRecDepth 100000 in
set_option maxHeartbeats 1000000 in
theorem refLeaf_any (D : List UInt8) (A : Option Addr) (n c B : Nat) (w : World) (ht : TabsR w) (hr : Rd w B 16 A n c (bcs D)) (hB : B ≤ w.heap.size) (hn : (encD n D).length ≤ 100000000) :
    Calls Tryd.prog 45 #[.slice A n c] w fun e w' => e = .returned (.agg (bcs (ofDig 4 [encD n D])).toArray) ∧ Below w.heap.size w w' := by
  have HL := Lib.hid (show (bcs (ofDig 4 [encD n D])).length = 16 by rw [bcs_length]; exact ofDig_len _ _)
  have hg : w.heap.size ≤ w.heap.size := Nat.le_refl _
  have hin : (inputOf 4 [encD n D]).length ≤ 1000000000 := inputB_le 4 _ hn
  go_enter Tryd.func45, Tryd.ntmps45
  go_wp2_with (with_reducible refine alArr (z := zerosB 16) Tryd.ag_b16 (wn rfl) rfl ?_)
  intro w1 h2 bw1
  replace hr := hr.below (bw1.mono (by omega))
  have hb := bw1
  clear bw1
  have hsz := hb.size
  go_wp2_with fail
  refine (refDigs_any D A n c B w1 hr (by omega) (by omega)).mono ?_
  rintro e w2 hret
  obtain ⟨Aw2, cw2, rfl, _, hrd3, bw2⟩ := hret.open
  clear hret
  replace h2 := h2.below bw2 h2.lt
  replace hr := hr.below (bw2.mono (by omega))
  replace hb := hb.trans (bw2.mono hb.size)
  clear bw2
  clear hr
  go_wp2_with (with_reducible refine convStr (.tmp 4) (encD n D) Tryd.sl_u8.und Tryd.und_u8 Tryd.und_str (wn rfl) rfl rfl hrd3 ?_)
  clear hrd3
  go_wp2_with fail
  obtain ⟨hrd4, bw3⟩ := new_row w2 [.string ⟨(encD n D).toArray⟩] 9 1 rfl (by omega)
  generalize w2.alloc (.cells [.string ⟨(encD n D).toArray⟩].toArray 9) = w3 at *
  replace h2 := h2.below bw3 h2.lt
  replace hb := hb.trans (bw3.mono hb.size)
  clear bw3
  refine (refOf_any 4 [encD n D] _ 1 1 _ w3 (ht.below hb ht.size) hrd4 (Nat.le_refl _) hin (by simp)).mono ?_
  rintro e w4 ⟨rfl, bw4⟩
  replace h2 := h2.below bw4 h2.lt
  replace hb := hb.trans (bw4.mono hb.size)
  clear bw4
  clear hrd4
  go_wp2_with (with_reducible refine stArr (cs := bcs (ofDig 4 [encD n D])) (.tmp 2) (.tmp 7) Tryd.ag_b16 (wn rfl) rfl rfl rfl h2 (zerosB_len _) HL.out (bcs_one _) ?_)
  intro w5 h2 hkeep hbel
  replace hb := hb.trans (hbel _ hg)
  clear hkeep hbel
  go_wp2_with fail
  refine bodyPost_ret (v := (.agg (bcs (ofDig 4 [encD n D])).toArray)) ?_ rfl ⟨rfl, hb⟩
  exact res_cell1 _ Tryd.results45 Tryd.ag_b16 _ rfl HL.out (fun j u hu => by rw [Nat.zero_add]; exact h2.cell hu)

def GJoin (lv n : Int) (da db : List UInt8) (ix_ : Nat) (v : Value) (w : World) : Prop :=
  match ix_ with
  | 2 => Reads 2 (([lv, n]).map iv) v w
  | 3 => Reads (encI [lv, n]).length (bcs (encI [lv, n])) v w
  | 4 => v = sv (encI [lv, n])
  | 5 => v = .agg (bcs da).toArray
  | 6 => v = sv da
  | 7 => v = .agg (bcs db).toArray
  | 8 => v = sv db
  | 9 => Reads 3 (([encI [lv, n], da, db]).map sv) v w
  | 10 => v = .agg (bcs (joinD lv n da db)).toArray
  | _ => True
set_option maxRecDepth 100000 in
set_option maxHeartbeats 1000000 in
theorem join_any (lv n : Int) (da db : List UInt8) (w : World) (ht : Tabs w) (hl : isI64 lv) (hn : isI64 n) (ha : da.length = 16) (hbl : db.length = 16) :
    Calls Tryd.prog 42 #[.int .i64 lv, .int .i64 n, .agg (bcs da).toArray, .agg (bcs db).toArray] w fun e w' => e = .returned (.agg (bcs (joinD lv n da db)).toArray) ∧ Below w.heap.size w w' := by
  have HA := Lib.hid (show (bcs da).length = 16 by rw [bcs_length]; exact ha)
  have HB := Lib.hid (show (bcs db).length = 16 by rw [bcs_length]; exact hbl)
  have HL := Lib.hid (show (bcs (joinD lv n da db)).length = 16 by rw [bcs_length]; exact ofDig_len _ _)
  have HAL := Lib.hid ha
  have HBL := Lib.hid hbl
  have h64 := Lib.hid (enc2_64 hl hn)
  have hlen := encI2_le lv n
  have hin : (inputOf 5 [encI [lv, n], da, db]).length ≤ 1000000000 := input3_le 5 _ _ _ (by omega) (by omega) (by omega)
  clear ha hbl
  go_enter Tryd.func42, Tryd.ntmps42
  go_wp2_with (with_reducible refine bxArr (cs := bcs da) (.tmp 2) (wn rfl) rfl rfl ?_)
  intro w1 h6 bw1
  have hb := bw1
  clear bw1
  have l6 : w.heap.size < w1.heap.size := h6.lt
  go_wp2_with (with_reducible refine bxArr (cs := bcs db) (.tmp 3) (wn rfl) rfl rfl ?_)
  intro w2 h7 bw2
  replace h6 := h6.below bw2 h6.lt
  replace hb := hb.trans (bw2.mono hb.size)
  clear bw2
  have l7 : w1.heap.size < w2.heap.size := h7.lt
  generalize hgen : w1.heap.size = g7 at *
  clear hgen
  go_wp2_with (with_reducible refine alArr (z := zerosB 16) Tryd.ag_b16 (wn rfl) rfl ?_)
  intro w3 h8 bw3
  replace h6 := h6.below bw3 h6.lt
  replace h7 := h7.below bw3 h7.lt
  replace hb := hb.trans (bw3.mono hb.size)
  clear bw3
  have hg8 : w.heap.size ≤ w2.heap.size := by omega
  generalize hgen : w2.heap.size = g8 at *
  clear hgen
  go_wp2_with fail
  refine aStart (by kernel_rfl) ?_
  replace h6 := h6.drew
  replace h7 := h7.drew
  replace h8 := h8.drew
  replace hb := hb.drew
  generalize w3.drew = wd at *
  refine aTake (i := 0) (v := .int .i64 lv) rfl (by kernel_rfl) (wn rfl) (fun _ _ _ h => h) (fun w => by kernel_rfl) ?_
  refine aTake (i := 1) (v := .int .i64 n) rfl (by kernel_rfl) (wn rfl) (fun _ _ _ h => h) (fun w => by kernel_rfl) ?_
  refine rgFloat [(2, 11), (3, 12), (4, 13), (5, 14), (6, 15), (7, 16), (8, 17), (9, 18), (10, 19)] (GJoin lv n da db) _ 1 rfl (by kernel_rfl) ?mono ?step ?fin
  case mono =>
    intro p hp v w w' h hE
    simp only [List.mem_cons, List.not_mem_nil, or_false] at hp
    rcases hp with rfl | rfl | rfl | rfl | rfl | rfl | rfl | rfl | rfl
    · exact Reads.ext h hE
    · exact Reads.ext h hE
    · exact h
    · exact h
    · exact h
    · exact h
    · exact h
    · exact Reads.ext h hE
    · exact h
  case step =>
    intro p hp
    simp only [List.mem_cons, List.not_mem_nil, or_false] at hp
    rcases hp with rfl | rfl | rfl | rfl | rfl | rfl | rfl | rfl | rfl
    · refine ⟨_, rfl, rfl, fun a w' hF hE hG => ?_⟩
      have hx9 : a.eval (.tmp 9) = iv (lv) := (hF.eval 9 (by kernel_rfl)).trans (by kernel_rfl)
      have hx10 : a.eval (.tmp 10) = iv (n) := (hF.eval 10 (by kernel_rfl)).trans (by kernel_rfl)
      refine bsRow (([lv, n]).map iv) Tryd.sl_int (wn rfl) rfl (by rw [Array.toList_map]; show [(0, a.eval (.tmp 9)), (1, a.eval (.tmp 10))] = _; rw [hx9, hx10]; rfl) rfl (by omega) (by omega) (iv_cells _) ?_
      intro A5 w5 hrd hb5
      exact ⟨_, rfl, hb5, A5, 2, _, rfl, Nat.le_refl _, hrd⟩
    · refine ⟨_, rfl, rfl, fun a w' hF hE hG => ?_⟩
      obtain ⟨A5, c5, B5, q1, q2, hrd⟩ : Reads 2 (([lv, n]).map iv) (a.tmps.getD 11 undef) w' := hG (2, 11) (by simp) (by kernel_rfl)
      refine callOp 48 [.slice A5 2 c5] [] [] (by kernel_rfl) (wn rfl) rfl rfl (by rw [← q1]; rfl) ?_
      refine (ints_any [lv, n] A5 2 c5 B5 w' hrd q2 h64.out (by omega)).mono ?_
      rintro e w2 hret
      obtain ⟨A6, c6, rfl, _, hrd2, hb2⟩ := hret.open
      exact ⟨_, rfl, ⟨_, rfl, hb2, A6, c6, _, rfl, Nat.le_refl _, hrd2⟩⟩
    · refine ⟨_, rfl, rfl, fun a w' hF hE hG => ?_⟩
      obtain ⟨A5, c5, B5, q1, q2, hrd⟩ : Reads (encI [lv, n]).length (bcs (encI [lv, n])) (a.tmps.getD 12 undef) w' := hG (3, 12) (by simp) (by kernel_rfl)
      refine convStr (.tmp 12) (encI [lv, n]) Tryd.sl_u8.und Tryd.und_u8 Tryd.und_str (wn rfl) rfl q1 hrd ?_
      exact ⟨_, rfl, Below.refl _ _, rfl⟩
    · refine ⟨_, rfl, rfl, fun a w' hF hE hG => ?_⟩
      refine ldArr (b := w.heap.size) (.tmp 6) Tryd.ag_b16 (wn rfl) rfl ((hF.eval 6 (by kernel_rfl)).trans (by kernel_rfl)) HA.out (h6.below hE h6.lt) ?_
      exact ⟨_, rfl, Below.refl _ _, rfl⟩
    · refine ⟨_, rfl, rfl, fun a w' hF hE hG => ?_⟩
      have hx : a.tmps.getD 14 undef = .agg (bcs da).toArray := hG (5, 14) (by simp) (by kernel_rfl)
      refine callOp 35 [.agg (bcs da).toArray] [] [] (by kernel_rfl) (wn rfl) rfl rfl (by rw [← hx]; rfl) ?_
      refine (sgText_any da w' HAL.out).mono ?_
      rintro e w2 ⟨rfl, hb2⟩
      exact ⟨_, rfl, ⟨_, rfl, hb2, rfl⟩⟩
    · refine ⟨_, rfl, rfl, fun a w' hF hE hG => ?_⟩
      refine ldArr (b := g7) (.tmp 7) Tryd.ag_b16 (wn rfl) rfl ((hF.eval 7 (by kernel_rfl)).trans (by kernel_rfl)) HB.out (h7.below hE h7.lt) ?_
      exact ⟨_, rfl, Below.refl _ _, rfl⟩
    · refine ⟨_, rfl, rfl, fun a w' hF hE hG => ?_⟩
      have hx : a.tmps.getD 16 undef = .agg (bcs db).toArray := hG (7, 16) (by simp) (by kernel_rfl)
      refine callOp 35 [.agg (bcs db).toArray] [] [] (by kernel_rfl) (wn rfl) rfl rfl (by rw [← hx]; rfl) ?_
      refine (sgText_any db w' HBL.out).mono ?_
      rintro e w2 ⟨rfl, hb2⟩
      exact ⟨_, rfl, ⟨_, rfl, hb2, rfl⟩⟩
    · refine ⟨_, rfl, rfl, fun a w' hF hE hG => ?_⟩
      have hx13 : a.tmps.getD 13 undef = sv (encI [lv, n]) := hG (4, 13) (by simp) (by kernel_rfl)
      have hx15 : a.tmps.getD 15 undef = sv (da) := hG (6, 15) (by simp) (by kernel_rfl)
      have hx17 : a.tmps.getD 17 undef = sv (db) := hG (8, 17) (by simp) (by kernel_rfl)
      refine bsRow (([encI [lv, n], da, db]).map sv) Tryd.sl_str (wn rfl) rfl (by rw [Array.toList_map]; show [(0, a.tmps.getD 13 undef), (1, a.tmps.getD 15 undef), (2, a.tmps.getD 17 undef)] = _; rw [hx13, hx15, hx17]; rfl) rfl (by omega) (by omega) (sv_cells _) ?_
      intro A5 w5 hrd hb5
      exact ⟨_, rfl, hb5, A5, 3, _, rfl, Nat.le_refl _, hrd⟩
    · refine ⟨_, rfl, rfl, fun a w' hF hE hG => ?_⟩
      obtain ⟨A5, c5, B5, q1, q2, hrd⟩ : Reads 3 (([encI [lv, n], da, db]).map sv) (a.tmps.getD 18 undef) w' := hG (9, 18) (by simp) (by kernel_rfl)
      refine callOp 34 [.int .i64 5, .slice A5 3 c5] [] [] (by kernel_rfl) (wn rfl) rfl rfl (by rw [← q1]; rfl) ?_
      refine (of_any 5 [encI [lv, n], da, db] A5 3 c5 B5 w' (ht.below (hb.trans (hE.mono hb.size)) ht.size) hrd q2 hin (by simp)).mono ?_
      rintro e w2 ⟨rfl, hb2⟩
      exact ⟨_, rfl, ⟨_, rfl, hb2, rfl⟩⟩
  case fin =>
    intro a wf hF hE hG
    have qf : a.tmps.getD 19 undef = .agg (bcs (joinD lv n da db)).toArray := hG (10, 19) (by simp)
    replace h8 := h8.below hE h8.lt
    have hszf := hb.size
    replace hb := hb.trans (hE.mono hb.size)
    rw [hF.eq]
    simp only [putsX]
    rw [qf]
    generalize a.tmps.getD 11 undef = x11
    generalize a.tmps.getD 12 undef = x12
    generalize a.tmps.getD 13 undef = x13
    generalize a.tmps.getD 14 undef = x14
    generalize a.tmps.getD 15 undef = x15
    generalize a.tmps.getD 16 undef = x16
    generalize a.tmps.getD 17 undef = x17
    generalize a.tmps.getD 18 undef = x18
    clear hG hF hE qf
    refine aNext (i := 11) (by kernel_rfl) rfl ?_
    refine stArr (b := g8) (cs := bcs (joinD lv n da db)) (.tmp 8) (.tmp 19) Tryd.ag_b16 (wn rfl) rfl (by kernel_rfl) (by kernel_rfl) h8 (zerosB_len _) HL.out (bcs_one _) ?_
    intro w4 h8 hkeep hbel
    replace hb := hb.trans (hbel _ hg8)
    refine aDone (by kernel_rfl) ?_
    simp only [Act.put, List.setIfInBounds_toArray, List.set_cons_succ, List.set_cons_zero]
    go_wp2_with fail
    refine bodyPost_ret (v := .agg (bcs (joinD lv n da db)).toArray) ?_ rfl ⟨rfl, hb⟩
    exact res_cell1 _ Tryd.results42 Tryd.ag_b16 _ rfl HL.out (fun j u hu => by rw [Nat.zero_add]; exact h8.cell hu)

def GNode (lv n : Int) (da db : List UInt8) (ix_ : Nat) (v : Value) (w : World) : Prop :=
  match ix_ with
  | 2 => Reads 2 (([lv, n]).map iv) v w
  | 3 => Reads (encI [lv, n]).length (bcs (encI [lv, n])) v w
  | 4 => v = sv (encI [lv, n])
  | 5 => v = .agg (bcs da).toArray
  | 6 => v = sv da
  | 7 => v = .agg (bcs db).toArray
  | 8 => v = sv db
  | 9 => Reads 3 (([encI [lv, n], da, db]).map sv) v w
  | 10 => v = .agg (bcs (joinD lv n da db)).toArray
  | _ => True
set_option maxRecDepth 100000 in
set_option maxHeartbeats 1000000 in
theorem refNode_any (lv n : Int) (da db : List UInt8) (w : World) (ht : TabsR w) (hl : isI64 lv) (hn : isI64 n) (ha : da.length = 16) (hbl : db.length = 16) :
    Calls Tryd.prog 46 #[.int .i64 lv, .int .i64 n, .agg (bcs da).toArray, .agg (bcs db).toArray] w fun e w' => e = .returned (.agg (bcs (joinD lv n da db)).toArray) ∧ Below w.heap.size w w' := by
  have HA := Lib.hid (show (bcs da).length = 16 by rw [bcs_length]; exact ha)
  have HB := Lib.hid (show (bcs db).length = 16 by rw [bcs_length]; exact hbl)
  have HL := Lib.hid (show (bcs (joinD lv n da db)).length = 16 by rw [bcs_length]; exact ofDig_len _ _)
  have HAL := Lib.hid ha
  have HBL := Lib.hid hbl
  have h64 := Lib.hid (enc2_64 hl hn)
  have hlen := encI2_le lv n
  have hin : (inputOf 5 [encI [lv, n], da, db]).length ≤ 1000000000 := input3_le 5 _ _ _ (by omega) (by omega) (by omega)
  clear ha hbl
  go_enter Tryd.func46, Tryd.ntmps46
  go_wp2_with (with_reducible refine bxArr (cs := bcs da) (.tmp 2) (wn rfl) rfl rfl ?_)
  intro w1 h6 bw1
  have hb := bw1
  clear bw1
  have l6 : w.heap.size < w1.heap.size := h6.lt
  go_wp2_with (with_reducible refine bxArr (cs := bcs db) (.tmp 3) (wn rfl) rfl rfl ?_)
  intro w2 h7 bw2
  replace h6 := h6.below bw2 h6.lt
  replace hb := hb.trans (bw2.mono hb.size)
  clear bw2
  have l7 : w1.heap.size < w2.heap.size := h7.lt
  generalize hgen : w1.heap.size = g7 at *
  clear hgen
  go_wp2_with (with_reducible refine alArr (z := zerosB 16) Tryd.ag_b16 (wn rfl) rfl ?_)
  intro w3 h8 bw3
  replace h6 := h6.below bw3 h6.lt
  replace h7 := h7.below bw3 h7.lt
  replace hb := hb.trans (bw3.mono hb.size)
  clear bw3
  have hg8 : w.heap.size ≤ w2.heap.size := by omega
  generalize hgen : w2.heap.size = g8 at *
  clear hgen
  go_wp2_with fail
  refine aStart (by kernel_rfl) ?_
  replace h6 := h6.drew
  replace h7 := h7.drew
  replace h8 := h8.drew
  replace hb := hb.drew
  generalize w3.drew = wd at *
  refine aTake (i := 0) (v := .int .i64 lv) rfl (by kernel_rfl) (wn rfl) (fun _ _ _ h => h) (fun w => by kernel_rfl) ?_
  refine aTake (i := 1) (v := .int .i64 n) rfl (by kernel_rfl) (wn rfl) (fun _ _ _ h => h) (fun w => by kernel_rfl) ?_
  refine rgFloat [(2, 11), (3, 12), (4, 13), (5, 14), (6, 15), (7, 16), (8, 17), (9, 18), (10, 19)] (GNode lv n da db) _ 1 rfl (by kernel_rfl) ?mono ?step ?fin
  case mono =>
    intro p hp v w w' h hE
    simp only [List.mem_cons, List.not_mem_nil, or_false] at hp
    rcases hp with rfl | rfl | rfl | rfl | rfl | rfl | rfl | rfl | rfl
    · exact Reads.ext h hE
    · exact Reads.ext h hE
    · exact h
    · exact h
    · exact h
    · exact h
    · exact h
    · exact Reads.ext h hE
    · exact h
  case step =>
    intro p hp
    simp only [List.mem_cons, List.not_mem_nil, or_false] at hp
    rcases hp with rfl | rfl | rfl | rfl | rfl | rfl | rfl | rfl | rfl
    · refine ⟨_, rfl, rfl, fun a w' hF hE hG => ?_⟩
      have hx9 : a.eval (.tmp 9) = iv (lv) := (hF.eval 9 (by kernel_rfl)).trans (by kernel_rfl)
      have hx10 : a.eval (.tmp 10) = iv (n) := (hF.eval 10 (by kernel_rfl)).trans (by kernel_rfl)
      refine bsRow (([lv, n]).map iv) Tryd.sl_int (wn rfl) rfl (by rw [Array.toList_map]; show [(0, a.eval (.tmp 9)), (1, a.eval (.tmp 10))] = _; rw [hx9, hx10]; rfl) rfl (by omega) (by omega) (iv_cells _) ?_
      intro A5 w5 hrd hb5
      exact ⟨_, rfl, hb5, A5, 2, _, rfl, Nat.le_refl _, hrd⟩
    · refine ⟨_, rfl, rfl, fun a w' hF hE hG => ?_⟩
      obtain ⟨A5, c5, B5, q1, q2, hrd⟩ : Reads 2 (([lv, n]).map iv) (a.tmps.getD 11 undef) w' := hG (2, 11) (by simp) (by kernel_rfl)
      refine callOp 50 [.slice A5 2 c5] [] [] (by kernel_rfl) (wn rfl) rfl rfl (by rw [← q1]; rfl) ?_
      refine (refInts_any [lv, n] A5 2 c5 B5 w' hrd q2 h64.out (by omega)).mono ?_
      rintro e w2 hret
      obtain ⟨A6, c6, rfl, _, hrd2, hb2⟩ := hret.open
      exact ⟨_, rfl, ⟨_, rfl, hb2, A6, c6, _, rfl, Nat.le_refl _, hrd2⟩⟩
    · refine ⟨_, rfl, rfl, fun a w' hF hE hG => ?_⟩
      obtain ⟨A5, c5, B5, q1, q2, hrd⟩ : Reads (encI [lv, n]).length (bcs (encI [lv, n])) (a.tmps.getD 12 undef) w' := hG (3, 12) (by simp) (by kernel_rfl)
      refine convStr (.tmp 12) (encI [lv, n]) Tryd.sl_u8.und Tryd.und_u8 Tryd.und_str (wn rfl) rfl q1 hrd ?_
      exact ⟨_, rfl, Below.refl _ _, rfl⟩
    · refine ⟨_, rfl, rfl, fun a w' hF hE hG => ?_⟩
      refine ldArr (b := w.heap.size) (.tmp 6) Tryd.ag_b16 (wn rfl) rfl ((hF.eval 6 (by kernel_rfl)).trans (by kernel_rfl)) HA.out (h6.below hE h6.lt) ?_
      exact ⟨_, rfl, Below.refl _ _, rfl⟩
    · refine ⟨_, rfl, rfl, fun a w' hF hE hG => ?_⟩
      have hx : a.tmps.getD 14 undef = .agg (bcs da).toArray := hG (5, 14) (by simp) (by kernel_rfl)
      refine callOp 33 [.agg (bcs da).toArray] [] [] (by kernel_rfl) (wn rfl) rfl rfl (by rw [← hx]; rfl) ?_
      refine (text_any da w' HAL.out).mono ?_
      rintro e w2 ⟨rfl, hb2⟩
      exact ⟨_, rfl, ⟨_, rfl, hb2, rfl⟩⟩
    · refine ⟨_, rfl, rfl, fun a w' hF hE hG => ?_⟩
      refine ldArr (b := g7) (.tmp 7) Tryd.ag_b16 (wn rfl) rfl ((hF.eval 7 (by kernel_rfl)).trans (by kernel_rfl)) HB.out (h7.below hE h7.lt) ?_
      exact ⟨_, rfl, Below.refl _ _, rfl⟩
    · refine ⟨_, rfl, rfl, fun a w' hF hE hG => ?_⟩
      have hx : a.tmps.getD 16 undef = .agg (bcs db).toArray := hG (7, 16) (by simp) (by kernel_rfl)
      refine callOp 33 [.agg (bcs db).toArray] [] [] (by kernel_rfl) (wn rfl) rfl rfl (by rw [← hx]; rfl) ?_
      refine (text_any db w' HBL.out).mono ?_
      rintro e w2 ⟨rfl, hb2⟩
      exact ⟨_, rfl, ⟨_, rfl, hb2, rfl⟩⟩
    · refine ⟨_, rfl, rfl, fun a w' hF hE hG => ?_⟩
      have hx13 : a.tmps.getD 13 undef = sv (encI [lv, n]) := hG (4, 13) (by simp) (by kernel_rfl)
      have hx15 : a.tmps.getD 15 undef = sv (da) := hG (6, 15) (by simp) (by kernel_rfl)
      have hx17 : a.tmps.getD 17 undef = sv (db) := hG (8, 17) (by simp) (by kernel_rfl)
      refine bsRow (([encI [lv, n], da, db]).map sv) Tryd.sl_str (wn rfl) rfl (by rw [Array.toList_map]; show [(0, a.tmps.getD 13 undef), (1, a.tmps.getD 15 undef), (2, a.tmps.getD 17 undef)] = _; rw [hx13, hx15, hx17]; rfl) rfl (by omega) (by omega) (sv_cells _) ?_
      intro A5 w5 hrd hb5
      exact ⟨_, rfl, hb5, A5, 3, _, rfl, Nat.le_refl _, hrd⟩
    · refine ⟨_, rfl, rfl, fun a w' hF hE hG => ?_⟩
      obtain ⟨A5, c5, B5, q1, q2, hrd⟩ : Reads 3 (([encI [lv, n], da, db]).map sv) (a.tmps.getD 18 undef) w' := hG (9, 18) (by simp) (by kernel_rfl)
      refine callOp 36 [.int .i64 5, .slice A5 3 c5] [] [] (by kernel_rfl) (wn rfl) rfl rfl (by rw [← q1]; rfl) ?_
      refine (refOf_any 5 [encI [lv, n], da, db] A5 3 c5 B5 w' (ht.below (hb.trans (hE.mono hb.size)) ht.size) hrd q2 hin (by simp)).mono ?_
      rintro e w2 ⟨rfl, hb2⟩
      exact ⟨_, rfl, ⟨_, rfl, hb2, rfl⟩⟩
  case fin =>
    intro a wf hF hE hG
    have qf : a.tmps.getD 19 undef = .agg (bcs (joinD lv n da db)).toArray := hG (10, 19) (by simp)
    replace h8 := h8.below hE h8.lt
    have hszf := hb.size
    replace hb := hb.trans (hE.mono hb.size)
    rw [hF.eq]
    simp only [putsX]
    rw [qf]
    generalize a.tmps.getD 11 undef = x11
    generalize a.tmps.getD 12 undef = x12
    generalize a.tmps.getD 13 undef = x13
    generalize a.tmps.getD 14 undef = x14
    generalize a.tmps.getD 15 undef = x15
    generalize a.tmps.getD 16 undef = x16
    generalize a.tmps.getD 17 undef = x17
    generalize a.tmps.getD 18 undef = x18
    clear hG hF hE qf
    refine aNext (i := 11) (by kernel_rfl) rfl ?_
    refine stArr (b := g8) (cs := bcs (joinD lv n da db)) (.tmp 8) (.tmp 19) Tryd.ag_b16 (wn rfl) rfl (by kernel_rfl) (by kernel_rfl) h8 (zerosB_len _) HL.out (bcs_one _) ?_
    intro w4 h8 hkeep hbel
    replace hb := hb.trans (hbel _ hg8)
    refine aDone (by kernel_rfl) ?_
    simp only [Act.put, List.setIfInBounds_toArray, List.set_cons_succ, List.set_cons_zero]
    go_wp2_with fail
    refine bodyPost_ret (v := .agg (bcs (joinD lv n da db)).toArray) ?_ rfl ⟨rfl, hb⟩
    exact res_cell1 _ Tryd.results46 Tryd.ag_b16 _ rfl HL.out (fun j u hu => by rw [Nat.zero_add]; exact h8.cell hu)

end Go.Proofs.YtienlndjhcmemaaDoor
/-
  climb of the specification: what it returns.
-/
namespace Go.Proofs.YtienlndjhcmemaaDoor
open Go.RowKit

def GRClimb (i j K : Int) (D : List UInt8) (ix_ : Nat) (v : Value) (w : World) : Prop :=
  match ix_ with
  | 3 => Reads 3 (([i, j, K]).map iv) v w
  | 4 => Reads (encI [i, j, K]).length (bcs (encI [i, j, K])) v w
  | 5 => v = sv (encI [i, j, K])
  | 6 => v = .agg (bcs D).toArray
  | 7 => v = sv D
  | 8 => Reads 2 (([encI [i, j, K], D]).map sv) v w
  | 9 => v = .agg (bcs (ofDig 4 [encI [i, j, K], D])).toArray
  | _ => True
set_option maxRecDepth 100000 in
set_option maxHeartbeats 1000000 in
theorem refClimb_any (i j : Int) (d : List UInt8) (a n : Nat) (w : World) (ht : TabsR w) (hi : isI64 i) (hj : isI64 j) (hd : d.length = 16) (han : a + n ≤ 1000) :
    Calls Tryd.prog 31 #[.int .i64 i, .int .i64 j, .agg (bcs d).toArray, .int .i64 (a : Int), .int .i64 ((a + n : Nat) : Int)] w fun e w' => e = .returned (.agg (bcs (climbD i j a d n)).toArray) ∧ Below w.heap.size w w' := by
  have hbd : (bcs d).length = 16 := by rw [bcs_length]; exact hd
  have HB := Lib.hid hbd
  clear hbd
  have hg : w.heap.size ≤ w.heap.size := Nat.le_refl _
  go_enter Tryd.func31, Tryd.ntmps31
  go_wp2_with (with_reducible refine bxArr (cs := bcs d) (.tmp 2) (wn rfl) rfl rfl ?_)
  intro w1 h7 hb
  have h7l := h7.lt
  go_wp2_with (with_reducible refine alArr (z := zerosB 16) Tryd.ag_b16 (wn rfl) rfl ?_)
  intro w2 h10 hb2
  have hne : w.heap.size ≠ w1.heap.size := by omega
  replace h7 := h7.below hb2 h7l
  replace hb := hb.trans (hb2.mono hb.size)
  clear hb2
  have hg10 : w.heap.size ≤ w1.heap.size := by omega
  clear h7l
  generalize w1.heap.size = g10 at *
  have h7' : Arr w2 w.heap.size 23 (bcs (climbD i j a d 0)) := h7
  clear h7
  go_wp2_with fail
  go_loopw [11] (fun k_ wr => ∃ (m : Nat) (K : Int), m ≤ n ∧ k_ = .int .i64 K ∧ K = ((a + m + 1 : Nat) : Int) ∧ Arr wr w.heap.size 23 (bcs (climbD i j a d m)) ∧ Arr wr g10 23 (zerosB 16) ∧ Below w.heap.size w wr) (fun k_ _ => a + n + 1 - (intOf k_).toNat)
  case atStart => exact ⟨0, _, by omega, rfl, by omega, h7', h10, hb⟩
  case round =>
    clear h7' h10 hb
    obtain ⟨m, K, hm, rfl, hK, h7, h10, hb⟩ := hrel
    by_cases hlt : m < n
    · have hnx : ofDig 4 [encI [i, j, K], climbD i j a d m] = climbD i j a d (m + 1) := by rw [hK]; rfl
      have HNX := Lib.hid hnx
      have hD16 := climbD_len i j a hd m
      clear hnx
      generalize climbD i j a d m = D at *
      have HD := Lib.hid hD16
      have HDB := Lib.hid (show (bcs D).length = 16 by rw [bcs_length]; exact hD16)
      have h64 : ∀ x ∈ [i, j, K], isI64 x := by
        intro x hx
        simp only [List.mem_cons, List.not_mem_nil, or_false] at hx
        rcases hx with rfl | rfl | rfl
        · exact hi
        · exact hj
        · unfold isI64; omega
      have hlen : (encI [i, j, K]).length ≤ 70368744177664 := Nat.le_trans (encI_le _) (by simp)
      have hin : (inputOf 4 [encI [i, j, K], D]).length ≤ 1000000000 := input2_le 4 _ _ (Nat.le_trans (encI_le _) (by simp)) (by omega)
      go_wp2_with fail
      refine aStart (by kernel_rfl) ?_
      replace h7 := h7.drew
      replace h10 := h10.drew
      replace hb := hb.drew
      generalize wr.drew = wd at *
      refine aTake (i := 0) (v := .int .i64 i) rfl (by kernel_rfl) (wn rfl) (fun _ _ _ h => h) (fun w => by kernel_rfl) ?_
      refine aTake (i := 1) (v := .int .i64 j) rfl (by kernel_rfl) (wn rfl) (fun _ _ _ h => h) (fun w => by kernel_rfl) ?_
      refine aTake (i := 2) (v := .int .i64 K) rfl (by kernel_rfl) (wn rfl) (fun _ _ _ h => h) (fun w => by kernel_rfl) ?_
      refine rgFloat [(3, 22), (4, 23), (5, 24), (6, 25), (7, 26), (8, 27), (9, 28)] (GRClimb i j K D) _ 1 rfl (by kernel_rfl) ?mono ?step ?fin
      case mono =>
        intro p hp v w w' h hE
        simp only [List.mem_cons, List.not_mem_nil, or_false] at hp
        rcases hp with rfl | rfl | rfl | rfl | rfl | rfl | rfl
        · exact Reads.ext h hE
        · exact Reads.ext h hE
        · exact h
        · exact h
        · exact h
        · exact Reads.ext h hE
        · exact h
      case step =>
        intro p hp
        simp only [List.mem_cons, List.not_mem_nil, or_false] at hp
        rcases hp with rfl | rfl | rfl | rfl | rfl | rfl | rfl
        · refine ⟨_, rfl, rfl, fun a w' hF hE hG => ?_⟩
          have hx19 : a.eval (.tmp 19) = iv (i) := (hF.eval 19 (by kernel_rfl)).trans (by kernel_rfl)
          have hx20 : a.eval (.tmp 20) = iv (j) := (hF.eval 20 (by kernel_rfl)).trans (by kernel_rfl)
          have hx21 : a.eval (.tmp 21) = iv (K) := (hF.eval 21 (by kernel_rfl)).trans (by kernel_rfl)
          refine bsRow (([i, j, K]).map iv) Tryd.sl_int (wn rfl) rfl (by rw [Array.toList_map]; show [(0, a.eval (.tmp 19)), (1, a.eval (.tmp 20)), (2, a.eval (.tmp 21))] = _; rw [hx19, hx20, hx21]; rfl) rfl (by omega) (by omega) (iv_cells _) ?_
          intro A5 w5 hrd hb5
          exact ⟨_, rfl, hb5, A5, 3, _, rfl, Nat.le_refl _, hrd⟩
        · refine ⟨_, rfl, rfl, fun a w' hF hE hG => ?_⟩
          obtain ⟨A5, c5, B5, q1, q2, hrd⟩ : Reads 3 (([i, j, K]).map iv) (a.tmps.getD 22 undef) w' := hG (3, 22) (by simp) (by kernel_rfl)
          refine callOp 50 [.slice A5 3 c5] [] [] (by kernel_rfl) (wn rfl) rfl rfl (by rw [← q1]; rfl) ?_
          refine (refInts_any [i, j, K] A5 3 c5 B5 w' hrd q2 h64 hlen).mono ?_
          rintro e w2 hret
          obtain ⟨A6, c6, rfl, _, hrd2, hb2⟩ := hret.open
          exact ⟨_, rfl, ⟨_, rfl, hb2, A6, c6, _, rfl, Nat.le_refl _, hrd2⟩⟩
        · refine ⟨_, rfl, rfl, fun a w' hF hE hG => ?_⟩
          obtain ⟨A5, c5, B5, q1, q2, hrd⟩ : Reads (encI [i, j, K]).length (bcs (encI [i, j, K])) (a.tmps.getD 23 undef) w' := hG (4, 23) (by simp) (by kernel_rfl)
          refine convStr (.tmp 23) (encI [i, j, K]) Tryd.sl_u8.und Tryd.und_u8 Tryd.und_str (wn rfl) rfl q1 hrd ?_
          exact ⟨_, rfl, Below.refl _ _, rfl⟩
        · refine ⟨_, rfl, rfl, fun a w' hF hE hG => ?_⟩
          refine ldArr (b := w.heap.size) (.tmp 7) Tryd.ag_b16 (wn rfl) rfl ((hF.eval 7 (by kernel_rfl)).trans (by kernel_rfl)) HDB.out (h7.below hE h7.lt) ?_
          exact ⟨_, rfl, Below.refl _ _, rfl⟩
        · refine ⟨_, rfl, rfl, fun a w' hF hE hG => ?_⟩
          have hx : a.tmps.getD 25 undef = .agg (bcs D).toArray := hG (6, 25) (by simp) (by kernel_rfl)
          refine callOp 33 [.agg (bcs D).toArray] [] [] (by kernel_rfl) (wn rfl) rfl rfl (by rw [← hx]; rfl) ?_
          refine (text_any D w' HD.out).mono ?_
          rintro e w2 ⟨rfl, hb2⟩
          exact ⟨_, rfl, ⟨_, rfl, hb2, rfl⟩⟩
        · refine ⟨_, rfl, rfl, fun a w' hF hE hG => ?_⟩
          have hx24 : a.tmps.getD 24 undef = sv (encI [i, j, K]) := hG (5, 24) (by simp) (by kernel_rfl)
          have hx26 : a.tmps.getD 26 undef = sv (D) := hG (7, 26) (by simp) (by kernel_rfl)
          refine bsRow (([encI [i, j, K], D]).map sv) Tryd.sl_str (wn rfl) rfl (by rw [Array.toList_map]; show [(0, a.tmps.getD 24 undef), (1, a.tmps.getD 26 undef)] = _; rw [hx24, hx26]; rfl) rfl (by omega) (by omega) (sv_cells _) ?_
          intro A5 w5 hrd hb5
          exact ⟨_, rfl, hb5, A5, 2, _, rfl, Nat.le_refl _, hrd⟩
        · refine ⟨_, rfl, rfl, fun a w' hF hE hG => ?_⟩
          obtain ⟨A5, c5, B5, q1, q2, hrd⟩ : Reads 2 (([encI [i, j, K], D]).map sv) (a.tmps.getD 27 undef) w' := hG (8, 27) (by simp) (by kernel_rfl)
          refine callOp 36 [.int .i64 4, .slice A5 2 c5] [] [] (by kernel_rfl) (wn rfl) rfl rfl (by rw [← q1]; rfl) ?_
          refine (refOf_any 4 [encI [i, j, K], D] A5 2 c5 B5 w' (ht.below (hb.trans (hE.mono hb.size)) ht.size) hrd q2 hin (by simp)).mono ?_
          rintro e w2 ⟨rfl, hb2⟩
          exact ⟨_, rfl, ⟨_, rfl, hb2, rfl⟩⟩
      case fin =>
        intro a wf hF hE hG
        have qf : a.tmps.getD 28 undef = .agg (bcs (ofDig 4 [encI [i, j, K], D])).toArray := hG (9, 28) (by simp)
        replace h7 := h7.below hE h7.lt
        replace h10 := h10.below hE h10.lt
        have hszf := hb.size
        replace hb := hb.trans (hE.mono hb.size)
        rw [hF.eq]
        simp only [putsX]
        rw [qf]
        generalize a.tmps.getD 22 undef = x22
        generalize a.tmps.getD 23 undef = x23
        generalize a.tmps.getD 24 undef = x24
        generalize a.tmps.getD 25 undef = x25
        generalize a.tmps.getD 26 undef = x26
        generalize a.tmps.getD 27 undef = x27
        clear hG hF hE qf
        refine aNext (i := 10) (by kernel_rfl) rfl ?_
        refine stArr (b := w.heap.size) (cs := bcs (ofDig 4 [encI [i, j, K], D])) (.tmp 7) (.tmp 28) Tryd.ag_b16 (wn rfl) rfl (by kernel_rfl) (by kernel_rfl) h7 HDB.out (by rw [bcs_length]; exact ofDig_len _ _) (bcs_one _) ?_
        intro w3 h7 hkeep hbel
        replace h10 := hkeep _ _ _ (Ne.symm hne) h10
        replace hb := hb.trans (hbel _ hg)
        clear hkeep hbel
        rw [HNX.out] at h7
        refine aDone (by kernel_rfl) ?_
        simp only [Act.put, List.setIfInBounds_toArray, List.set_cons_succ, List.set_cons_zero]
        go_wp2_with fail
        go_roundw
        case rel => exact ⟨m + 1, K + 1, by omega, by go_num, by omega, h7, h10, hb⟩
        case measure => (simp [intOf]; try omega)
    · obtain rfl : m = n := by omega
      have HD := Lib.hid (show (bcs (climbD i j a d m)).length = 16 by rw [bcs_length]; exact climbD_len i j a hd m)
      go_wp2_with (first | (with_reducible refine ldArr (.tmp 7) Tryd.ag_b16 (wn rfl) rfl rfl HD.out h7 ?_) | (with_reducible refine stArr (cs := bcs (climbD i j a d m)) (.tmp 10) (.tmp 29) Tryd.ag_b16 (wn rfl) rfl rfl rfl h10 (zerosB_len _) HD.out (bcs_one _) ?_))
      intro w3 h3 _ hbel
      go_wp2_with fail
      refine bodyPost_ret (v := .agg (bcs (climbD i j a d m)).toArray) ?_ rfl ⟨rfl, hb.trans (hbel _ hg10)⟩
      exact res_cell1 _ Tryd.results31 Tryd.ag_b16 _ rfl HD.out (fun j u hu => by rw [Nat.zero_add]; exact h3.cell hu)
end Go.Proofs.YtienlndjhcmemaaDoor
/-
  Digits and Count of the specification, and Size of both: what they return.
-/
namespace Go.Proofs.YtienlndjhcmemaaDoor
open Go.RowKit

theorem dgCells_three {d : List UInt8} (h : d.length = 16) (hs : chk d ≤ 480) : (((dgCells d 16).set 32 (.int .i64 ((chk d / 256 : Nat) : Int))).set 33 (.int .i64 ((chk d / 16 % 16 : Nat) : Int))).set 34 (.int .i64 ((chk d % 16 : Nat) : Int)) = ivs (digitsD d) := by
  rw [← dgCells_all h, show chk d / 256 % 16 = chk d / 256 by omega]
  rw [List.set_comm _ _ (show (33 : Nat) ≠ 34 by omega), List.set_comm _ _ (show (32 : Nat) ≠ 34 by omega), List.set_comm _ _ (show (32 : Nat) ≠ 33 by omega)]
set_option maxRecDepth 100000 in
set_option maxHeartbeats 1000000 in
theorem refDigits_any (d : List UInt8) (w : World) (hd : d.length = 16) : Calls Tryd.prog 11 #[.agg (bcs d).toArray] w fun e w' => e = .returned (.agg (ivs (digitsD d)).toArray) ∧ Below w.heap.size w w' := by
  have HB := Lib.hid (show (bcs d).length = 16 by rw [bcs_length]; exact hd)
  have hg : w.heap.size ≤ w.heap.size := Nat.le_refl _
  go_enter Tryd.func11, Tryd.ntmps11
  go_wp2_with (with_reducible refine bxArr (cs := bcs d) (.tmp 0) (wn rfl) rfl rfl ?_)
  intro w1 h1 hb
  have n1 := h1.lt
  go_wp2_with (with_reducible refine alArr (z := zerosI 35) Tryd.ag_i35 (wn rfl) rfl ?_)
  intro w2 h2 hb2
  have e12 : w.heap.size < w1.heap.size := n1
  replace h1 := h1.below hb2 n1
  replace hb := hb.trans (hb2.mono hb.size)
  clear hb2 n1
  generalize w1.heap.size = g2 at *
  have n2 := h2.lt
  go_wp2_with (with_reducible refine alArr (z := zerosI 35) Tryd.ag_i35 (wn rfl) rfl ?_)
  intro w3 h3 hb3
  replace h1 := h1.below hb3 h1.lt
  replace h2 := h2.below hb3 h2.lt
  replace hb := hb.trans (hb3.mono hb.size)
  clear hb3
  generalize w2.heap.size = g3 at *
  have h3' : Arr w3 g3 25 (dgCells d 0) := h3
  clear h3
  go_wp2_with fail
  go_loopw [4, 5] (fun v4 v9 wr => ∃ i : Nat, i ≤ 16 ∧ v9 = .int .i64 i ∧ v4 = .int .i64 ((dgSum d i : Nat) : Int) ∧ Arr wr w.heap.size 23 (bcs d) ∧ Arr wr g3 25 (dgCells d i) ∧ Arr wr g2 25 (zerosI 35) ∧ Below w.heap.size w wr) (fun _ v9 _ => 16 - (intOf v9).toNat)
  case atStart => exact ⟨0, by omega, rfl, rfl, h1, h3', h2, hb⟩
  case round =>
    clear h3' h2 h1 hb
    obtain ⟨i, hi, rfl, rfl, h1, h3, h2, hb⟩ := hrel
    by_cases hlt : i < 16
    · obtain ⟨b, hbi⟩ : ∃ b, d[i]? = some b := ⟨_, List.getElem?_eq_getElem (show i < d.length by omega)⟩
      have hn := dgCells_next hbi hlt
      have hsn := dgSum_next hbi
      have hdl := dgSum_room hbi hlt
      have hs := dgSum_le d i (by omega)
      have c0 := h3.cell (dgCells_at d i (2 * i) (by omega) (by omega) (by omega))
      have c1 := h3.cell (dgCells_at d i (2 * i + 1) (by omega) (by omega) (by omega))
      have cb := h1.cell (bcs_get hbi)
      have f0 := h3.thaw (2 * i)
      have f1 := h3.thaw (2 * i + 1)
      have hbn := b.toNat_lt
      have HN := Lib.hid hn
      have HSN := Lib.hid hsn
      have HBC' := Lib.hid hbi
      have ne1 : w.heap.size ≠ g3 := by omega
      clear hn hsn hbi
      go_wp2_with fail
      have h3n := (h3.set (2 * i) (.int .i64 ((b.toNat / 16 : Nat) : Int))).set (2 * i + 1) (.int .i64 ((b.toNat % 16 : Nat) : Int))
      rw [HN.out] at h3n
      have h1n := (h1.other (b' := g3) (by omega) (2 * i) (.int .i64 ((b.toNat / 16 : Nat) : Int))).other (b' := g3) (by omega) (2 * i + 1) (.int .i64 ((b.toNat % 16 : Nat) : Int))
      have h2n := (h2.other (b' := g3) (by omega) (2 * i) (.int .i64 ((b.toNat / 16 : Nat) : Int))).other (b' := g3) (by omega) (2 * i + 1) (.int .i64 ((b.toNat % 16 : Nat) : Int))
      have hbn2 := (hb.setCell (p := ⟨g3, 2 * i, none⟩) (by show w.heap.size ≤ g3; omega) (.int .i64 ((b.toNat / 16 : Nat) : Int))).setCell (p := ⟨g3, 2 * i + 1, none⟩) (by show w.heap.size ≤ g3; omega) (.int .i64 ((b.toNat % 16 : Nat) : Int))
      have d0 := h3n.cell (dgCells_old (i := i) HBC'.out hlt).1
      have d1 := h3n.cell (dgCells_old (i := i) HBC'.out hlt).2
      simp only [Int.natCast_ediv, Int.natCast_emod, Int.cast_ofNat_Int] at h3n h2n h1n hbn2 d0 d1
      clear c0 c1 f0 f1 h3 h2 hb h1 cb
      generalize (wr.setCell ⟨g3, 2 * i, none⟩ (.int .i64 ((b.toNat : Int) / 16))).setCell ⟨g3, 2 * i + 1, none⟩ (.int .i64 ((b.toNat : Int) % 16)) = w6 at *
      have hx : 0 ≤ (b.toNat : Int) / 16 ∧ (b.toNat : Int) / 16 ≤ 15 := by omega
      have hy : 0 ≤ (b.toNat : Int) % 16 ∧ (b.toNat : Int) % 16 ≤ 15 := by omega
      obtain ⟨hx0, hx1⟩ := hx
      obtain ⟨hy0, hy1⟩ := hy
      generalize hX : (b.toNat : Int) / 16 = X at *
      generalize hY : (b.toNat : Int) % 16 = Y at *
      have HX := Lib.hid hX
      have HY := Lib.hid hY
      clear hX hY
      have k0 : (0 : Int) ≤ 2 * (i : Int) := by omega
      have k1 : 2 * (i : Int) < 35 := by omega
      have k2 : (0 : Int) ≤ 2 * (i : Int) + 1 := by omega
      have k3 : 2 * (i : Int) + 1 < 35 := by omega
      have t0 : (2 * (i : Int)).toNat = 2 * i := by omega
      have t1 : (2 * (i : Int) + 1).toNat = 2 * i + 1 := by omega
      go_quiet (fail)
      go_wp2
      go_roundw
      case rel =>
        have hsn := HSN.out
        have h1 := HX.out
        have h2' := HY.out
        have hdn := hdl
        refine ⟨i + 1, by omega, by go_num, ?_, h1n.drewN nq, h3n.drewN nq, h2n.drewN nq, below_drewN' hbn2 nq⟩
        congr 1
        omega
      case measure => simp [intOf]; omega
    · obtain rfl : i = 16 := by omega
      have hall := dgSum_all hd
      have hs := dgSum_le d 16 (by omega)
      rw [hall] at hs
      have hcells := dgCells_three hd hs
      have c2 := h3.cell (dgCells_at d 16 32 (by omega) (by omega) (by omega))
      have c3 := h3.cell (dgCells_at d 16 33 (by omega) (by omega) (by omega))
      have c4 := h3.cell (dgCells_at d 16 34 (by omega) (by omega) (by omega))
      have f2 := h3.thaw 32
      have f3 := h3.thaw 33
      have f4 := h3.thaw 34
      rw [hall]
      have HA := Lib.hid hall
      have HC := Lib.hid hcells
      clear hall hcells
      go_upto_region 12 with (fail)
      have h3n := ((h3.set 32 (.int .i64 ((chk d / 256 : Nat) : Int))).set 33 (.int .i64 ((chk d / 16 % 16 : Nat) : Int))).set 34 (.int .i64 ((chk d % 16 : Nat) : Int))
      rw [HC.out] at h3n
      have h2n := ((h2.other (b' := g3) (by omega) 32 (.int .i64 ((chk d / 256 : Nat) : Int))).other (b' := g3) (by omega) 33 (.int .i64 ((chk d / 16 % 16 : Nat) : Int))).other (b' := g3) (by omega) 34 (.int .i64 ((chk d % 16 : Nat) : Int))
      have hbn := ((hb.setCell (p := ⟨g3, 32, none⟩) (by show w.heap.size ≤ g3; omega) (.int .i64 ((chk d / 256 : Nat) : Int))).setCell (p := ⟨g3, 33, none⟩) (by show w.heap.size ≤ g3; omega) (.int .i64 ((chk d / 16 % 16 : Nat) : Int))).setCell (p := ⟨g3, 34, none⟩) (by show w.heap.size ≤ g3; omega) (.int .i64 ((chk d % 16 : Nat) : Int))
      simp only [Int.natCast_ediv, Int.natCast_emod, Int.cast_ofNat_Int] at h3n h2n hbn
      have hl35 : (ivs (digitsD d)).length = 35 := by rw [ivs_len]; exact digitsD_len hd
      have HL := Lib.hid hl35
      clear hl35 c2 c3 c4 f2 f3 f4 h1 h2 h3 hb
      generalize ((wr.setCell ⟨g3, 32, none⟩ (.int .i64 ((chk d : Int) / 256))).setCell ⟨g3, 33, none⟩ (.int .i64 ((chk d : Int) / 16 % 16))).setCell ⟨g3, 34, none⟩ (.int .i64 ((chk d : Int) % 16)) = w8 at *
      go_wp2_with (first | (with_reducible refine ldArr (.tmp 3) Tryd.ag_i35 (wn rfl) rfl rfl HL.out h3n ?_) | (with_reducible refine stArr (cs := ivs (digitsD d)) (.tmp 2) (.tmp 50) Tryd.ag_i35 (wn rfl) rfl rfl rfl h2n (zerosI_len _) HL.out (ivs_one _) ?_))
      intro w9 h9 _ hbel
      go_wp2_with fail
      refine bodyPost_ret (v := .agg (ivs (digitsD d)).toArray) ?_ rfl ⟨rfl, hbn.trans (hbel _ (by omega))⟩
      exact res_cell1 _ Tryd.results11 Tryd.ag_i35 _ rfl HL.out (fun j u hu => by rw [Nat.zero_add]; exact h9.cell hu)
set_option maxRecDepth 100000 in
set_option maxHeartbeats 400000 in
theorem refCount_any (h : Int) (w : World) : Calls Tryd.prog 13 #[.int .i64 h] w fun e w' => e = .returned (.int .i64 (countD h : Int)) ∧ w' = w := by
  by_cases h1 : h < 0
  · have hc : countD h = 0 := by unfold countD; rw [if_pos (Or.inl h1)]
    have HC := Lib.hid hc
    clear hc
    go_enter Tryd.func13, Tryd.ntmps13
    go_wp2_with fail
    go_ret
    rw [HC.out]
    exact ⟨rfl, rfl⟩
  · by_cases h2 : 6 < h
    · have hc : countD h = 0 := by unfold countD; rw [if_pos (Or.inr h2)]
      have HC := Lib.hid hc
      clear hc
      go_enter Tryd.func13, Tryd.ntmps13
      go_wp2_with fail
      go_ret
      rw [HC.out]
      exact ⟨rfl, rfl⟩
    · obtain ⟨k, rfl⟩ : ∃ k : Nat, h = (k : Int) := ⟨h.toNat, by omega⟩
      have hk : k ≤ 6 := by omega
      have hc : countD (k : Int) = 2 ^ k := by unfold countD; rw [if_neg (by omega), Int.toNat_natCast]
      have HC := Lib.hid hc
      clear hc
      go_enter Tryd.func13, Tryd.ntmps13
      go_wp2_with fail
      go_loop [3, 4] (fun n i => ∃ j : Nat, j ≤ k ∧ i = .int .i64 j ∧ n = .int .i64 ((2 ^ j : Nat) : Int)) (fun _ i => k - (intOf i).toNat)
      case atStart => exact ⟨0, by omega, rfl, rfl⟩
      case round =>
        obtain ⟨j, hj, rfl, rfl⟩ := hrel
        by_cases hlt : j < k
        · have hp : 2 ^ j ≤ 64 := Nat.le_trans (Nat.pow_le_pow_right (by omega) (show j ≤ 6 by omega)) (by decide)
          have hn : 2 * 2 ^ j = 2 ^ (j + 1) := by rw [Nat.pow_succ, Nat.mul_comm]
          have HN := Lib.hid hn
          clear hn
          generalize 2 ^ j = q at *
          go_wp2_with fail
          go_round
          case rel => exact ⟨j + 1, by omega, by go_num, by rw [← HN.out]; go_num⟩
          case measure => simp [intOf]; omega
        · obtain rfl : j = k := by omega
          go_wp2_with fail
          go_ret
          rw [HC.out]
          exact ⟨rfl, rfl⟩
theorem ret_i64 {a b : Int} (h : a = b) : Ending.returned (.int .i64 a) = .returned (.int .i64 b) := by rw [h]
theorem countD_le (h : Int) : countD h ≤ 64 := by
  unfold countD
  split
  · omega
  · rename_i hc
    exact Nat.le_trans (Nat.pow_le_pow_right (by omega) (show h.toNat ≤ 6 by omega)) (by decide)
theorem countD_pos {h i : Int} (h0 : 0 ≤ i) (h1 : i < (countD h : Int)) : 0 ≤ h ∧ h ≤ 6 := by
  unfold countD at h1
  split at h1
  · omega
  · rename_i hc
    omega
set_option maxRecDepth 100000 in
set_option maxHeartbeats 400000 in
theorem size_any (h i : Int) (w : World) : Calls Tryd.prog 14 #[.int .i64 h, .int .i64 i] w fun e w' => e = .returned (.int .i64 (sizeD h i : Int)) ∧ Below w.heap.size w w' := by
  by_cases h1 : i < 0
  · have HC := Lib.hid (show sizeD h i = 0 by unfold sizeD; rw [if_pos (Or.inl h1)])
    go_enter Tryd.func14, Tryd.ntmps14
    go_wp2_with fail
    go_ret
    rw [HC.out]
    exact ⟨rfl, Below.refl _ _⟩
  · have hcl := countD_le h
    by_cases h2 : (countD h : Int) ≤ i
    · have HC := Lib.hid (show sizeD h i = 0 by unfold sizeD; rw [if_pos (Or.inr h2)])
      have hd1 : decide ((countD h : Int) ≤ i) = true := decide_eq_true h2
      go_enter Tryd.func14, Tryd.ntmps14
      go_wp2_with fail
      refine (count_any h w).mono ?_
      rintro e w1 ⟨rfl, hb⟩
      generalize countD h = c at *
      go_wp2_with fail
      go_ret
      rw [HC.out]
      exact ⟨rfl, hb⟩
    · have hp := countD_pos (h := h) (i := i) (by omega) (by omega)
      have HC := Lib.hid (show sizeD h i = (enc i).length + 16 * (35 + h.toNat) by unfold sizeD; rw [if_neg (by omega)])
      have hd1 : decide ((countD h : Int) ≤ i) = false := decide_eq_false h2
      obtain ⟨hp0, hp6⟩ := hp
      have hen := enc_len i
      go_enter Tryd.func14, Tryd.ntmps14
      go_wp2_with fail
      refine (count_any h w).mono ?_
      rintro e w1 ⟨rfl, hb⟩
      generalize countD h = c at *
      go_wp2_with fail
      refine (int_any i w1 (by omega) (by omega)).mono ?_
      rintro e w2 hret
      obtain ⟨A2, c2, rfl, _, _, hb2⟩ := hret.open
      clear hret
      go_wp2_with fail
      go_ret
      refine ⟨?_, hb.trans (hb2.mono hb.size)⟩
      rw [HC.out]
      exact ret_i64 (by omega)
set_option maxRecDepth 100000 in
set_option maxHeartbeats 400000 in
theorem refSize_any (h i : Int) (w : World) : Calls Tryd.prog 15 #[.int .i64 h, .int .i64 i] w fun e w' => e = .returned (.int .i64 (sizeD h i : Int)) ∧ Below w.heap.size w w' := by
  by_cases h1 : i < 0
  · have HC := Lib.hid (show sizeD h i = 0 by unfold sizeD; rw [if_pos (Or.inl h1)])
    go_enter Tryd.func15, Tryd.ntmps15
    go_wp2_with fail
    go_ret
    rw [HC.out]
    exact ⟨rfl, Below.refl _ _⟩
  · have hcl := countD_le h
    by_cases h2 : (countD h : Int) ≤ i
    · have HC := Lib.hid (show sizeD h i = 0 by unfold sizeD; rw [if_pos (Or.inr h2)])
      have hd1 : decide ((countD h : Int) ≤ i) = true := decide_eq_true h2
      go_enter Tryd.func15, Tryd.ntmps15
      go_wp2_with fail
      refine (refCount_any h w).mono ?_
      rintro e w1 ⟨rfl, rfl⟩
      generalize countD h = c at *
      go_wp2_with fail
      go_ret
      rw [HC.out]
      exact ⟨rfl, Below.refl _ _⟩
    · have hp := countD_pos (h := h) (i := i) (by omega) (by omega)
      have HC := Lib.hid (show sizeD h i = (enc i).length + 16 * (35 + h.toNat) by unfold sizeD; rw [if_neg (by omega)])
      have hd1 : decide ((countD h : Int) ≤ i) = false := decide_eq_false h2
      obtain ⟨hp0, hp6⟩ := hp
      have hen := enc_len i
      go_enter Tryd.func15, Tryd.ntmps15
      go_wp2_with fail
      refine (refCount_any h w).mono ?_
      rintro e w1 ⟨rfl, rfl⟩
      generalize countD h = c at *
      go_wp2_with fail
      refine (refInt_any i w1 (by omega) (by omega)).mono ?_
      rintro e w2 hret
      obtain ⟨A2, c2, rfl, _, _, hb2⟩ := hret.open
      clear hret
      go_wp2_with fail
      go_ret
      refine ⟨?_, hb2⟩
      rw [HC.out]
      exact ret_i64 (by omega)
end Go.Proofs.YtienlndjhcmemaaDoor
