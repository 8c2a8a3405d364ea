/-
  MB: several texts in one: HashSpec, Rot, Sha, Schedule, Tab, Words, Pad, Compress. No statement is proved here.
-/
import Derived.Test.YtienlndjhcmemaaDoorMA
import Derived.Test.YtienlndjhcmemaaDoorRows
import Derived.Laws.OwnMore
import Derived.Deep.Cut
/-
  Plain functions for SHA-256: what the code computes, on numbers and lists of bytes. No program in sight.
-/
namespace Go.Proofs.YtienlndjhcmemaaDoor
open Go.RowKit

def rotr (x n : Nat) : Nat := x / 2 ^ n + x % 2 ^ n * 2 ^ (32 - n)
def mix3 (x i j k : Nat) : Nat := (rotr x i ^^^ rotr x j) ^^^ rotr x k
def add32 (a b : Nat) : Nat := (a + b) % 4294967296
def chf (e f g : Nat) : Nat := (e &&& f) ^^^ ((4294967295 - e) &&& g)
def maj (a b c : Nat) : Nat := ((a &&& b) ^^^ (a &&& c)) ^^^ (b &&& c)
/-- The number that four bytes make. -/
def word4 (a b c d : Nat) : Nat := ((a * 256 + b) * 256 + c) * 256 + d

theorem rotr_lt (x n : Nat) (hx : x < 4294967296) (h2 : n ≤ 31) : rotr x n < 4294967296 := by
  unfold rotr
  have e : (4294967296 : Nat) = 2 ^ n * 2 ^ (32 - n) := by rw [← Nat.pow_add, show n + (32 - n) = 32 from by omega]
  have h1 : x / 2 ^ n < 2 ^ (32 - n) := by
    rw [Nat.div_lt_iff_lt_mul (Nat.two_pow_pos n), Nat.mul_comm, ← e]; exact hx
  have h3 : x % 2 ^ n < 2 ^ n := Nat.mod_lt _ (Nat.two_pow_pos n)
  have h4 : (x % 2 ^ n + 1) * 2 ^ (32 - n) ≤ 2 ^ n * 2 ^ (32 - n) := Nat.mul_le_mul_right _ h3
  rw [Nat.add_mul, Nat.one_mul, ← e] at h4
  omega
/-- The two halves of a rotation have no bit in common. -/
theorem rotr_or (x n : Nat) (hx : x < 4294967296) (h2 : n ≤ 31) : (x / 2 ^ n ||| x * 2 ^ (32 - n) % 4294967296) = rotr x n := by
  have e : (4294967296 : Nat) = 2 ^ n * 2 ^ (32 - n) := by rw [← Nat.pow_add, show n + (32 - n) = 32 from by omega]
  have h1 : x / 2 ^ n < 2 ^ (32 - n) := by
    rw [Nat.div_lt_iff_lt_mul (Nat.two_pow_pos n), Nat.mul_comm, ← e]; exact hx
  rw [e, Nat.mul_mod_mul_right, nat_or_shift _ _ _ h1]
  rfl
theorem ofInt_u32 (a : Nat) (ha : a < 4294967296) : (BitVec.ofInt 32 (a : Int)).toNat = a := by
  rw [BitVec.ofInt_natCast, BitVec.toNat_ofNat]; exact Nat.mod_eq_of_lt (by omega)
theorem u32_and_n (a b : Nat) (ha : a < 4294967296) (hb : b < 4294967296) : bits .and .u32 (a : Int) (b : Int) = ((a &&& b : Nat) : Int) := by
  have hx : a &&& b < 2 ^ 32 := Nat.and_lt_two_pow _ (by omega)
  show IntKind.u32.wrap ((BitVec.ofInt 32 (a : Int) &&& BitVec.ofInt 32 (b : Int)).toNat : Int) = _
  rw [BitVec.toNat_and, ofInt_u32 a ha, ofInt_u32 b hb, IntKind.wrap_u32]
  omega
theorem u32_or_n (a b : Nat) (ha : a < 4294967296) (hb : b < 4294967296) : bits .or .u32 (a : Int) (b : Int) = ((a ||| b : Nat) : Int) := by
  have hx : a ||| b < 2 ^ 32 := Nat.or_lt_two_pow (by omega) (by omega)
  show IntKind.u32.wrap ((BitVec.ofInt 32 (a : Int) ||| BitVec.ofInt 32 (b : Int)).toNat : Int) = _
  rw [BitVec.toNat_or, ofInt_u32 a ha, ofInt_u32 b hb, IntKind.wrap_u32]
  omega
theorem u32_xor_n (a b : Nat) (ha : a < 4294967296) (hb : b < 4294967296) : bits .xor .u32 (a : Int) (b : Int) = ((a ^^^ b : Nat) : Int) := by
  have hx : a ^^^ b < 2 ^ 32 := Nat.xor_lt_two_pow (by omega) (by omega)
  show IntKind.u32.wrap ((BitVec.ofInt 32 (a : Int) ^^^ BitVec.ofInt 32 (b : Int)).toNat : Int) = _
  rw [BitVec.toNat_xor, ofInt_u32 a ha, ofInt_u32 b hb, IntKind.wrap_u32]
  omega
theorem u64_and31 (a : Nat) (ha : a < 18446744073709551616) : bits .and .u64 (a : Int) 31 = ((a % 32 : Nat) : Int) := by
  have e : (BitVec.ofInt 64 (a : Int)).toNat = a := by rw [BitVec.ofInt_natCast, BitVec.toNat_ofNat]; exact Nat.mod_eq_of_lt (by omega)
  have e2 : (BitVec.ofInt 64 31).toNat = 31 := by decide
  have hx : a &&& 31 = a % 32 := Nat.and_two_pow_sub_one_eq_mod a 5
  show IntKind.u64.wrap ((BitVec.ofInt 64 (a : Int) &&& BitVec.ofInt 64 31).toNat : Int) = _
  rw [BitVec.toNat_and, e, e2, hx, IntKind.wrap_u64]
  omega
theorem xor_lt32 {a b : Nat} (ha : a < 4294967296) (hb : b < 4294967296) : a ^^^ b < 4294967296 := Nat.xor_lt_two_pow (n := 32) ha hb
theorem and_lt32 {a b : Nat} (hb : b < 4294967296) : a &&& b < 4294967296 := Nat.and_lt_two_pow (n := 32) _ hb
theorem add32_lt (a b : Nat) : add32 a b < 4294967296 := Nat.mod_lt _ (by omega)
theorem mix3_lt (x i j k : Nat) (hx : x < 4294967296) (hi : i ≤ 31) (hj : j ≤ 31) (hk : k ≤ 31) : mix3 x i j k < 4294967296 := xor_lt32 (xor_lt32 (rotr_lt x i hx hi) (rotr_lt x j hx hj)) (rotr_lt x k hx hk)
end Go.Proofs.YtienlndjhcmemaaDoor
/-
  Rotations of words, and the exclusive or of three: what the calls return.
-/
namespace Go.Proofs.YtienlndjhcmemaaDoor
open Go.RowKit

theorem rotl_bits (x n : Nat) (hx : x < 4294967296) (h1 : 1 ≤ n) (h2 : n ≤ 31) : bits .or .u32 ((x : Int) * 2 ^ (32 - n) % 4294967296) ((x : Int) / 2 ^ (32 - (32 - n))) = (rotr x n : Nat) := by
  have e1 : ((x : Int) * 2 ^ (32 - n) % 4294967296) = ((x * 2 ^ (32 - n) % 4294967296 : Nat) : Int) := by
    rw [Int.natCast_emod, Int.natCast_mul, Int.natCast_pow]; rfl
  have e2 : ((x : Int) / 2 ^ (32 - (32 - n))) = ((x / 2 ^ n : Nat) : Int) := by
    rw [show 32 - (32 - n) = n from by omega, Int.natCast_ediv, Int.natCast_pow]; rfl
  have h3 : x / 2 ^ n < 4294967296 := Nat.lt_of_le_of_lt (Nat.div_le_self _ _) hx
  rw [e1, e2, u32_or_n _ _ (Nat.mod_lt _ (by omega)) h3, Nat.or_comm, rotr_or x n hx h2]
set_option maxRecDepth 100000 in
set_option maxHeartbeats 400000 in
theorem rotl_any (x n : Nat) (w : World) (hx : x < 4294967296) (h1 : 1 ≤ n) (h2 : n ≤ 31) :
    Calls Tryd.prog 76 #[.int .u32 x, .int .i64 (-(n : Int))] w fun e w' => e = .returned (.int .u32 (rotr x n : Nat)) ∧ w = w' := by
  have e1 : IntKind.u64.wrap (-(n : Int)) = ((18446744073709551616 - n : Nat) : Int) := by rw [IntKind.wrap_u64]; omega
  have e2 : bits .and .u64 (((18446744073709551616 - n : Nat) : Int)) 31 = ((32 - n : Nat) : Int) := by
    rw [u64_and31 _ (by omega)]; congr 1; omega
  go_enter Tryd.func76, Tryd.ntmps76
  go_wp2
  go_ret
  exact ⟨by rw [rotl_bits x n hx h1 h2]; rfl, rfl⟩
set_option maxRecDepth 100000 in
set_option maxHeartbeats 400000 in
theorem mix_any (x i j k : Nat) (w : World) (hx : x < 4294967296) (hi : 1 ≤ i ∧ i ≤ 31) (hj : 1 ≤ j ∧ j ≤ 31) (hk : 1 ≤ k ∧ k ≤ 31) :
    Calls Tryd.prog 74 #[.int .u32 x, .int .i64 i, .int .i64 j, .int .i64 k] w fun e w' => e = .returned (.int .u32 (mix3 x i j k : Nat)) ∧ w = w' := by
  have H1 := u32_xor_n (rotr x i) (rotr x j) (rotr_lt x i hx hi.2) (rotr_lt x j hx hj.2)
  have H2 := u32_xor_n (rotr x i ^^^ rotr x j) (rotr x k) (xor_lt32 (rotr_lt x i hx hi.2) (rotr_lt x j hx hj.2)) (rotr_lt x k hx hk.2)
  go_enter Tryd.func74, Tryd.ntmps74
  go_wp2_with fail
  refine (rotl_any x i _ hx hi.1 hi.2).mono ?_
  rintro e _ ⟨rfl, rfl⟩
  go_wp2_with fail
  refine (rotl_any x j _ hx hj.1 hj.2).mono ?_
  rintro e _ ⟨rfl, rfl⟩
  go_wp2_with fail
  refine (rotl_any x k _ hx hk.1 hk.2).mono ?_
  rintro e _ ⟨rfl, rfl⟩
  go_wp2_with fail
  go_ret
  exact ⟨rfl, rfl⟩
theorem rotr_bits (x n : Nat) (hx : x < 4294967296) (h2 : n ≤ 31) : bits .or .u32 ((x : Int) / 2 ^ n) ((x : Int) * 2 ^ (32 - n) % 4294967296) = (rotr x n : Nat) := by
  have e1 : ((x : Int) * 2 ^ (32 - n) % 4294967296) = ((x * 2 ^ (32 - n) % 4294967296 : Nat) : Int) := by
    rw [Int.natCast_emod, Int.natCast_mul, Int.natCast_pow]; rfl
  have e2 : ((x : Int) / 2 ^ n) = ((x / 2 ^ n : Nat) : Int) := by rw [Int.natCast_ediv, Int.natCast_pow]; rfl
  have h3 : x / 2 ^ n < 4294967296 := Nat.lt_of_le_of_lt (Nat.div_le_self _ _) hx
  rw [e1, e2, u32_or_n _ _ h3 (Nat.mod_lt _ (by omega)), rotr_or x n hx h2]
set_option maxRecDepth 100000 in
set_option maxHeartbeats 400000 in
theorem refRotr_any (x n : Nat) (w : World) (hx : x < 4294967296) (h1 : 1 ≤ n) (h2 : n ≤ 31) :
    Calls Tryd.prog 72 #[.int .u32 x, .int .i64 n] w fun e w' => e = .returned (.int .u32 (rotr x n : Nat)) ∧ ∃ k, w' = w.drewN k := by
  go_enter Tryd.func72, Tryd.ntmps72
  go_wp2
  go_quiet (fail)
  go_wp2
  go_ret
  exact ⟨by rw [rotr_bits x n hx h2]; rfl, nq, rfl⟩
end Go.Proofs.YtienlndjhcmemaaDoor
/-
  SHA-256 as plain functions: the schedule, the rounds, the blocks. No program in sight.
-/
namespace Go.Proofs.YtienlndjhcmemaaDoor
open Go.RowKit

def sha0 : List Nat := [1779033703, 3144134277, 1013904242, 2773480762, 1359893119, 2600822924, 528734635, 1541459225]
def shaK : List Nat := [1116352408, 1899447441, 3049323471, 3921009573, 961987163, 1508970993, 2453635748, 2870763221, 3624381080, 310598401, 607225278, 1426881987, 1925078388, 2162078206, 2614888103, 3248222580, 3835390401, 4022224774, 264347078, 604807628, 770255983, 1249150122, 1555081692, 1996064986, 2554220882, 2821834349, 2952996808, 3210313671, 3336571891, 3584528711, 113926993, 338241895, 666307205, 773529912, 1294757372, 1396182291, 1695183700, 1986661051, 2177026350, 2456956037, 2730485921, 2820302411, 3259730800, 3345764771, 3516065817, 3600352804, 4094571909, 275423344, 430227734, 506948616, 659060556, 883997877, 958139571, 1322822218, 1537002063, 1747873779, 1955562222, 2024104815, 2227730452, 2361852424, 2428436474, 2756734187, 3204031479, 3329325298]
def nth (l : List Nat) (i : Nat) : Nat := (l[i]?).getD 0
/-- The word that the schedule has at place t, out of those ahead of it. -/
def schedNext (s : List Nat) (t : Nat) : Nat :=
  add32 (add32 (add32 (nth s (t - 16)) ((rotr (nth s (t - 15)) 7 ^^^ rotr (nth s (t - 15)) 18) ^^^ nth s (t - 15) / 8)) (nth s (t - 7))) ((rotr (nth s (t - 2)) 17 ^^^ rotr (nth s (t - 2)) 19) ^^^ nth s (t - 2) / 1024)
def byteAt (l : List UInt8) (i : Nat) : Nat := ((l[i]?).getD 0).toNat
def schedFirst (l : List UInt8) (t : Nat) : Nat := word4 (byteAt l (4 * t)) (byteAt l (4 * t + 1)) (byteAt l (4 * t + 2)) (byteAt l (4 * t + 3))
/-- The first t words of a block's schedule. -/
def sched (l : List UInt8) : Nat → List Nat
  | 0 => []
  | t + 1 => sched l t ++ [if t < 16 then schedFirst l t else schedNext (sched l t) t]
structure St where
  (a b c d e f g h : Nat)
def St.ok (s : St) : Prop := s.a < 4294967296 ∧ s.b < 4294967296 ∧ s.c < 4294967296 ∧ s.d < 4294967296 ∧ s.e < 4294967296 ∧ s.f < 4294967296 ∧ s.g < 4294967296 ∧ s.h < 4294967296
def stX (s : St) (k w : Nat) : Nat := add32 (add32 (add32 (add32 s.h (mix3 s.e 6 11 25)) (chf s.e s.f s.g)) k) w
def stY (s : St) : Nat := add32 (mix3 s.a 2 13 22) (maj s.a s.b s.c)
def step1 (s : St) (k w : Nat) : St := ⟨add32 (stX s k w) (stY s), s.a, s.b, s.c, add32 s.d (stX s k w), s.e, s.f, s.g⟩
def rounds (w : List Nat) (s : St) : Nat → St
  | 0 => s
  | t + 1 => step1 (rounds w s t) (nth shaK t) (nth w t)
def St.add (s t : St) : St := ⟨add32 s.a t.a, add32 s.b t.b, add32 s.c t.c, add32 s.d t.d, add32 s.e t.e, add32 s.f t.f, add32 s.g t.g, add32 s.h t.h⟩
def St.list (s : St) : List Nat := [s.a, s.b, s.c, s.d, s.e, s.f, s.g, s.h]
def St.of (l : List Nat) : St := ⟨nth l 0, nth l 1, nth l 2, nth l 3, nth l 4, nth l 5, nth l 6, nth l 7⟩
/-- What compress computes. -/
def compr (s : St) (b : List UInt8) : St := s.add (rounds (sched b 64) s 64)
/-- The state behind n whole blocks. -/
def blocks (l : List UInt8) (s : St) : Nat → St
  | 0 => s
  | n + 1 => compr (blocks l s n) ((l.drop (64 * n)).take 64)
def padLen (n : Nat) : Nat := if n % 64 < 56 then 56 - n % 64 else 120 - n % 64
def be8 (n : Nat) : List UInt8 := [UInt8.ofNat (n / 2 ^ 56), UInt8.ofNat (n / 2 ^ 48), UInt8.ofNat (n / 2 ^ 40), UInt8.ofNat (n / 2 ^ 32), UInt8.ofNat (n / 2 ^ 24), UInt8.ofNat (n / 2 ^ 16), UInt8.ofNat (n / 2 ^ 8), UInt8.ofNat n]
/-- What is added to a message of n bytes. -/
def padding (n : Nat) : List UInt8 := 128 :: (List.replicate (padLen n - 1) 0 ++ be8 (8 * n))
def outOf (s : St) : List UInt8 := (s.list.map fun w => [UInt8.ofNat (w / 16777216), UInt8.ofNat (w / 65536), UInt8.ofNat (w / 256), UInt8.ofNat w]).flatten
/-- The hash of a message. -/
def sha (l : List UInt8) : List UInt8 := outOf (blocks (l ++ padding l.length) (St.of sha0) ((l ++ padding l.length).length / 64))

theorem sched_len (l : List UInt8) : ∀ t, (sched l t).length = t
  | 0 => rfl
  | t + 1 => by rw [sched, List.length_append, sched_len l t]; rfl
theorem sched_get (l : List UInt8) {t u : Nat} : ∀ {n : Nat}, t < n → n ≤ u → (sched l u)[t]? = (sched l n)[t]? := by
  intro n h1 h2
  induction u with
  | zero => omega
  | succ u ih =>
    by_cases h : n ≤ u
    · rw [sched, List.getElem?_append_left (by rw [sched_len]; omega)]; exact ih h
    · obtain rfl : n = u + 1 := by omega
      rfl
theorem nth_lt {l : List Nat} (h : ∀ x ∈ l, x < 4294967296) (i : Nat) : nth l i < 4294967296 := by
  unfold nth
  rcases hi : l[i]? with _ | x
  · decide
  · exact h x (List.mem_of_getElem? hi)
theorem word4_lt {a b c d : Nat} (ha : a < 256) (hb : b < 256) (hc : c < 256) (hd : d < 256) : word4 a b c d < 4294967296 := by unfold word4; omega
theorem byteAt_lt (l : List UInt8) (i : Nat) : byteAt l i < 256 := by unfold byteAt; exact UInt8.toNat_lt _
theorem sched_lt (l : List UInt8) : ∀ t, ∀ x ∈ sched l t, x < 4294967296
  | 0, x, h => by cases h
  | t + 1, x, h => by
    rw [sched] at h
    rcases List.mem_append.1 h with h | h
    · exact sched_lt l t x h
    · rw [List.mem_singleton] at h
      subst h
      split
      · exact word4_lt (byteAt_lt _ _) (byteAt_lt _ _) (byteAt_lt _ _) (byteAt_lt _ _)
      · exact add32_lt _ _
theorem step1_ok {s : St} {k w : Nat} (h : s.ok) : (step1 s k w).ok := ⟨add32_lt _ _, h.1, h.2.1, h.2.2.1, add32_lt _ _, h.2.2.2.2.1, h.2.2.2.2.2.1, h.2.2.2.2.2.2.1⟩
theorem rounds_ok (w : List Nat) {s : St} (h : s.ok) : ∀ t, (rounds w s t).ok
  | 0 => h
  | t + 1 => step1_ok (rounds_ok w h t)
theorem add_ok (s t : St) : (s.add t).ok := ⟨add32_lt _ _, add32_lt _ _, add32_lt _ _, add32_lt _ _, add32_lt _ _, add32_lt _ _, add32_lt _ _, add32_lt _ _⟩
theorem compr_ok (s : St) (b : List UInt8) : (compr s b).ok := add_ok _ _
theorem sha0_ok : (St.of sha0).ok := by unfold St.ok; decide
theorem blocks_ok (l : List UInt8) {s : St} (h : s.ok) : ∀ n, (blocks l s n).ok
  | 0 => h
  | _ + 1 => compr_ok _ _
end Go.Proofs.YtienlndjhcmemaaDoor
/-
  schedule returns the 64 words that sched gives.
-/
namespace Go.Proofs.YtienlndjhcmemaaDoor
open Go.RowKit

def wv (x : Nat) : Value := .int .u32 (x : Int)
def wvs (l : List Nat) : List Value := l.map wv
def zeros64 : List Value := List.replicate 64 (.int .u32 0)
theorem Tryd.ag_w64 : AgTy Tryd.prog 90 zeros64.toArray 64 := ⟨by kernel_rfl, by kernel_rfl, by simp [zeros64]⟩
/-- What the array holds when t words are laid. -/
def laidW (s : List Nat) : List Value := wvs s ++ List.replicate (64 - s.length) (.int .u32 0)

theorem laidW_len (s : List Nat) (h : s.length ≤ 64) : (laidW s).length = 64 := by unfold laidW wvs; simp; omega
theorem laidW_zero (s : List Nat) (h : s.length < 64) : (laidW s).set s.length (wv 0) = laidW s := by
  apply List.ext_getElem?
  intro i
  rw [List.getElem?_set]
  by_cases hi : s.length = i
  · subst hi
    rw [if_pos rfl, laidW_len s (by omega), if_pos h]
    unfold laidW wvs
    rw [List.getElem?_append_right (by simp)]
    rw [List.getElem?_replicate, if_pos (by simp; omega)]
    rfl
  · rw [if_neg hi]
theorem laidW_next (s : List Nat) (x : Nat) (h : s.length < 64) : (laidW s).set s.length (wv x) = laidW (s ++ [x]) := by
  apply List.ext_getElem?
  intro i
  rw [List.getElem?_set]
  by_cases hi : s.length = i
  · subst hi
    rw [if_pos rfl, laidW_len s (by omega), if_pos h]
    unfold laidW wvs
    rw [List.getElem?_append_left (by simp)]
    simp
  · rw [if_neg hi]
    unfold laidW wvs
    rcases Nat.lt_or_ge i s.length with h2 | h2
    · rw [List.getElem?_append_left (by simpa using h2), List.getElem?_append_left (by simp; omega), List.map_append, List.getElem?_append_left (by simpa using h2)]
    · rw [List.getElem?_append_right (by simpa using h2), List.getElem?_append_right (by simp; omega), List.getElem?_replicate, List.getElem?_replicate]
      simp only [List.length_map, List.length_append, List.length_singleton]
      by_cases h3 : i < 64
      · rw [if_pos (by omega), if_pos (by omega)]
      · rw [if_neg (by omega), if_neg (by omega)]
/-- The number that the first i bytes of word t make. -/
def wpart (l : List UInt8) (t : Nat) : Nat → Nat
  | 0 => 0
  | i + 1 => wpart l t i * 256 + byteAt l (4 * t + i)
theorem wpart_lt (l : List UInt8) (t i : Nat) : wpart l t i < 256 ^ i := by
  induction i with
  | zero => simp [wpart]
  | succ i ih => rw [wpart, Nat.pow_succ]; have := byteAt_lt l (4 * t + i); omega
theorem wpart_4 (l : List UInt8) (t : Nat) : wpart l t 4 = schedFirst l t := by simp [wpart, schedFirst, word4]
theorem wpart_bits (l : List UInt8) (t i : Nat) (hi : i < 4) : bits .or .u32 (((wpart l t i : Nat) : Int) * 256 % 4294967296) (((byteAt l (4 * t + i) : Nat) : Int) % 4294967296) = ((wpart l t (i + 1) : Nat) : Int) := by
  have h1 : wpart l t i < 256 ^ 3 := Nat.lt_of_lt_of_le (wpart_lt l t i) (Nat.pow_le_pow_right (by omega) (by omega))
  have h2 := byteAt_lt l (4 * t + i)
  have e : ((wpart l t i : Nat) : Int) * 256 % 4294967296 = ((wpart l t i * 256 : Nat) : Int) := by omega
  have e2 : ((byteAt l (4 * t + i) : Nat) : Int) % 4294967296 = ((byteAt l (4 * t + i) : Nat) : Int) := by omega
  have h3 := nat_or_shift (byteAt l (4 * t + i)) (wpart l t i) 8 h2
  rw [e, e2, u32_or_n _ _ (by omega) (by omega), Nat.or_comm, show wpart l t i * 256 = wpart l t i * 2 ^ 8 from rfl, h3, wpart, Nat.add_comm]

theorem laidW_one (s : List Nat) : ∀ u ∈ laidW s, u.oneCell' = true := by
  intro u hu
  unfold laidW wvs at hu
  rcases List.mem_append.1 hu with h | h
  · obtain ⟨x, _, rfl⟩ := List.mem_map.1 h
    unfold wv
    simp [Value.oneCell']
  · rw [(List.mem_replicate.1 h).2]
    simp [Value.oneCell']
theorem laidW_get (s : List Nat) (i : Nat) (h : i < s.length) : (laidW s)[i]? = some (.int .u32 (nth s i : Int)) := by
  unfold laidW wvs nth
  rw [List.getElem?_append_left (by simpa using h), List.getElem?_map, List.getElem?_eq_getElem h]
  rfl

set_option maxRecDepth 100000 in
set_option maxHeartbeats 1000000 in
theorem schedule_any (l : List UInt8) (A : Option Addr) (n c B : Nat) (w : World) (hr : Rd w B 1 A n c (bcs l)) (hB : B ≤ w.heap.size) (hn : 64 ≤ n) :
    Calls Tryd.prog 73 #[.slice A n c] w fun e w' => e = .returned (.agg (wvs (sched l 64)).toArray) ∧ Below w.heap.size w w' := by
  go_enter Tryd.func73, Tryd.ntmps73
  go_wp2_with (with_reducible refine alArr (z := zeros64) Tryd.ag_w64 (wn rfl) rfl ?_)
  intro w1 hA2 hb1
  go_wp2_with (with_reducible refine alArr (z := zeros64) Tryd.ag_w64 (wn rfl) rfl ?_)
  intro w2 hA3 hb2
  have hgt0 := hA2.lt
  have hA2 := hA2.below hb2 hA2.lt
  have hgt : w.heap.size < w1.heap.size := hgt0
  have hb := hb1.trans (hb2.mono hb1.size)
  generalize w1.heap.size = g at hA3 hgt ⊢
  clear hb1 hb2 hgt0
  go_wp2
  go_loopw [11] (fun iv_ wr => ∃ t : Nat, t ≤ 64 ∧ iv_ = .int .i64 t ∧ Arr wr g 90 (laidW (sched l t)) ∧ Arr wr w.heap.size 90 zeros64 ∧ Below w.heap.size w wr) (fun iv_ _ => 64 - (intOf iv_).toNat)
  case atStart => exact ⟨0, by omega, rfl, hA3, hA2, hb⟩
  case round =>
    clear hA3 hA2 hb
    obtain ⟨t, ht, rfl, hA3, hA2, hb⟩ := hrel
    by_cases h64 : t < 64
    · by_cases h16 : t < 16
      · have hrw := hr.below (hb.mono hB)
        go_wp2_with (with_reducible refine slLH (.tmp 16) (.tmp 18) (.tmp 21) (4 * t) (4 * t + 4) Tryd.sl_u8 (wn rfl) rfl rfl rfl rfl hrw (by omega) (by omega) (by omega) (by omega) ?_)
        intro A' hcut
        have hz := laidW_zero (sched l t) (by rw [sched_len]; exact h64)
        rw [sched_len] at hz
        rw [← hz] at hA3
        have HSL := Lib.hid (sched_len l t)
        clear hz
        go_wp2
        obtain ⟨wo, rfl⟩ : ∃ wo : World, wo = wr := ⟨_, rfl⟩
        go_loopw [24] (fun iv_ w4 => ∃ i : Nat, i ≤ 4 ∧ iv_ = .int .i64 i ∧ Below B wo w4 ∧ Arr w4 g 90 ((laidW (sched l t)).set t (wv (wpart l t i))) ∧ Arr w4 w.heap.size 90 zeros64 ∧ Below w.heap.size w w4) (fun iv_ _ => 4 - (intOf iv_).toNat)
        case atStart => exact ⟨0, by omega, rfl, Below.refl _ _, hA3, hA2, hb⟩
        case round =>
          clear hA3 hA2 hrw hb
          obtain ⟨i, hi, rfl, hbo, hA3, hA2, hb⟩ := hrel
          by_cases hi4 : i < 4
          · have hcell := hA3.cell (i := t) (v := wv (wpart l t i)) (by rw [List.getElem?_set]; rw [if_pos rfl, laidW_len _ (by rw [HSL.out]; omega), if_pos h64])
            have hth := hA3.thaw t
            obtain ⟨b, off, u, rfl, hbB, hu, hby⟩ := (hcut.below hbo).at1 hi4
            obtain ⟨rfl⟩ : u = .int .u8 (byteAt l (4 * t + i) : Int) := by
              rw [List.getElem?_take, if_pos hi4, List.getElem?_drop, bcs, List.getElem?_map] at hu
              obtain ⟨y, hy, rfl⟩ := Option.map_eq_some_iff.1 hu
              unfold byteAt; rw [hy]; rfl
            have hbits := wpart_bits l t i hi4
            unfold wv at hcell
            have HB := Lib.hid hbits
            clear hbits hu
            go_wp2
            rw [HB.out]
            go_roundw
            case rel =>
              refine ⟨i + 1, by omega, by go_num, hbo.setCell (show B ≤ g by omega) _, ?_, hA2.other (by omega) _ _, hb.setCell (show w.heap.size ≤ g by omega) _⟩
              have h := hA3.set t (wv (wpart l t (i + 1)))
              rwa [List.set_set] at h
            case measure => (simp [intOf]; try omega)
          · obtain rfl : i = 4 := by omega
            go_wp2
            go_roundw
            case rel =>
              refine ⟨t + 1, by omega, by go_num, ?_, hA2, hb⟩
              have h := laidW_next (sched l t) (wpart l t 4) (by rw [HSL.out]; exact h64)
              rw [HSL.out] at h
              rw [h, wpart_4] at hA3
              rw [sched, if_pos h16]
              exact hA3
            case measure => (simp [intOf]; try omega)
      · have hL := sched_len l t
        have hlt := sched_lt l t
        have c15 := hA3.cell (laidW_get (sched l t) (t - 15) (by omega))
        have c2 := hA3.cell (laidW_get (sched l t) (t - 2) (by omega))
        have c16 := hA3.cell (laidW_get (sched l t) (t - 16) (by omega))
        have c7 := hA3.cell (laidW_get (sched l t) (t - 7) (by omega))
        have x15 := nth_lt hlt (t - 15)
        have x2 := nth_lt hlt (t - 2)
        generalize hp : nth (sched l t) (t - 15) = p at *
        generalize hq : nth (sched l t) (t - 2) = q at *
        have HP := Lib.hid hp
        have HQ := Lib.hid hq
        clear hp hq
        have i15 : ((t : Int) - 15).toNat = t - 15 := by omega
        have i2 : ((t : Int) - 2).toNat = t - 2 := by omega
        have i16 : ((t : Int) - 16).toNat = t - 16 := by omega
        have i7 : ((t : Int) - 7).toNat = t - 7 := by omega
        have HLT := Lib.hid hlt
        have HL := Lib.hid hL
        clear hlt hL
        go_wp2
        go_quiet (fail)
        have X1 := u32_xor_n (rotr p 7) (rotr p 18) (rotr_lt p 7 x15 (by omega)) (rotr_lt p 18 x15 (by omega))
        have X2 := u32_xor_n (rotr p 7 ^^^ rotr p 18) (p / 8) (xor_lt32 (rotr_lt p 7 x15 (by omega)) (rotr_lt p 18 x15 (by omega))) (by omega)
        have Y1 := u32_xor_n (rotr q 17) (rotr q 19) (rotr_lt q 17 x2 (by omega)) (rotr_lt q 19 x2 (by omega))
        have Y2 := u32_xor_n (rotr q 17 ^^^ rotr q 19) (q / 1024) (xor_lt32 (rotr_lt q 17 x2 (by omega)) (rotr_lt q 19 x2 (by omega))) (by omega)
        have X2 : bits .xor .u32 ((rotr p 7 ^^^ rotr p 18 : Nat) : Int) ((p : Int) / 8) = ((rotr p 7 ^^^ rotr p 18 ^^^ p / 8 : Nat) : Int) := X2
        have Y2 : bits .xor .u32 ((rotr q 17 ^^^ rotr q 19 : Nat) : Int) ((q : Int) / 1024) = ((rotr q 17 ^^^ rotr q 19 ^^^ q / 1024 : Nat) : Int) := Y2
        go_wp2_with fail
        refine (rotl_any p 7 _ x15 (by omega) (by omega)).mono ?_
        rintro e _ ⟨rfl, rfl⟩
        go_wp2_with fail
        refine (rotl_any p 18 _ x15 (by omega) (by omega)).mono ?_
        rintro e _ ⟨rfl, rfl⟩
        go_wp2_with fail
        refine (rotl_any q 17 _ x2 (by omega) (by omega)).mono ?_
        rintro e _ ⟨rfl, rfl⟩
        go_wp2_with fail
        refine (rotl_any q 19 _ x2 (by omega) (by omega)).mono ?_
        rintro e _ ⟨rfl, rfl⟩
        go_wp2_with fail
        have hth := hA3.thaw t
        have ct := hA3.cell (i := t) (v := .int .u32 0) (by unfold laidW wvs; rw [List.getElem?_append_right (by simp [HL.out]), List.getElem?_replicate, if_pos (by simp [HL.out]; omega)])
        go_region
        go_wp2
        go_roundw
        case rel =>
          refine ⟨t + 1, by omega, by go_num, ?_, (hA2.drewN _).other (by omega) _ _, Below.setCell (show Below w.heap.size w (wr.drewN (nq + 1)) from ⟨hb.os, hb.tape, hb.output, hb.size, hb.block⟩) (show w.heap.size ≤ g by omega) _⟩
          have hv : Value.int .u32 (((nth (sched l t) (t - 16) : Int) + ((rotr p 7 ^^^ rotr p 18 ^^^ p / 8 : Nat) : Int) + (nth (sched l t) (t - 7) : Int) + ((rotr q 17 ^^^ rotr q 19 ^^^ q / 1024 : Nat) : Int)) % 4294967296) = wv (schedNext (sched l t) t) := by
            unfold wv schedNext add32
            rw [HP.out, HQ.out]
            congr 1
            omega
          rw [hv]
          have h := laidW_next (sched l t) (schedNext (sched l t) t) (by rw [HL.out]; exact h64)
          rw [HL.out] at h
          rw [sched, if_neg h16, ← h]
          exact (hA3.drewN _).set t _
        case measure => (simp [intOf]; try omega)
    · go_wp2_with (first | (with_reducible refine ldArr (.tmp 3) Tryd.ag_w64 (wn rfl) rfl rfl (laidW_len _ (by rw [sched_len]; exact ht)) hA3 ?_) | (with_reducible refine stArr (.tmp 2) (.tmp 78) Tryd.ag_w64 (wn rfl) rfl rfl rfl hA2 (by simp [zeros64]) (laidW_len _ (by rw [sched_len]; exact ht)) (laidW_one _) ?_))
      intro w' hA' hkeep hbel
      obtain rfl : t = 64 := by omega
      have hf : laidW (sched l 64) = wvs (sched l 64) := by unfold laidW; rw [sched_len]; simp
      rw [hf] at hA'
      go_wp2_with fail
      refine bodyPost_ret (v := .agg (wvs (sched l 64)).toArray) ?_ rfl ?_
      · exact res_cell1 (wvs (sched l 64)) Tryd.results73 Tryd.ag_w64 _ rfl (by simp [wvs, sched_len]) (fun j u hu => by rw [Nat.zero_add]; exact hA'.cell hu)
      · exact ⟨rfl, hb.trans (hbel _ (Nat.le_refl _))⟩
end Go.Proofs.YtienlndjhcmemaaDoor
/-
  The two tables of constants, as cells of memory, and that calls leave them alone. No statement is proved here.
-/
namespace Go.Proofs.YtienlndjhcmemaaDoor
open Go.RowKit

/-- The program's table lies in memory. -/
structure Tabs (w : World) : Prop where
  size : 2 ≤ w.heap.size
  own : ∀ j u, (wvs shaK)[j]? = some u → w.cell? ⟨1, 0 + j, none⟩ = some u
/-- The specification's table lies in memory. -/
structure TabsR (w : World) : Prop where
  size : 2 ≤ w.heap.size
  ref : ∀ j u, (wvs shaK)[j]? = some u → w.cell? ⟨0, 0 + j, none⟩ = some u
theorem Tabs.below {w w' : World} {B : Nat} (h : Tabs w) (hb : Below B w w') (hB : 2 ≤ B) : Tabs w' :=
  ⟨Nat.le_trans h.size hb.size, fun j u hu => (hb.cell (p := ⟨1, 0 + j, none⟩) (by show 1 < B; omega)).trans (h.own j u hu)⟩
theorem TabsR.below {w w' : World} {B : Nat} (h : TabsR w) (hb : Below B w w') (hB : 2 ≤ B) : TabsR w' :=
  ⟨Nat.le_trans h.size hb.size, fun j u hu => (hb.cell (p := ⟨0, 0 + j, none⟩) (by show 0 < B; omega)).trans (h.ref j u hu)⟩
def zeros8 : List Value := List.replicate 8 (.int .u32 0)
def zeros4 : List Value := List.replicate 4 (.int .u32 0)
theorem Tryd.ag_w8 : AgTy Tryd.prog 69 zeros8.toArray 8 := ⟨by kernel_rfl, by kernel_rfl, by simp [zeros8]⟩
theorem Tryd.ag_w4 : AgTy Tryd.prog 93 zeros4.toArray 4 := ⟨by kernel_rfl, by kernel_rfl, by simp [zeros4]⟩
def St.va (s : St) : List Value := wvs [s.a, s.b, s.c, s.d]
def St.ve (s : St) : List Value := wvs [s.e, s.f, s.g, s.h]
def St.vals (s : St) : List Value := wvs s.list
theorem St.vals_eq (s : St) : s.vals = s.va ++ s.ve := rfl
theorem wvs_len (l : List Nat) : (wvs l).length = l.length := by simp [wvs]
theorem wvs_get {l : List Nat} {i : Nat} (h : i < l.length) : (wvs l)[i]? = some (wv (nth l i)) := by
  unfold wvs nth
  rw [List.getElem?_map, List.getElem?_eq_getElem h]
  rfl
theorem wvs_one (l : List Nat) : ∀ u ∈ wvs l, u.oneCell' = true := by
  intro u hu
  obtain ⟨x, _, rfl⟩ := List.mem_map.1 hu
  rfl
theorem shaK_len : shaK.length = 64 := rfl
theorem shaK_lt : ∀ x ∈ shaK, x < 4294967296 := by decide
theorem run_index_shaK (t : Nat) (h : t < 64) (w : World) : (Instr.index 90 (.agg (wvs shaK).toArray) (.int .i64 (t : Int))).run Tryd.prog w = .ok (.int .u32 (nth shaK t : Int)) w := by
  have hu : Tryd.prog.underlying 90 = some (.array 64 68) := by kernel_rfl
  have hi : (Tryd.prog.info? 68).map (·.size) = some 1 := by kernel_rfl
  obtain ⟨i, hi, hs⟩ := Option.map_eq_some_iff.1 hi
  have h1 : (0 : Int) ≤ (t : Int) ∧ (t : Int) < 64 := by omega
  have hg : (wvs shaK)[t]? = some (wv (nth shaK t)) := wvs_get (by rw [shaK_len]; exact h)
  simp [Instr.index, asIntOf, run_underlying hu, sizeOf, typeInfo, hi, hs, part, h, hg]
  rfl
theorem mix_q (x : Nat) (i j k : Int) (w : World) (m : Nat) (hx : x < 4294967296) (hi : 1 ≤ i ∧ i ≤ 31) (hj : 1 ≤ j ∧ j ≤ 31) (hk : 1 ≤ k ∧ k ≤ 31) :
    Calls Tryd.prog 74 #[.int .u32 x, .int .i64 i, .int .i64 j, .int .i64 k] (w.drewN m) fun e w'' => e = .returned (.int .u32 (mix3 x i.toNat j.toNat k.toNat : Nat)) ∧ ∃ m, w'' = w.drewN m := by
  obtain ⟨i, rfl⟩ := Int.eq_ofNat_of_zero_le (show 0 ≤ i by omega)
  obtain ⟨j, rfl⟩ := Int.eq_ofNat_of_zero_le (show 0 ≤ j by omega)
  obtain ⟨k, rfl⟩ := Int.eq_ofNat_of_zero_le (show 0 ≤ k by omega)
  simp only [Int.toNat_natCast]
  exact (mix_any x i j k _ hx (by omega) (by omega) (by omega)).mono fun _ _ ⟨he, hk⟩ => ⟨he, m, hk.symm⟩
theorem ones32 : (if IntKind.u32.signed = true then (-1 : Int) else IntKind.u32.max) = 4294967295 := by decide
theorem ch_bits (e f g : Nat) (he : e < 4294967296) (hf : f < 4294967296) (hg : g < 4294967296) :
    bits .xor .u32 (bits .and .u32 (e : Int) (f : Int)) (bits .and .u32 (bits .xor .u32 (if IntKind.u32.signed = true then (-1 : Int) else IntKind.u32.max) (e : Int)) (g : Int)) = ((chf e f g : Nat) : Int) := by
  have h1 : bits .xor .u32 4294967295 (e : Int) = ((4294967295 - e : Nat) : Int) := by
    have := u32_xor_n 4294967295 e (by omega) he
    rw [Nat.xor_comm, nat_xor_ones 32 e he] at this
    exact this
  rw [ones32, h1, u32_and_n _ _ he hf, u32_and_n _ _ (by omega) hg, u32_xor_n _ _ (and_lt32 hf) (and_lt32 hg)]
  rfl
theorem maj_bits (a b c : Nat) (ha : a < 4294967296) (hb : b < 4294967296) (hc : c < 4294967296) :
    bits .xor .u32 (bits .xor .u32 (bits .and .u32 (a : Int) (b : Int)) (bits .and .u32 (a : Int) (c : Int))) (bits .and .u32 (b : Int) (c : Int)) = ((maj a b c : Nat) : Int) := by
  rw [u32_and_n _ _ ha hb, u32_and_n _ _ ha hc, u32_and_n _ _ hb hc, u32_xor_n _ _ (and_lt32 hb) (and_lt32 hc), u32_xor_n _ _ (xor_lt32 (and_lt32 hb) (and_lt32 hc)) (and_lt32 hc)]
  rfl
theorem x_bits (a b c d e f g h k w : Nat) (he : e < 4294967296) (hf : f < 4294967296) (hg : g < 4294967296) :
    (((h : Int) + ((mix3 e 6 11 25 : Nat) : Int) + bits .xor .u32 (bits .and .u32 (e : Int) (f : Int)) (bits .and .u32 (bits .xor .u32 (if IntKind.u32.signed = true then (-1 : Int) else IntKind.u32.max) (e : Int)) (g : Int)) + (k : Int)) % 4294967296 + (w : Int)) % 4294967296 = ((stX ⟨a, b, c, d, e, f, g, h⟩ k w : Nat) : Int) := by
  rw [ch_bits e f g he hf hg]
  unfold stX add32
  simp only [Int.natCast_emod, Int.natCast_add]
  omega
theorem y_bits (a b c d e f g h : Nat) (ha : a < 4294967296) (hb : b < 4294967296) (hc : c < 4294967296) :
    (((mix3 a 2 13 22 : Nat) : Int) + bits .xor .u32 (bits .xor .u32 (bits .and .u32 (a : Int) (b : Int)) (bits .and .u32 (a : Int) (c : Int))) (bits .and .u32 (b : Int) (c : Int))) % 4294967296 = ((stY ⟨a, b, c, d, e, f, g, h⟩ : Nat) : Int) := by
  rw [maj_bits a b c ha hb hc]
  unfold stY add32
  simp only [Int.natCast_emod, Int.natCast_add]
  omega
end Go.Proofs.YtienlndjhcmemaaDoor
/-
  words of the specification returns the 64 words that sched gives.
-/
namespace Go.Proofs.YtienlndjhcmemaaDoor
open Go.RowKit

theorem word_bits (a b c d : Nat) (ha : a < 256) (hb : b < 256) (hc : c < 256) (hd : d < 256) :
    bits .or .u32 (bits .or .u32 (bits .or .u32 ((a : Int) % 4294967296 * 16777216 % 4294967296) ((b : Int) % 4294967296 * 65536 % 4294967296)) ((c : Int) % 4294967296 * 256 % 4294967296)) ((d : Int) % 4294967296) = ((word4 a b c d : Nat) : Int) := by
  have e1 : (a : Int) % 4294967296 * 16777216 % 4294967296 = ((a * 2 ^ 24 : Nat) : Int) := by omega
  have e2 : (b : Int) % 4294967296 * 65536 % 4294967296 = ((b * 65536 : Nat) : Int) := by omega
  have e3 : (c : Int) % 4294967296 * 256 % 4294967296 = ((c * 256 : Nat) : Int) := by omega
  have e4 : (d : Int) % 4294967296 = ((d : Nat) : Int) := by omega
  have h1 : (a * 2 ^ 24 ||| b * 65536) = (a * 256 + b) * 2 ^ 16 := by rw [Nat.or_comm, nat_or_shift _ _ _ (by omega)]; omega
  have h2 : ((a * 256 + b) * 2 ^ 16 ||| c * 256) = ((a * 256 + b) * 256 + c) * 2 ^ 8 := by rw [Nat.or_comm, nat_or_shift _ _ _ (by omega)]; omega
  have h3 : (((a * 256 + b) * 256 + c) * 2 ^ 8 ||| d) = word4 a b c d := by rw [Nat.or_comm, nat_or_shift _ _ _ (by omega)]; unfold word4; omega
  rw [e1, e2, e3, e4, u32_or_n _ _ (by omega) (by omega), h1, u32_or_n _ _ (by omega) (by omega), h2, u32_or_n _ _ (by omega) (by omega), h3]
theorem byte_cell {w : World} {B n c b off : Nat} {l : List UInt8} (hr : Rd w B 1 (some ⟨b, off, none⟩) n c (bcs l)) (i : Nat) (hi : i < n) : w.cell? ⟨b, off + i, none⟩ = some (.int .u8 (byteAt l i : Int)) := by
  obtain ⟨b', off', u, hA, _, hu, hc⟩ := hr.at1 hi
  cases hA
  rw [hc, ← hu, bcs, List.getElem?_map]
  have hl : i < l.length := by have := hr.len; rw [bcs_length] at this; omega
  unfold byteAt
  rw [List.getElem?_eq_getElem hl]
  rfl

theorem refRotr_q (x : Nat) (n : Int) (w : World) (m : Nat) (hx : x < 4294967296) (h1 : 1 ≤ n) (h2 : n ≤ 31) :
    Calls Tryd.prog 72 #[.int .u32 x, .int .i64 n] (w.drewN m) fun e w'' => e = .returned (.int .u32 (rotr x n.toNat : Nat)) ∧ ∃ m, w'' = w.drewN m := by
  obtain ⟨k, rfl⟩ := Int.eq_ofNat_of_zero_le (show 0 ≤ n by omega)
  rw [Int.toNat_natCast]
  exact (refRotr_any x k _ hx (by omega) (by omega)).mono fun _ _ ⟨he, k, hk⟩ => ⟨he, m + k, by rw [hk]; unfold World.drewN; simp [Nat.add_assoc]⟩
theorem quiet_of_drew {P : Program} {f : FuncId} {args : Array Value} {w : World} {n : Nat} {v : Value}
    (h : Calls P f args (w.drewN n) fun e w' => e = .returned v ∧ ∃ k, w' = (w.drewN n).drewN k) : Calls P f args (w.drewN n) fun e w'' => e = .returned v ∧ ∃ m, w'' = w.drewN m :=
  h.mono fun _ _ ⟨he, k, hk⟩ => ⟨he, n + k, by rw [hk]; unfold World.drewN; simp [Nat.add_assoc]⟩

set_option maxRecDepth 100000 in
set_option maxHeartbeats 1000000 in
theorem words_any (l : List UInt8) (A : Option Addr) (n c B : Nat) (w : World) (hr : Rd w B 1 A n c (bcs l)) (hB : B ≤ w.heap.size) (hn : 64 ≤ n) :
    Calls Tryd.prog 71 #[.slice A n c] w fun e w' => e = .returned (.agg (wvs (sched l 64)).toArray) ∧ Below w.heap.size w w' := by
  go_enter Tryd.func71, Tryd.ntmps71
  go_wp2_with (with_reducible refine alArr (z := zeros64) Tryd.ag_w64 (wn rfl) rfl ?_)
  intro w1 hA2 hb1
  go_wp2_with (with_reducible refine alArr (z := zeros64) Tryd.ag_w64 (wn rfl) rfl ?_)
  intro w2 hA3 hb2
  have hgt0 := hA2.lt
  have hA2 := hA2.below hb2 hA2.lt
  have hgt : w.heap.size < w1.heap.size := hgt0
  have hb := hb1.trans (hb2.mono hb1.size)
  generalize w1.heap.size = g at hA3 hgt ⊢
  clear hb1 hb2 hgt0
  go_wp2
  go_loopw [4] (fun iv_ wr => ∃ t : Nat, t ≤ 16 ∧ iv_ = .int .i64 t ∧ Arr wr g 90 (laidW (sched l t)) ∧ Arr wr w.heap.size 90 zeros64 ∧ Below w.heap.size w wr) (fun iv_ _ => 16 - (intOf iv_).toNat)
  case atStart => exact ⟨0, by omega, rfl, hA3, hA2, hb⟩
  case round =>
    clear hA3 hA2 hb
    obtain ⟨t, ht, rfl, hA3, hA2, hb⟩ := hrel
    by_cases h16 : t < 16
    · obtain ⟨b, off, rfl, hbB, hc⟩ := hr.cells (by omega)
      have hth := hA3.thaw t
      have HL := Lib.hid (sched_len l t)
      have ct := hA3.cell (i := t) (v := .int .u32 0) (by unfold laidW wvs; rw [List.getElem?_append_right (by simp [HL.out]), List.getElem?_replicate, if_pos (by simp [HL.out]; omega)])
      have hby : ∀ i, i < 64 → wr.cell? ⟨b, off + i, none⟩ = some (.int .u8 (byteAt l i : Int)) :=
        fun i hi => byte_cell (hr.below (hb.mono hB)) i (by omega)
      have b0 := hby (4 * t) (by omega)
      have b1 := hby (4 * t + 1) (by omega)
      have b2 := hby (4 * t + 2) (by omega)
      have b3 := hby (4 * t + 3) (by omega)
      clear hby hc
      go_wp2
      have HW := Lib.hid (word_bits _ _ _ _ (byteAt_lt l (4 * t)) (byteAt_lt l (4 * t + 1)) (byteAt_lt l (4 * t + 2)) (byteAt_lt l (4 * t + 3)))
      go_region
      go_wp2
      rw [HW.out]
      go_roundw
      case rel =>
        refine ⟨t + 1, by omega, by go_num, ?_, hA2.drew.other (by omega) _ _, Below.setCell (show Below w.heap.size w wr.drew from ⟨hb.os, hb.tape, hb.output, hb.size, hb.block⟩) (show w.heap.size ≤ g by omega) _⟩
        have h := laidW_next (sched l t) (schedFirst l t) (by rw [HL.out]; omega)
        rw [HL.out] at h
        rw [sched, if_pos h16, ← h]
        exact hA3.drew.set t _
      case measure => (simp [intOf]; try omega)
    · obtain rfl : t = 16 := by omega
      go_wp2
      go_loopw [5] (fun iv_ wr => ∃ t : Nat, 16 ≤ t ∧ t ≤ 64 ∧ iv_ = .int .i64 t ∧ Arr wr g 90 (laidW (sched l t)) ∧ Arr wr w.heap.size 90 zeros64 ∧ Below w.heap.size w wr) (fun iv_ _ => 64 - (intOf iv_).toNat)
      case atStart => exact ⟨16, by omega, by omega, rfl, hA3, hA2, hb⟩
      case round =>
        clear hA3 hA2 hb
        obtain ⟨t, ht16, ht, rfl, hA3, hA2, hb⟩ := hrel
        by_cases h64 : t < 64
        · have hL := sched_len l t
          have hlt := sched_lt l t
          have c15 := hA3.cell (laidW_get (sched l t) (t - 15) (by omega))
          have c2 := hA3.cell (laidW_get (sched l t) (t - 2) (by omega))
          have c16 := hA3.cell (laidW_get (sched l t) (t - 16) (by omega))
          have c7 := hA3.cell (laidW_get (sched l t) (t - 7) (by omega))
          have x15 := nth_lt hlt (t - 15)
          have x2 := nth_lt hlt (t - 2)
          generalize hp : nth (sched l t) (t - 15) = p at *
          generalize hq : nth (sched l t) (t - 2) = q at *
          have HP := Lib.hid hp
          have HQ := Lib.hid hq
          have i15 : ((t : Int) - 15).toNat = t - 15 := by omega
          have i2 : ((t : Int) - 2).toNat = t - 2 := by omega
          have i16 : ((t : Int) - 16).toNat = t - 16 := by omega
          have i7 : ((t : Int) - 7).toNat = t - 7 := by omega
          have HLT := Lib.hid hlt
          have HL := Lib.hid hL
          clear hlt hL hp hq
          have X1 := u32_xor_n (rotr p 7) (rotr p 18) (rotr_lt p 7 x15 (by omega)) (rotr_lt p 18 x15 (by omega))
          have X2 : bits .xor .u32 ((rotr p 7 ^^^ rotr p 18 : Nat) : Int) ((p : Int) / 8) = ((rotr p 7 ^^^ rotr p 18 ^^^ p / 8 : Nat) : Int) := u32_xor_n (rotr p 7 ^^^ rotr p 18) (p / 8) (xor_lt32 (rotr_lt p 7 x15 (by omega)) (rotr_lt p 18 x15 (by omega))) (by omega)
          have Y1 := u32_xor_n (rotr q 17) (rotr q 19) (rotr_lt q 17 x2 (by omega)) (rotr_lt q 19 x2 (by omega))
          have Y2 : bits .xor .u32 ((rotr q 17 ^^^ rotr q 19 : Nat) : Int) ((q : Int) / 1024) = ((rotr q 17 ^^^ rotr q 19 ^^^ q / 1024 : Nat) : Int) := u32_xor_n (rotr q 17 ^^^ rotr q 19) (q / 1024) (xor_lt32 (rotr_lt q 17 x2 (by omega)) (rotr_lt q 19 x2 (by omega))) (by omega)
          go_wp2_with fail
          go_quiet ((go_at_call 72; exact refRotr_q p _ _ _ x15 (by omega) (by omega)))
          go_wp2_with fail
          obtain ⟨wq, hwq⟩ : ∃ wq, wq = wr.drewN nq := ⟨_, rfl⟩
          rw [← hwq]
          have hA3 : Arr wq g 90 (laidW (sched l t)) := hwq ▸ hA3.drewN nq
          have hA2 : Arr wq w.heap.size 90 zeros64 := hwq ▸ hA2.drewN nq
          have hb : Below w.heap.size w wq := hwq ▸ ⟨hb.os, hb.tape, hb.output, hb.size, hb.block⟩
          have c2 : wq.cell? ⟨g, t - 2, none⟩ = some (.int .u32 q) := hwq ▸ c2
          have c16 : wq.cell? ⟨g, t - 16, none⟩ = some (.int .u32 (nth (sched l t) (t - 16))) := hwq ▸ c16
          have c7 : wq.cell? ⟨g, t - 7, none⟩ = some (.int .u32 (nth (sched l t) (t - 7))) := hwq ▸ c7
          clear hwq
          clear c15
          go_quiet ((go_at_call 72; exact refRotr_q q _ _ _ x2 (by omega) (by omega)))
          go_wp2_with fail
          obtain ⟨wp, hwp⟩ : ∃ wp, wp = wq.drewN nq := ⟨_, rfl⟩
          rw [← hwp]
          have hA3 : Arr wp g 90 (laidW (sched l t)) := hwp ▸ hA3.drewN nq
          have hA2 : Arr wp w.heap.size 90 zeros64 := hwp ▸ hA2.drewN nq
          have hb : Below w.heap.size w wp := hwp ▸ ⟨hb.os, hb.tape, hb.output, hb.size, hb.block⟩
          have c16 : wp.cell? ⟨g, t - 16, none⟩ = some (.int .u32 (nth (sched l t) (t - 16))) := hwp ▸ c16
          have c7 : wp.cell? ⟨g, t - 7, none⟩ = some (.int .u32 (nth (sched l t) (t - 7))) := hwp ▸ c7
          clear hwp c2
          have hth := hA3.thaw t
          have ct := hA3.cell (i := t) (v := .int .u32 0) (by unfold laidW wvs; rw [List.getElem?_append_right (by simp [HL.out]), List.getElem?_replicate, if_pos (by simp [HL.out]; omega)])
          go_region
          go_wp2
          go_roundw
          case rel =>
            refine ⟨t + 1, by omega, by omega, by go_num, ?_, hA2.drew.other (by omega) _ _, Below.setCell (show Below w.heap.size w wp.drew from ⟨hb.os, hb.tape, hb.output, hb.size, hb.block⟩) (show w.heap.size ≤ g by omega) _⟩
            have hv : Value.int .u32 (((nth (sched l t) (t - 16) : Int) + ((rotr p 7 ^^^ rotr p 18 ^^^ p / 8 : Nat) : Int) + (nth (sched l t) (t - 7) : Int) + ((rotr q 17 ^^^ rotr q 19 ^^^ q / 1024 : Nat) : Int)) % 4294967296) = wv (schedNext (sched l t) t) := by
              unfold wv schedNext add32
              rw [HP.out, HQ.out]
              congr 1
              omega
            rw [hv]
            have h := laidW_next (sched l t) (schedNext (sched l t) t) (by rw [HL.out]; exact h64)
            rw [HL.out] at h
            rw [sched, if_neg (by omega), ← h]
            exact hA3.drew.set t _
          case measure => (simp [intOf]; try omega)
        · go_wp2_with (first | (with_reducible refine ldArr (.tmp 3) Tryd.ag_w64 (wn rfl) rfl rfl (laidW_len _ (by rw [sched_len]; exact ht)) hA3 ?_) | (with_reducible refine stArr (.tmp 2) (.tmp 100) Tryd.ag_w64 (wn rfl) rfl rfl rfl hA2 (by simp [zeros64]) (laidW_len _ (by rw [sched_len]; exact ht)) (laidW_one _) ?_))
          intro w' hA' hkeep hbel
          obtain rfl : t = 64 := by omega
          have hf : laidW (sched l 64) = wvs (sched l 64) := by unfold laidW; rw [sched_len]; simp
          rw [hf] at hA'
          go_wp2_with fail
          refine bodyPost_ret (v := .agg (wvs (sched l 64)).toArray) ?_ rfl ?_
          · exact res_cell1 (wvs (sched l 64)) Tryd.results71 Tryd.ag_w64 _ rfl (by simp [wvs, sched_len]) (fun j u hu => by rw [Nat.zero_add]; exact hA'.cell hu)
          · exact ⟨rfl, hb.trans (hbel _ (Nat.le_refl _))⟩
end Go.Proofs.YtienlndjhcmemaaDoor
/-
  padded of the specification returns the message and its padding.
-/
namespace Go.Proofs.YtienlndjhcmemaaDoor
open Go.RowKit


/-- The place i of an eight byte number. -/
theorem be8_get (m i : Nat) (hi : i < 8) : (be8 m)[i]? = some (UInt8.ofNat (m / 2 ^ (56 - 8 * i))) := by
  rcases (show i = 0 ∨ i = 1 ∨ i = 2 ∨ i = 3 ∨ i = 4 ∨ i = 5 ∨ i = 6 ∨ i = 7 by omega) with rfl | rfl | rfl | rfl | rfl | rfl | rfl | rfl <;> simp [be8]
theorem be8_next (m i : Nat) (hi : i < 8) : (be8 m).take i ++ [UInt8.ofNat (m / 2 ^ (56 - 8 * i))] = (be8 m).take (i + 1) := by
  have h := be8_get m i hi
  have hl : i < (be8 m).length := by show i < 8; exact hi
  rw [List.getElem?_eq_getElem hl] at h
  rw [List.take_succ_eq_append_getElem hl, Option.some.inj h]
theorem pad_done (n k : Nat) (hk : k ≤ padLen n - 1) : ((n + 1 + k) % 64 = 56) ↔ k = padLen n - 1 := by
  unfold padLen at *
  by_cases h : n % 64 < 56
  · rw [if_pos h] at *; omega
  · rw [if_neg h] at *; omega
theorem padLen_pos (n : Nat) : 1 ≤ padLen n ∧ padLen n ≤ 64 := by unfold padLen; split <;> omega
theorem shr_byte (n i : Nat) : Value.int .u8 (8 * (n : Int) / 2 ^ (56 - 8 * i) % 256) = bc (UInt8.ofNat (8 * n / 2 ^ (56 - 8 * i))) := by
  unfold bc
  congr 1

set_option maxRecDepth 100000 in
set_option maxHeartbeats 1000000 in
theorem padded_any (l : List UInt8) (A : Option Addr) (n c B : Nat) (w : World) (hr : Rd w B 1 A n c (bcs l)) (hB : B ≤ w.heap.size) (hn : n ≤ 1099511627776) :
    Calls Tryd.prog 70 #[.slice A n c] w (RetRow w 5 1 (l ++ padding l.length).length (bcs (l ++ padding l.length))) := by
  have hl : l.length = n := by have := hr.len; simpa [bcs] using this
  have HL := Lib.hid hl
  clear hl
  generalize hN : (l ++ padding l.length).length = N
  generalize hX : bcs (l ++ padding l.length) = X
  have HN := Lib.hid hN
  have HX := Lib.hid hX
  clear hN hX
  have hown0 := World.ownsRow_lit (base := w.heap.size) (e := 5) (size := 1) w #[] 0 (Nat.le_refl _) (by unfold maxLen; omega) rfl
  have hb0 : Below w.heap.size w (w.alloc (.cells #[] 5)) := (Below.refl _ _).alloc (Nat.le_refl _) _
  go_enter Tryd.func70, Tryd.ntmps70
  go_wp2_with (at_builtin; with_reducible refine appR _ _ Tryd.sl_u8 (wn rfl) rfl rfl rfl hown0 (hr.alloc hB _) (bcs_one l) hb0 (Nat.le_refl _) (by omega) (by omega) ?_)
  intro v1 w1 hown hb _
  clear hown0 hb0 hr
  have hp := padLen_pos n
  go_wp2_with (at_builtin; with_reducible refine app1 _ _ Tryd.sl_u8 (wn rfl) rfl rfl rfl hown hb (Nat.le_refl _) rfl (by omega) (by omega) ?_)
  intro v2 w2 hown2 hb2 _
  clear hown hb
  go_wp2_with fail
  go_loopw [3] (fun v wr => ∃ k : Nat, k ≤ padLen n - 1 ∧ wr.ownsRow w.heap.size 5 1 v (n + 1 + k) (bcs (l ++ 128 :: List.replicate k 0)) ∧ Below w.heap.size w wr) (fun v _ => padLen n - (match v with | .slice _ m _ => m - n | _ => 0))
  case atStart => exact ⟨0, by omega, ownsRow_count hown2 rfl (by rw [show (Value.int .u8 128) = bc 128 from rfl, bcs_snoc]; rfl), hb2⟩
  case round =>
    clear hown2 hb2
    obtain ⟨k, hk, hown, hb⟩ := hrel
    obtain ⟨A3, c3, rfl, _⟩ := Rd.of_own hown
    have hpd := pad_done n k hk
    by_cases hd : k = padLen n - 1
    · have hd' : (n + 1 + k) % 64 = 56 := hpd.2 hd
      have HD := Lib.hid hd
      have hbq : (((n : Int) + 1 + (k : Int)) % 64 != 56) = false := by rw [bne_eq_false_iff_eq]; omega
      clear hpd hd hd'
      go_wp2_with fail
      clear hbq
      go_loopw [3, 5] (fun v iv_ wr => ∃ i : Nat, i ≤ 8 ∧ iv_ = .int .i64 i ∧ wr.ownsRow w.heap.size 5 1 v (n + 1 + k + i) (bcs (l ++ 128 :: (List.replicate k 0 ++ (be8 (8 * n)).take i))) ∧ Below w.heap.size w wr) (fun _ iv_ _ => 8 - (intOf iv_).toNat)
      case atStart => exact ⟨0, by omega, rfl, by simpa using hown, hb⟩
      case round =>
        clear hown hb
        rename_i wo wr
        obtain ⟨i, hi8, rfl, hown, hb⟩ := hrel
        obtain ⟨A4, c4, rfl, _⟩ := Rd.of_own hown
        by_cases hi : i < 8
        · have e1 : (56 - 8 * (i : Int)).toNat = 56 - 8 * i := by omega
          go_wp2_with (at_builtin; with_reducible refine app1 _ _ Tryd.sl_u8 (wn rfl) rfl rfl rfl hown hb (Nat.le_refl _) rfl (by omega) (by omega) ?_)
          intro v5 w5 hown5 hb5 _
          rw [shr_byte, bcs_snoc] at hown5
          clear hown hb
          have hnx := be8_next (8 * n) i hi
          have HNX := Lib.hid hnx
          clear hnx
          go_wp2_with fail
          go_roundw
          case rel => exact ⟨i + 1, by omega, by go_num, ownsRow_count hown5 (by omega) (by rw [← HNX.out]; congr 1; simp), hb5⟩
          case measure => simp [intOf]; omega
        · obtain rfl : i = 8 := by omega
          have hfin : N = n + 1 + k + 8 ∧ X = bcs (l ++ 128 :: (List.replicate k 0 ++ (be8 (8 * n)).take 8)) := by
            rw [← HN.out, ← HX.out, HL.out, HD.out]
            refine ⟨?_, rfl⟩
            unfold padding
            simp [be8, HL.out]
            omega
          have HF := Lib.hid hfin
          clear hfin
          go_wp2_with fail
          go_ret
          exact ⟨_, rfl, ownsRow_count hown HF.out.1.symm HF.out.2.symm, hb⟩
    · have hd' : ¬ (n + 1 + k) % 64 = 56 := fun h => hd (hpd.1 h)
      have hk' : k < padLen n - 1 := by omega
      clear hpd hd
      go_wp2_with (at_builtin; with_reducible refine app1 _ _ Tryd.sl_u8 (wn rfl) rfl rfl rfl hown hb (Nat.le_refl _) rfl (by omega) (by omega) ?_)
      intro v5 w5 hown5 hb5 _
      clear hown hb
      obtain ⟨A5, c5, rfl, _⟩ := Rd.of_own hown5
      go_wp2_with fail
      go_roundw
      case rel => exact ⟨k + 1, by omega, ownsRow_count hown5 (by omega) (by rw [show (Value.int .u8 0) = bc 0 from rfl, bcs_snoc]; congr 1; rw [List.append_assoc, List.cons_append, ← List.replicate_succ']), hb5⟩
      case measure => simp; omega
end Go.Proofs.YtienlndjhcmemaaDoor
/-
  compress returns what compr gives.
-/
namespace Go.Proofs.YtienlndjhcmemaaDoor
open Go.RowKit

/-- The state behind i rounds of the last loop. -/
def finL (s r : St) (i : Nat) : List Value := (List.range 8).map fun j => wv (if j % 4 < i then add32 (nth s.list j) (nth r.list j) else nth s.list j)
theorem finL_0 (s r : St) : finL s r 0 = s.vals := rfl
theorem finL_4 (s r : St) : finL s r 4 = (s.add r).vals := rfl
theorem finL_lo (s r : St) {i : Nat} (h : i < 4) : (finL s r i)[i]? = some (wv (nth s.list i)) := by
  rcases (show i = 0 ∨ i = 1 ∨ i = 2 ∨ i = 3 by omega) with rfl | rfl | rfl | rfl <;> rfl
theorem finL_hi (s r : St) (x : Nat) {i : Nat} (h : i < 4) : ((finL s r i).set i (wv x))[i + 4]? = some (wv (nth s.list (i + 4))) := by
  rcases (show i = 0 ∨ i = 1 ∨ i = 2 ∨ i = 3 by omega) with rfl | rfl | rfl | rfl <;> rfl
theorem va_get (r : St) {i : Nat} (h : i < 4) : r.va[i]? = some (wv (nth r.list i)) := by
  rcases (show i = 0 ∨ i = 1 ∨ i = 2 ∨ i = 3 by omega) with rfl | rfl | rfl | rfl <;> rfl
theorem ve_get (r : St) {i : Nat} (h : i < 4) : r.ve[i]? = some (wv (nth r.list (i + 4))) := by
  rcases (show i = 0 ∨ i = 1 ∨ i = 2 ∨ i = 3 by omega) with rfl | rfl | rfl | rfl <;> rfl
theorem finL_next (s r : St) {i : Nat} (h : i < 4) : ((finL s r i).set i (wv (add32 (nth s.list i) (nth r.list i)))).set (i + 4) (wv (add32 (nth s.list (i + 4)) (nth r.list (i + 4)))) = finL s r (i + 1) := by
  rcases (show i = 0 ∨ i = 1 ∨ i = 2 ∨ i = 3 by omega) with rfl | rfl | rfl | rfl <;> rfl
theorem wv_add (a b : Nat) : Value.int .u32 (((a : Int) + (b : Int)) % 4294967296) = wv (add32 a b) := by simp [wv, add32]
/-- What memory holds in the loop over the rounds. -/
structure CM (w wr : World) (g4 g5 g6 g7 : Nat) (s : St) (l : List UInt8) (v e : List Value) : Prop where
  hA6 : Arr wr g6 93 v
  hA7 : Arr wr g7 93 e
  hA5 : Arr wr g5 90 (wvs (sched l 64))
  hA2 : Arr wr w.heap.size 69 s.vals
  hA4 : Arr wr g4 69 zeros8
  hb : Below w.heap.size w wr
theorem CM.drewN {w wr : World} {g4 g5 g6 g7 : Nat} {s : St} {l : List UInt8} {v e : List Value} (h : CM w wr g4 g5 g6 g7 s l v e) (n : Nat) : CM w (wr.drewN n) g4 g5 g6 g7 s l v e :=
  ⟨h.hA6, h.hA7, h.hA5, h.hA2, h.hA4, ⟨h.hb.os, h.hb.tape, h.hb.output, h.hb.size, h.hb.block⟩⟩
set_option maxRecDepth 100000 in
set_option maxHeartbeats 1000000 in
theorem compress_any (s : St) (l : List UInt8) (A : Option Addr) (n c B : Nat) (w : World) (hs : s.ok) (ht : Tabs w) (hr : Rd w B 1 A n c (bcs l)) (hB : B ≤ w.heap.size) (hn : 64 ≤ n) :
    Calls Tryd.prog 66 #[.agg s.vals.toArray, .slice A n c] w fun e w' => e = .returned (.agg (compr s l).vals.toArray) ∧ Below w.heap.size w w' := by
  go_enter Tryd.func66, Tryd.ntmps66
  go_wp2_with (first | (with_reducible refine bxArr (cs := s.vals) (.tmp 0) (wn rfl) rfl rfl ?_) | (with_reducible refine alArr (z := zeros8) Tryd.ag_w8 (wn rfl) rfl ?_))
  intro w1 hA2' hb1
  go_wp2_with (first | (with_reducible refine alArr (z := zeros8) Tryd.ag_w8 (wn rfl) rfl ?_))
  intro w2 hA4 hb2
  have h12 : w.heap.size < w1.heap.size := hA2'.lt
  have hA2 := hA2'.below hb2 hA2'.lt
  have hb := hb1.trans (hb2.mono hb1.size)
  have h24 : w1.heap.size < w2.heap.size := hA4.lt
  clear hb1 hA2' hb2
  generalize w1.heap.size = g4 at *
  go_wp2_with fail
  refine (schedule_any l A n c B _ (hr.below (hb.mono hB)) (by have := hb.size; omega) hn).mono ?_
  rintro e w3 ⟨rfl, hb3⟩
  have hA2 := hA2.below hb3 hA2.lt
  have hA4 := hA4.below hb3 hA4.lt
  have h3 := hb3.size
  have hb := hb.trans (hb3.mono hb.size)
  clear hb3
  go_wp2_with (first | (with_reducible refine alArr (z := zeros64) Tryd.ag_w64 (wn rfl) rfl ?_) )
  intro w4 hA5 hb4
  have h5 : w3.heap.size < w4.heap.size := hA5.lt
  have hA2 := hA2.below hb4 hA2.lt
  have hA4 := hA4.below hb4 hA4.lt
  have hb := hb.trans (hb4.mono hb.size)
  clear hb4
  generalize w3.heap.size = g5 at *
  go_wp2_with (first | (with_reducible refine stArr (.tmp 5) (.tmp 14) Tryd.ag_w64 (wn rfl) rfl rfl rfl hA5 (by simp [zeros64]) (by simp [wvs, sched_len]) (wvs_one _) ?_))
  intro w5 hA5 hkeep hbel
  have hA2 := hkeep _ _ _ (by omega) hA2
  have hA4 := hkeep _ _ _ (by omega) hA4
  have hb := hb.trans (hbel _ (by omega))
  have hsz : w4.heap.size ≤ w5.heap.size := (hbel 0 (Nat.zero_le _)).size
  clear hkeep hbel
  go_wp2_with fail
  refine rgStart (fun w' => Arr w' w.heap.size 69 s.vals) (by kernel_rfl) ?_
  refine rgTake (i := 0) (v := .slice (some ⟨w.heap.size, 0, none⟩) 4 8) rfl (by kernel_rfl) (wn rfl) (fun _ _ _ h => h) (fun w _ => by kernel_rfl) hA2.drew ?_
  refine rgTake (i := 1) (v := .pointer (some ⟨w.heap.size, 0, none⟩)) rfl (by kernel_rfl) (wn rfl) (fun _ _ _ h => h) (fun w _ => by kernel_rfl) hA2.drew ?_
  refine rgTake (i := 3) (v := .slice (some ⟨w.heap.size, 4, none⟩) 4 4) rfl (by kernel_rfl) (wn rfl) (fun _ _ _ h => h) (fun w _ => by kernel_rfl) hA2.drew ?_
  refine rgTake (i := 4) (v := .pointer (some ⟨w.heap.size, 4, none⟩)) rfl (by kernel_rfl) (wn rfl) (fun _ _ _ h => h) (fun w _ => by kernel_rfl) hA2.drew ?_
  refine rgLoad (i := 2) (.tmp 16) s.va Tryd.ag_w4 rfl (by kernel_rfl) (wn rfl) (fun _ _ _ h => h) rfl rfl rfl (fun w' hw j u hu => hw.cell (by rw [s.vals_eq, Nat.zero_add, List.getElem?_append_left (List.getElem?_eq_some_iff.1 hu).1]; exact hu)) hA2.drew ?_
  refine rgLoad (i := 5) (.tmp 19) s.ve Tryd.ag_w4 rfl (by kernel_rfl) (wn rfl) (fun _ _ _ h => h) rfl rfl rfl (fun w' hw j u hu => hw.cell (by rw [s.vals_eq, List.getElem?_append_right (by show 4 ≤ 4 + j; omega)]; show s.ve[4 + j - 4]? = _; rw [Nat.add_sub_cancel_left]; exact hu)) hA2.drew ?_
  refine rgAlloc2 (i := 6) (j := 7) (zi := zeros4) (zj := zeros4) Tryd.ag_w4 Tryd.ag_w4 (by kernel_rfl) rfl rfl (by kernel_rfl) (by kernel_rfl) rfl rfl rfl rfl (by decide) (by decide) (fun w' h => hA2.drew.below h hA2.lt) ?_
  intro g6 g7 w6 h67 h6 h7 hA6 hA7 hb6
  have hb6 : Below w5.heap.size w5 w6 := ⟨hb6.os, hb6.tape, hb6.output, hb6.size, hb6.block⟩
  have h6 : w5.heap.size ≤ g6 := h6
  have h7 : w5.heap.size ≤ g7 := h7
  have hA2 := hA2.below hb6 hA2.lt
  have hA4 := hA4.below hb6 hA4.lt
  have hA5 := hA5.below hb6 hA5.lt
  have hb := hb.trans (hb6.mono hb.size)
  clear hb6
  refine rgNext (i := 8) (by kernel_rfl) rfl ?_
  refine stArr (b := g6) (cs := s.va) (.tmp 6) (.tmp 17) Tryd.ag_w4 (wn rfl) rfl (by kernel_rfl) (by kernel_rfl) hA6 rfl rfl (wvs_one _) ?_
  intro w7 hA6 hkeep hbel
  have hA2 := hkeep _ _ _ (by omega) hA2
  have hA4 := hkeep _ _ _ (by omega) hA4
  have hA5 := hkeep _ _ _ (by omega) hA5
  have hA7 := hkeep _ _ _ (Ne.symm h67) hA7
  have hb := hb.trans (hbel _ (by omega))
  clear hkeep hbel
  refine rgBack hA2 ?_
  refine rgNext (i := 9) (by kernel_rfl) rfl ?_
  refine stArr (b := g7) (cs := s.ve) (.tmp 7) (.tmp 20) Tryd.ag_w4 (wn rfl) rfl (by kernel_rfl) (by kernel_rfl) hA7 rfl rfl (wvs_one _) ?_
  intro w8 hA7 hkeep hbel
  have hA2 := hkeep _ _ _ (by omega) hA2
  have hA4 := hkeep _ _ _ (by omega) hA4
  have hA5 := hkeep _ _ _ (by omega) hA5
  have hA6 := hkeep _ _ _ h67 hA6
  have hb := hb.trans (hbel _ (by omega))
  clear hkeep hbel
  refine rgBack hA2 ?_
  refine rgDone (by kernel_rfl) ?_
  have ht8 := ht.below hb ht.size
  go_wp2_with (first | (with_reducible refine ldAgg (b := 1) (off := 0) (.global 1) (wvs shaK) Tryd.ag_w64 (wn rfl) rfl rfl rfl ht8.own ?_))
  have hlt2 : w.heap.size < w8.heap.size := hA2.lt
  have HN : w.heap.size ≤ g5 ∧ w.heap.size ≤ g6 ∧ w.heap.size ≤ g7 ∧ g4 ≠ g6 ∧ g4 ≠ g7 ∧ g5 ≠ g6 ∧ g5 ≠ g7 ∧ g6 ≠ g7 ∧ w.heap.size ≠ g6 ∧ w.heap.size ≠ g7 ∧ g4 ≠ w.heap.size := ⟨by omega, by omega, by omega, by omega, by omega, by omega, by omega, h67, by omega, by omega, by omega⟩
  clear hr hB hn h24 h3 h5 hsz h6 h7 ht8 hlt2
  go_loopw [22] (fun iv_ wr => ∃ t : Nat, t ≤ 64 ∧ iv_ = .int .i64 t ∧ CM w wr g4 g5 g6 g7 s l (rounds (sched l 64) s t).va (rounds (sched l 64) s t).ve) (fun iv_ _ => 64 - (intOf iv_).toNat)
  case atStart => exact ⟨0, by omega, rfl, hA6, hA7, hA5, hA2, hA4, hb⟩
  case round =>
    clear hA2 hA4 hA5 hA6 hA7 hb
    obtain ⟨t, ht64, rfl, hM⟩ := hrel
    obtain ⟨n1, n2, n3, n4, n5, n6, n7, n8, n9, n10, n11⟩ := HN
    by_cases h64 : t < 64
    · have hok := rounds_ok (sched l 64) hs t
      have hnx : rounds (sched l 64) s (t + 1) = step1 (rounds (sched l 64) s t) (nth shaK t) (nth (sched l 64) t) := rfl
      have HNX := Lib.hid hnx
      clear hnx
      rcases hst : rounds (sched l 64) s t with ⟨va, vb, vc, vd, ve, vf, vg, vh⟩
      rw [hst] at hok hM HNX
      obtain ⟨ka, kb, kc, kd, ke, kf, kg, kh⟩ := hok
      clear hst
      have e0 := hM.hA7.cell (i := 0) (v := .int .u32 ve) rfl
      have e1 := hM.hA7.cell (i := 1) (v := .int .u32 vf) rfl
      have e2 := hM.hA7.cell (i := 2) (v := .int .u32 vg) rfl
      have e3 := hM.hA7.cell (i := 3) (v := .int .u32 vh) rfl
      have cw : wr.cell? ⟨g5, t, none⟩ = some (.int .u32 (nth (sched l 64) t)) := hM.hA5.cell (wvs_get (by rw [sched_len]; exact h64))
      have hix := run_index_shaK t h64
      have xk := nth_lt shaK_lt t
      have xw := nth_lt (sched_lt l 64) t
      generalize nth (sched l 64) t = wt at *
      generalize nth shaK t = kt at *
      go_wp2_with fail
      go_quiet ((go_at_call 74; exact mix_q ve _ _ _ _ _ ke (by omega) (by omega) (by omega)))
      rw [x_bits va vb vc vd ve vf vg vh kt wt ke kf kg]
      obtain ⟨xv, hxv⟩ : ∃ xv, xv = stX ⟨va, vb, vc, vd, ve, vf, vg, vh⟩ kt wt := ⟨_, rfl⟩
      rw [← hxv]
      have HX := Lib.hid hxv
      clear hxv e0 e1 e2 e3 cw hix
      obtain ⟨wq, hwq⟩ : ∃ wq, wq = wr.drewN nq := ⟨_, rfl⟩
      rw [← hwq]
      have hM : CM w wq g4 g5 g6 g7 s l _ _ := hwq ▸ hM.drewN nq
      clear hwq
      have v0 := hM.hA6.cell (i := 0) (v := .int .u32 va) rfl
      have v1 := hM.hA6.cell (i := 1) (v := .int .u32 vb) rfl
      have v2 := hM.hA6.cell (i := 2) (v := .int .u32 vc) rfl
      go_wp2_with fail
      go_quiet ((go_at_call 74; exact mix_q va _ _ _ _ _ ka (by omega) (by omega) (by omega)))
      rw [y_bits va vb vc vd ve vf vg vh ka kb kc]
      obtain ⟨yv, hyv⟩ : ∃ yv, yv = stY ⟨va, vb, vc, vd, ve, vf, vg, vh⟩ := ⟨_, rfl⟩
      rw [← hyv]
      have HY := Lib.hid hyv
      clear hyv v0 v1 v2
      obtain ⟨wp, hwp⟩ : ∃ wp, wp = wq.drewN nq := ⟨_, rfl⟩
      rw [← hwp]
      have hM : CM w wp g4 g5 g6 g7 s l _ _ := hwp ▸ hM.drewN nq
      clear hwp
      have v3 := hM.hA6.cell (i := 3) (v := .int .u32 vd) rfl
      have e0 := hM.hA7.cell (i := 0) (v := .int .u32 ve) rfl
      have e1 := hM.hA7.cell (i := 1) (v := .int .u32 vf) rfl
      have e2 := hM.hA7.cell (i := 2) (v := .int .u32 vg) rfl
      have y1 : Value.agg #[.int .u32 (((vd : Int) + (xv : Int)) % 4294967296), .int .u32 (ve : Int), .int .u32 (vf : Int), .int .u32 (vg : Int)] = .agg (wvs [add32 vd xv, ve, vf, vg]).toArray := by simp [wvs, wv, add32]
      have y2 : Value.agg #[.int .u32 (((xv : Int) + (yv : Int)) % 4294967296), .int .u32 (va : Int), .int .u32 (vb : Int), .int .u32 (vc : Int)] = .agg (wvs [add32 xv yv, va, vb, vc]).toArray := by simp [wvs, wv, add32]
      have Y1 := Lib.hid y1
      have Y2 := Lib.hid y2
      clear y1 y2
      go_wp2_with (with_reducible refine stArr (b := g7) (cs := wvs [add32 vd xv, ve, vf, vg]) (.tmp 7) (.tmp 82) Tryd.ag_w4 (wn rfl) rfl rfl ?hy hM.hA7 rfl rfl (wvs_one _) ?hk)
      case hy => exact Y1.out
      intro wa hA7 hkeep hbel
      have hM : CM w wa g4 g5 g6 g7 s l _ _ := ⟨hkeep _ _ _ n8 hM.hA6, hA7, hkeep _ _ _ n7 hM.hA5, hkeep _ _ _ n10 hM.hA2, hkeep _ _ _ n5 hM.hA4, hM.hb.trans (hbel _ n3)⟩
      clear hA7 hkeep hbel v3 e0 e1 e2
      have v0 := hM.hA6.cell (i := 0) (v := .int .u32 va) rfl
      have v1 := hM.hA6.cell (i := 1) (v := .int .u32 vb) rfl
      have v2 := hM.hA6.cell (i := 2) (v := .int .u32 vc) rfl
      go_wp2_with (with_reducible refine stArr (b := g6) (cs := wvs [add32 xv yv, va, vb, vc]) (.tmp 6) (.tmp 92) Tryd.ag_w4 (wn rfl) rfl rfl ?hy2 hM.hA6 rfl rfl (wvs_one _) ?hk2)
      case hy2 => exact Y2.out
      intro wb hA6 hkeep hbel
      have hM : CM w wb g4 g5 g6 g7 s l _ _ := ⟨hA6, hkeep _ _ _ (Ne.symm n8) hM.hA7, hkeep _ _ _ n6 hM.hA5, hkeep _ _ _ n9 hM.hA2, hkeep _ _ _ n4 hM.hA4, hM.hb.trans (hbel _ n2)⟩
      clear hA6 hkeep hbel v0 v1 v2
      go_wp2_with fail
      go_roundw
      case rel =>
        refine ⟨t + 1, by omega, by go_num, ?_⟩
        rw [HNX.out]
        have e1 : (step1 ⟨va, vb, vc, vd, ve, vf, vg, vh⟩ kt wt).va = wvs [add32 xv yv, va, vb, vc] := by rw [HX.out, HY.out]; rfl
        have e2 : (step1 ⟨va, vb, vc, vd, ve, vf, vg, vh⟩ kt wt).ve = wvs [add32 vd xv, ve, vf, vg] := by rw [HX.out]; rfl
        rw [e1, e2]
        exact hM
      case measure => (simp [intOf]; try omega)
    · obtain rfl : t = 64 := by omega
      have hr4 : compr s l = s.add (rounds (sched l 64) s 64) := rfl
      have HR := Lib.hid hr4
      clear hr4
      generalize rounds (sched l 64) s 64 = r at *
      obtain ⟨hA6, hA7, _, hA2, hA4, hb⟩ := hM
      rw [← finL_0 s r] at hA2
      go_wp2_with fail
      go_loopw [94] (fun iv_ wr => ∃ i : Nat, i ≤ 4 ∧ iv_ = .int .i64 i ∧ Arr wr g6 93 r.va ∧ Arr wr g7 93 r.ve ∧ Arr wr w.heap.size 69 (finL s r i) ∧ Arr wr g4 69 zeros8 ∧ Below w.heap.size w wr) (fun iv_ _ => 4 - (intOf iv_).toNat)
      case atStart => exact ⟨0, by omega, rfl, hA6, hA7, hA2, hA4, hb⟩
      case round =>
        clear hA6 hA7 hA2 hA4 hb
        rename_i wo wr
        obtain ⟨i, hi4, rfl, hA6, hA7, hA2, hA4, hb⟩ := hrel
        by_cases hi : i < 4
        · have c1 : wr.cell? ⟨w.heap.size, i, none⟩ = some (.int .u32 (nth s.list i)) := hA2.cell (finL_lo s r hi)
          have c2 : wr.cell? ⟨g6, i, none⟩ = some (.int .u32 (nth r.list i)) := hA6.cell (va_get r hi)
          have f1 := hA2.thaw i
          go_wp2_with fail
          go_region
          rw [wv_add]
          obtain ⟨wq, hwq⟩ : ∃ wq, wq = (wr.setCell ⟨w.heap.size, i, none⟩ (wv (add32 (nth s.list i) (nth r.list i)))).drew := ⟨_, rfl⟩
          rw [← hwq]
          have hA2 : Arr wq w.heap.size 69 ((finL s r i).set i (wv (add32 (nth s.list i) (nth r.list i)))) := hwq ▸ (hA2.set i _).drew
          have hA6 : Arr wq g6 93 r.va := hwq ▸ (hA6.other n9 i _).drew
          have hA7 : Arr wq g7 93 r.ve := hwq ▸ (hA7.other n10 i _).drew
          have hA4 : Arr wq g4 69 zeros8 := hwq ▸ (hA4.other (Ne.symm n11) i _).drew
          have hb : Below w.heap.size w wq := hwq ▸ (hb.setCell (p := ⟨w.heap.size, i, none⟩) (Nat.le_refl _) _).drew
          clear hwq c1 c2 f1
          have c1 : wq.cell? ⟨w.heap.size, i + 4, none⟩ = some (.int .u32 (nth s.list (i + 4))) := hA2.cell (finL_hi s r _ hi)
          have c2 : wq.cell? ⟨g7, i, none⟩ = some (.int .u32 (nth r.list (i + 4))) := hA7.cell (ve_get r hi)
          have f1 := hA2.thaw (i + 4)
          have i4 : ((i : Int) + 4).toNat = i + 4 := by omega
          go_wp2_with fail
          go_region
          rw [wv_add]
          obtain ⟨wp, hwp⟩ : ∃ wp, wp = (wq.setCell ⟨w.heap.size, i + 4, none⟩ (wv (add32 (nth s.list (i + 4)) (nth r.list (i + 4))))).drew := ⟨_, rfl⟩
          rw [← hwp]
          have hA2 : Arr wp w.heap.size 69 (finL s r (i + 1)) := hwp ▸ finL_next s r hi ▸ (hA2.set (i + 4) _).drew
          have hA6 : Arr wp g6 93 r.va := hwp ▸ (hA6.other n9 (i + 4) _).drew
          have hA7 : Arr wp g7 93 r.ve := hwp ▸ (hA7.other n10 (i + 4) _).drew
          have hA4 : Arr wp g4 69 zeros8 := hwp ▸ (hA4.other (Ne.symm n11) (i + 4) _).drew
          have hb : Below w.heap.size w wp := hwp ▸ (hb.setCell (p := ⟨w.heap.size, i + 4, none⟩) (Nat.le_refl _) _).drew
          clear hwp c1 c2 f1
          go_wp2_with fail
          go_roundw
          case rel => exact ⟨i + 1, by omega, by go_num, hA6, hA7, hA2, hA4, hb⟩
          case measure => (simp [intOf]; try omega)
        · obtain rfl : i = 4 := by omega
          rw [finL_4] at hA2
          go_wp2_with (first | (with_reducible refine ldArr (.tmp 2) Tryd.ag_w8 (wn rfl) rfl rfl rfl hA2 ?_) | (with_reducible refine stArr (.tmp 4) (.tmp 115) Tryd.ag_w8 (wn rfl) rfl rfl rfl hA4 (by simp [zeros8]) rfl (wvs_one _) ?_))
          intro wz hA4 hkeep hbel
          go_wp2_with fail
          refine bodyPost_ret (v := .agg (compr s l).vals.toArray) ?_ rfl ⟨rfl, hb.trans (hbel _ (by omega))⟩
          rw [HR.out]
          exact res_cell1 (s.add r).vals Tryd.results66 Tryd.ag_w8 _ rfl rfl (fun j u hu => by rw [Nat.zero_add]; exact hA4.cell hu)
end Go.Proofs.YtienlndjhcmemaaDoor
