/-
  SHA-256 as plain functions: the schedule, the rounds, the blocks. No program in sight.
-/
import Derived.Test.YthmhmjdppldmiaaDoorHashSpec
namespace Go.Proofs.YthmhmjdppldmiaaDoor
open Go.RowKit

def sha0 : List Nat := [1779033703, 3144134277, 1013904242, 2773480762, 1359893119, 2600822924, 528734635, 1541459225]
def shaK : List Nat := [1116352408, 1899447441, 3049323471, 3921009573, 961987163, 1508970993, 2453635748, 2870763221, 3624381080, 310598401, 607225278, 1426881987, 1925078388, 2162078206, 2614888103, 3248222580, 3835390401, 4022224774, 264347078, 604807628, 770255983, 1249150122, 1555081692, 1996064986, 2554220882, 2821834349, 2952996808, 3210313671, 3336571891, 3584528711, 113926993, 338241895, 666307205, 773529912, 1294757372, 1396182291, 1695183700, 1986661051, 2177026350, 2456956037, 2730485921, 2820302411, 3259730800, 3345764771, 3516065817, 3600352804, 4094571909, 275423344, 430227734, 506948616, 659060556, 883997877, 958139571, 1322822218, 1537002063, 1747873779, 1955562222, 2024104815, 2227730452, 2361852424, 2428436474, 2756734187, 3204031479, 3329325298]
def nth (l : List Nat) (i : Nat) : Nat := (l[i]?).getD 0
/-- The word that the schedule has at place t, out of those ahead of it. -/
def schedNext (s : List Nat) (t : Nat) : Nat :=
  add32 (add32 (add32 (nth s (t - 16)) ((rotr (nth s (t - 15)) 7 ^^^ rotr (nth s (t - 15)) 18) ^^^ nth s (t - 15) / 8)) (nth s (t - 7))) ((rotr (nth s (t - 2)) 17 ^^^ rotr (nth s (t - 2)) 19) ^^^ nth s (t - 2) / 1024)
def byteAt (l : List UInt8) (i : Nat) : Nat := ((l[i]?).getD 0).toNat
def schedFirst (l : List UInt8) (t : Nat) : Nat := word4 (byteAt l (4 * t)) (byteAt l (4 * t + 1)) (byteAt l (4 * t + 2)) (byteAt l (4 * t + 3))
/-- The first t words of a block's schedule. -/
def sched (l : List UInt8) : Nat → List Nat
  | 0 => []
  | t + 1 => sched l t ++ [if t < 16 then schedFirst l t else schedNext (sched l t) t]
structure St where
  (a b c d e f g h : Nat)
def St.ok (s : St) : Prop := s.a < 4294967296 ∧ s.b < 4294967296 ∧ s.c < 4294967296 ∧ s.d < 4294967296 ∧ s.e < 4294967296 ∧ s.f < 4294967296 ∧ s.g < 4294967296 ∧ s.h < 4294967296
def stX (s : St) (k w : Nat) : Nat := add32 (add32 (add32 (add32 s.h (mix3 s.e 6 11 25)) (chf s.e s.f s.g)) k) w
def stY (s : St) : Nat := add32 (mix3 s.a 2 13 22) (maj s.a s.b s.c)
def step1 (s : St) (k w : Nat) : St := ⟨add32 (stX s k w) (stY s), s.a, s.b, s.c, add32 s.d (stX s k w), s.e, s.f, s.g⟩
def rounds (w : List Nat) (s : St) : Nat → St
  | 0 => s
  | t + 1 => step1 (rounds w s t) (nth shaK t) (nth w t)
def St.add (s t : St) : St := ⟨add32 s.a t.a, add32 s.b t.b, add32 s.c t.c, add32 s.d t.d, add32 s.e t.e, add32 s.f t.f, add32 s.g t.g, add32 s.h t.h⟩
def St.list (s : St) : List Nat := [s.a, s.b, s.c, s.d, s.e, s.f, s.g, s.h]
def St.of (l : List Nat) : St := ⟨nth l 0, nth l 1, nth l 2, nth l 3, nth l 4, nth l 5, nth l 6, nth l 7⟩
/-- What compress computes. -/
def compr (s : St) (b : List UInt8) : St := s.add (rounds (sched b 64) s 64)
/-- The state behind n whole blocks. -/
def blocks (l : List UInt8) (s : St) : Nat → St
  | 0 => s
  | n + 1 => compr (blocks l s n) ((l.drop (64 * n)).take 64)
def padLen (n : Nat) : Nat := if n % 64 < 56 then 56 - n % 64 else 120 - n % 64
def be8 (n : Nat) : List UInt8 := [UInt8.ofNat (n / 2 ^ 56), UInt8.ofNat (n / 2 ^ 48), UInt8.ofNat (n / 2 ^ 40), UInt8.ofNat (n / 2 ^ 32), UInt8.ofNat (n / 2 ^ 24), UInt8.ofNat (n / 2 ^ 16), UInt8.ofNat (n / 2 ^ 8), UInt8.ofNat n]
/-- What is added to a message of n bytes. -/
def padding (n : Nat) : List UInt8 := 128 :: (List.replicate (padLen n - 1) 0 ++ be8 (8 * n))
def outOf (s : St) : List UInt8 := (s.list.map fun w => [UInt8.ofNat (w / 16777216), UInt8.ofNat (w / 65536), UInt8.ofNat (w / 256), UInt8.ofNat w]).flatten
/-- The hash of a message. -/
def sha (l : List UInt8) : List UInt8 := outOf (blocks (l ++ padding l.length) (St.of sha0) ((l ++ padding l.length).length / 64))

theorem sched_len (l : List UInt8) : ∀ t, (sched l t).length = t
  | 0 => rfl
  | t + 1 => by rw [sched, List.length_append, sched_len l t]; rfl
theorem sched_get (l : List UInt8) {t u : Nat} : ∀ {n : Nat}, t < n → n ≤ u → (sched l u)[t]? = (sched l n)[t]? := by
  intro n h1 h2
  induction u with
  | zero => omega
  | succ u ih =>
    by_cases h : n ≤ u
    · rw [sched, List.getElem?_append_left (by rw [sched_len]; omega)]; exact ih h
    · obtain rfl : n = u + 1 := by omega
      rfl
theorem nth_lt {l : List Nat} (h : ∀ x ∈ l, x < 4294967296) (i : Nat) : nth l i < 4294967296 := by
  unfold nth
  rcases hi : l[i]? with _ | x
  · decide
  · exact h x (List.mem_of_getElem? hi)
theorem word4_lt {a b c d : Nat} (ha : a < 256) (hb : b < 256) (hc : c < 256) (hd : d < 256) : word4 a b c d < 4294967296 := by unfold word4; omega
theorem byteAt_lt (l : List UInt8) (i : Nat) : byteAt l i < 256 := by unfold byteAt; exact UInt8.toNat_lt _
theorem sched_lt (l : List UInt8) : ∀ t, ∀ x ∈ sched l t, x < 4294967296
  | 0, x, h => by cases h
  | t + 1, x, h => by
    rw [sched] at h
    rcases List.mem_append.1 h with h | h
    · exact sched_lt l t x h
    · rw [List.mem_singleton] at h
      subst h
      split
      · exact word4_lt (byteAt_lt _ _) (byteAt_lt _ _) (byteAt_lt _ _) (byteAt_lt _ _)
      · exact add32_lt _ _
theorem step1_ok {s : St} {k w : Nat} (h : s.ok) : (step1 s k w).ok := ⟨add32_lt _ _, h.1, h.2.1, h.2.2.1, add32_lt _ _, h.2.2.2.2.1, h.2.2.2.2.2.1, h.2.2.2.2.2.2.1⟩
theorem rounds_ok (w : List Nat) {s : St} (h : s.ok) : ∀ t, (rounds w s t).ok
  | 0 => h
  | t + 1 => step1_ok (rounds_ok w h t)
theorem add_ok (s t : St) : (s.add t).ok := ⟨add32_lt _ _, add32_lt _ _, add32_lt _ _, add32_lt _ _, add32_lt _ _, add32_lt _ _, add32_lt _ _, add32_lt _ _⟩
theorem compr_ok (s : St) (b : List UInt8) : (compr s b).ok := add_ok _ _
theorem sha0_ok : (St.of sha0).ok := by unfold St.ok; decide
theorem blocks_ok (l : List UInt8) {s : St} (h : s.ok) : ∀ n, (blocks l s n).ok
  | 0 => h
  | _ + 1 => compr_ok _ _
end Go.Proofs.YthmhmjdppldmiaaDoor
