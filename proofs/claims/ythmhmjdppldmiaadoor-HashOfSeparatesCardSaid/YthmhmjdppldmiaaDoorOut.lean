/-
  Words on bytes of a hash and rows of the call's own as blocks: for the walks of Sum. No statement is proved here.
-/
import Derived.Test.YthmhmjdppldmiaaDoorPad
import Derived.Test.YthmhmjdppldmiaaDoorCompress
namespace Go.Proofs.YthmhmjdppldmiaaDoor
open Go.RowKit

theorem outOf_get (s : St) : ∀ i, i < 32 → (outOf s)[i]? = some (UInt8.ofNat (nth s.list (i / 4) / 2 ^ (24 - 8 * (i % 4))))
  | 0, _ => by simp [outOf, St.list, nth]
  | 1, _ => by simp [outOf, St.list, nth]
  | 2, _ => by simp [outOf, St.list, nth]
  | 3, _ => by simp [outOf, St.list, nth]
  | 4, _ => by simp [outOf, St.list, nth]
  | 5, _ => by simp [outOf, St.list, nth]
  | 6, _ => by simp [outOf, St.list, nth]
  | 7, _ => by simp [outOf, St.list, nth]
  | 8, _ => by simp [outOf, St.list, nth]
  | 9, _ => by simp [outOf, St.list, nth]
  | 10, _ => by simp [outOf, St.list, nth]
  | 11, _ => by simp [outOf, St.list, nth]
  | 12, _ => by simp [outOf, St.list, nth]
  | 13, _ => by simp [outOf, St.list, nth]
  | 14, _ => by simp [outOf, St.list, nth]
  | 15, _ => by simp [outOf, St.list, nth]
  | 16, _ => by simp [outOf, St.list, nth]
  | 17, _ => by simp [outOf, St.list, nth]
  | 18, _ => by simp [outOf, St.list, nth]
  | 19, _ => by simp [outOf, St.list, nth]
  | 20, _ => by simp [outOf, St.list, nth]
  | 21, _ => by simp [outOf, St.list, nth]
  | 22, _ => by simp [outOf, St.list, nth]
  | 23, _ => by simp [outOf, St.list, nth]
  | 24, _ => by simp [outOf, St.list, nth]
  | 25, _ => by simp [outOf, St.list, nth]
  | 26, _ => by simp [outOf, St.list, nth]
  | 27, _ => by simp [outOf, St.list, nth]
  | 28, _ => by simp [outOf, St.list, nth]
  | 29, _ => by simp [outOf, St.list, nth]
  | 30, _ => by simp [outOf, St.list, nth]
  | 31, _ => by simp [outOf, St.list, nth]
  | n + 32, h => absurd h (by omega)
theorem outOf_len (s : St) : (outOf s).length = 32 := by simp [outOf, St.list]
def zerosB (n : Nat) : List Value := List.replicate n (.int .u8 0)
theorem Tryd.ag_b32 : AgTy Tryd.prog 24 (zerosB 32).toArray 32 := ⟨by kernel_rfl, by kernel_rfl, by simp [zerosB]⟩
/-- The first i bytes are laid. -/
def laidB (l : List UInt8) (n i : Nat) : List Value := bcs (l.take i) ++ zerosB (n - i)
theorem laidB_0 (l : List UInt8) (n : Nat) : laidB l n 0 = zerosB n := by simp [laidB, bcs]
theorem laidB_n (l : List UInt8) (n : Nat) (h : l.length = n) : laidB l n n = bcs l := by subst h; simp [laidB, zerosB]
theorem laidB_len (l : List UInt8) (n i : Nat) (h : l.length = n) (hi : i ≤ n) : (laidB l n i).length = n := by simp [laidB, zerosB, bcs]; omega
theorem laidB_next (l : List UInt8) (n i : Nat) (b : UInt8) (h : l.length = n) (hb : l[i]? = some b) : (laidB l n i).set i (bc b) = laidB l n (i + 1) := by
  have hi : i < l.length := (List.getElem?_eq_some_iff.1 hb).1
  have e : zerosB (n - i) = .int .u8 0 :: zerosB (n - (i + 1)) := by
    unfold zerosB
    rw [show n - i = (n - (i + 1)) + 1 from by omega, List.replicate_succ]
  have e2 : l.take (i + 1) = l.take i ++ [b] := by
    rw [List.take_succ_eq_append_getElem hi]
    congr 2
    rw [List.getElem?_eq_getElem hi] at hb
    exact Option.some.inj hb
  unfold laidB
  have e4 : (bcs (l.take i)).length = i := by rw [bcs_length, List.length_take]; omega
  have e5 : ∀ (p q : List Value) (x y : Value), (p ++ x :: q).set p.length y = p ++ y :: q := by
    intro p q x y
    induction p with
    | nil => rfl
    | cons a p ih => simp
  have e6 := e5 (bcs (l.take i)) (zerosB (n - (i + 1))) (.int .u8 0) (bc b)
  rw [e4] at e6
  rw [e, e2, bcs_append, e6]
  simp [bcs]
theorem laidB_one (l : List UInt8) (n i : Nat) : ∀ u ∈ laidB l n i, u.oneCell' = true := by
  intro u hu
  rcases List.mem_append.1 hu with h | h
  · exact bcs_one _ u h
  · rw [(List.mem_replicate.1 h).2]; rfl
theorem laidB_at (l : List UInt8) (n i : Nat) (h : l.length = n) (hi : i < n) : (laidB l n i)[i]? = some (.int .u8 0) := by
  unfold laidB
  rw [List.getElem?_append_right (by rw [bcs_length, List.length_take]; omega)]
  have e3 : i - (bcs (l.take i)).length = 0 := by rw [bcs_length, List.length_take]; omega
  rw [e3]
  unfold zerosB
  rw [List.getElem?_replicate, if_pos (by omega)]
theorem out_byte (x e : Nat) : Value.int .u8 ((x : Int) / 2 ^ e % 256) = bc (UInt8.ofNat (x / 2 ^ e)) := by
  have : ((x : Int) / 2 ^ e % 256) = ((x / 2 ^ e % 256 : Nat) : Int) := by
    rw [Int.natCast_emod, Int.natCast_ediv, Int.natCast_pow]
    rfl
  rw [this]
  unfold bc
  congr 1
/-- What a call returned in a new row, not empty: the row's own block. -/
theorem RetRow.arr {w : World} {e : TypeId} {size n : Nat} {xs : List Value} {en : Ending} {w' : World} (h : RetRow w e size n xs en w') (hn : 0 < n) :
    ∃ g c cur, en = .returned (.slice (some ⟨g, 0, none⟩) n c) ∧ w.heap.size ≤ g ∧ n ≤ c ∧ c ≤ maxLen ∧ xs.length = n * size ∧ Arr w' g e cur ∧ (∀ (j : Nat) (u : Value), xs[j]? = some u → cur[j]? = some u) ∧ Below w.heap.size w w' := by
  obtain ⟨v, rfl, ⟨hl, h2⟩, hb⟩ := h
  rcases h2 with ⟨_, rfl⟩ | ⟨g, cap, cur, rfl, hg, hA, hc, hm, hs, ht⟩
  · omega
  · refine ⟨g, cap, cur.toList, rfl, hg, hc, hm, hl, hA, fun j u hu => ?_, hb⟩
    rw [← ht, List.getElem?_take] at hu
    split at hu
    · exact hu
    · cases hu
theorem rd_of_arr {w : World} {B g size n c : Nat} {e : TypeId} {cur xs : List Value} (hA : Arr w g e cur) (hp : ∀ (j : Nat) (u : Value), xs[j]? = some u → cur[j]? = some u) (hl : xs.length = n * size) (hn : n ≤ c) (hc : c ≤ maxLen) (hB : g < B) :
    Rd w B size (some ⟨g, 0, none⟩) n c xs :=
  ⟨hl, hn, hc, fun _ => ⟨g, 0, rfl, hB, fun j u hu => by rw [Nat.zero_add]; exact hA.cell (hp j u hu)⟩⟩
theorem x2_bits (a b c d e f g h k w : Nat) (he : e < 4294967296) (hf : f < 4294967296) (hg : g < 4294967296) :
    (((h : Int) + bits .xor .u32 (bits .xor .u32 ((rotr e 6 : Nat) : Int) ((rotr e 11 : Nat) : Int)) ((rotr e 25 : Nat) : Int) + bits .xor .u32 (bits .and .u32 (e : Int) (f : Int)) (bits .and .u32 (bits .xor .u32 (e : Int) 4294967295) (g : Int)) + (k : Int)) % 4294967296 + (w : Int)) % 4294967296 = ((stX ⟨a, b, c, d, e, f, g, h⟩ k w : Nat) : Int) := by
  have h1 : bits .xor .u32 (e : Int) 4294967295 = ((4294967295 - e : Nat) : Int) := by
    have := u32_xor_n e 4294967295 he (by omega)
    rw [nat_xor_ones 32 e he] at this
    exact this
  rw [h1, u32_and_n _ _ he hf, u32_and_n _ _ (by omega) hg, u32_xor_n _ _ (and_lt32 hf) (and_lt32 hg), u32_xor_n _ _ (rotr_lt e 6 he (by omega)) (rotr_lt e 11 he (by omega)),
    u32_xor_n _ _ (xor_lt32 (rotr_lt e 6 he (by omega)) (rotr_lt e 11 he (by omega))) (rotr_lt e 25 he (by omega))]
  unfold stX add32 mix3 chf
  simp only [Int.natCast_emod, Int.natCast_add]
  omega
theorem y2_bits (a b c d e f g h : Nat) (ha : a < 4294967296) (hb : b < 4294967296) (hc : c < 4294967296) :
    (bits .xor .u32 (bits .xor .u32 ((rotr a 2 : Nat) : Int) ((rotr a 13 : Nat) : Int)) ((rotr a 22 : Nat) : Int) + bits .xor .u32 (bits .xor .u32 (bits .and .u32 (a : Int) (b : Int)) (bits .and .u32 (a : Int) (c : Int))) (bits .and .u32 (b : Int) (c : Int))) % 4294967296 = ((stY ⟨a, b, c, d, e, f, g, h⟩ : Nat) : Int) := by
  rw [maj_bits a b c ha hb hc, u32_xor_n _ _ (rotr_lt a 2 ha (by omega)) (rotr_lt a 13 ha (by omega)),
    u32_xor_n _ _ (xor_lt32 (rotr_lt a 2 ha (by omega)) (rotr_lt a 13 ha (by omega))) (rotr_lt a 22 ha (by omega))]
  unfold stY add32 mix3
  simp only [Int.natCast_emod, Int.natCast_add]
  omega
theorem Tryd.arr_w8 : Tryd.prog.underlying 30 = some (.array 8 29) := by kernel_rfl
theorem Tryd.one_u32 : (Tryd.prog.info? 29).map (·.size) = some 1 := by kernel_rfl
theorem wvs_cells (l : List Nat) : ∀ v ∈ wvs l, v.cells = #[v] := by
  intro v hv
  obtain ⟨x, _, rfl⟩ := List.mem_map.1 hv
  rfl
theorem St.vals_one (s : St) : ∀ u ∈ s.vals, u.oneCell' = true := wvs_one _
theorem St.vals_len (s : St) : s.vals.length = 8 := rfl
theorem zeros8_len : zeros8.length = 8 := rfl
theorem zerosB_len (n : Nat) : (zerosB n).length = n := by simp [zerosB]
/-- The state behind i rounds of the last loop. -/
def fin8 (s r : St) (i : Nat) : List Value := (List.range 8).map fun j => wv (if j < i then add32 (nth s.list j) (nth r.list j) else nth s.list j)
theorem fin8_0 (s r : St) : fin8 s r 0 = s.vals := rfl
theorem fin8_8 (s r : St) : fin8 s r 8 = (s.add r).vals := rfl
theorem lt8 {i : Nat} (h : i < 8) : i = 0 ∨ i = 1 ∨ i = 2 ∨ i = 3 ∨ i = 4 ∨ i = 5 ∨ i = 6 ∨ i = 7 := by omega
theorem fin8_at (s r : St) {i : Nat} (h : i < 8) : (fin8 s r i)[i]? = some (wv (nth s.list i)) := by
  rcases lt8 h with rfl | rfl | rfl | rfl | rfl | rfl | rfl | rfl <;> rfl
theorem vals_get (r : St) {i : Nat} (h : i < 8) : r.vals[i]? = some (wv (nth r.list i)) := by
  rcases lt8 h with rfl | rfl | rfl | rfl | rfl | rfl | rfl | rfl <;> rfl
theorem fin8_next (s r : St) {i : Nat} (h : i < 8) : (fin8 s r i).set i (wv (add32 (nth s.list i) (nth r.list i))) = fin8 s r (i + 1) := by
  rcases lt8 h with rfl | rfl | rfl | rfl | rfl | rfl | rfl | rfl <;> rfl
theorem padding_len (n : Nat) : (padding n).length = padLen n + 8 := by
  have := padLen_pos n
  unfold padding
  simp [be8]
  omega
theorem pad_total (l : List UInt8) : ∃ Q, (l ++ padding l.length).length = 64 * Q ∧ 1 ≤ Q ∧ 64 * Q ≤ l.length + 72 := by
  have h : (l.length + (padLen l.length + 8)) % 64 = 0 := by unfold padLen; split <;> omega
  have h2 := padLen_pos l.length
  refine ⟨(l.length + (padLen l.length + 8)) / 64, ?_, ?_, ?_⟩
  · rw [List.length_append, padding_len]; omega
  · omega
  · omega
theorem sha_eq (l : List UInt8) (Q : Nat) (h : (l ++ padding l.length).length = 64 * Q) : sha l = outOf (blocks (l ++ padding l.length) (St.of sha0) Q) := by
  unfold sha
  rw [h, Nat.mul_div_cancel_left _ (by omega)]
theorem bcs_cut (l : List UInt8) (i n : Nat) : ((bcs l).drop i).take n = bcs ((l.drop i).take n) := by simp [bcs]
end Go.Proofs.YthmhmjdppldmiaaDoor
