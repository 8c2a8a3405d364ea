/-
  MC: several texts in one: Out, RefSum, Str, Add, StrSum, Sum, Bytes32, Equal, Hex, Bytes, MacSpec, Mac, Mac2, Of. No statement is proved here.
-/
import Derived.Test.YtienlndjhcmemaaDoorMB
import Derived.Test.YtienlndjhcmemaaDoorMA
import Derived.Deep.Cut
import Derived.Deep.DeepCutAuto
/-
  Words on bytes of a hash and rows of the call's own as blocks: for the walks of Sum. No statement is proved here.
-/
namespace Go.Proofs.YtienlndjhcmemaaDoor
open Go.RowKit

theorem outOf_get (s : St) : ∀ i, i < 32 → (outOf s)[i]? = some (UInt8.ofNat (nth s.list (i / 4) / 2 ^ (24 - 8 * (i % 4))))
  | 0, _ => by simp [outOf, St.list, nth]
  | 1, _ => by simp [outOf, St.list, nth]
  | 2, _ => by simp [outOf, St.list, nth]
  | 3, _ => by simp [outOf, St.list, nth]
  | 4, _ => by simp [outOf, St.list, nth]
  | 5, _ => by simp [outOf, St.list, nth]
  | 6, _ => by simp [outOf, St.list, nth]
  | 7, _ => by simp [outOf, St.list, nth]
  | 8, _ => by simp [outOf, St.list, nth]
  | 9, _ => by simp [outOf, St.list, nth]
  | 10, _ => by simp [outOf, St.list, nth]
  | 11, _ => by simp [outOf, St.list, nth]
  | 12, _ => by simp [outOf, St.list, nth]
  | 13, _ => by simp [outOf, St.list, nth]
  | 14, _ => by simp [outOf, St.list, nth]
  | 15, _ => by simp [outOf, St.list, nth]
  | 16, _ => by simp [outOf, St.list, nth]
  | 17, _ => by simp [outOf, St.list, nth]
  | 18, _ => by simp [outOf, St.list, nth]
  | 19, _ => by simp [outOf, St.list, nth]
  | 20, _ => by simp [outOf, St.list, nth]
  | 21, _ => by simp [outOf, St.list, nth]
  | 22, _ => by simp [outOf, St.list, nth]
  | 23, _ => by simp [outOf, St.list, nth]
  | 24, _ => by simp [outOf, St.list, nth]
  | 25, _ => by simp [outOf, St.list, nth]
  | 26, _ => by simp [outOf, St.list, nth]
  | 27, _ => by simp [outOf, St.list, nth]
  | 28, _ => by simp [outOf, St.list, nth]
  | 29, _ => by simp [outOf, St.list, nth]
  | 30, _ => by simp [outOf, St.list, nth]
  | 31, _ => by simp [outOf, St.list, nth]
  | n + 32, h => absurd h (by omega)
theorem outOf_len (s : St) : (outOf s).length = 32 := by simp [outOf, St.list]
def zerosB (n : Nat) : List Value := List.replicate n (.int .u8 0)
theorem Tryd.ag_b32 : AgTy Tryd.prog 76 (zerosB 32).toArray 32 := ⟨by kernel_rfl, by kernel_rfl, by simp [zerosB]⟩
/-- The first i bytes are laid. -/
def laidB (l : List UInt8) (n i : Nat) : List Value := bcs (l.take i) ++ zerosB (n - i)
theorem laidB_0 (l : List UInt8) (n : Nat) : laidB l n 0 = zerosB n := by simp [laidB, bcs]
theorem laidB_n (l : List UInt8) (n : Nat) (h : l.length = n) : laidB l n n = bcs l := by subst h; simp [laidB, zerosB]
theorem laidB_len (l : List UInt8) (n i : Nat) (h : l.length = n) (hi : i ≤ n) : (laidB l n i).length = n := by simp [laidB, zerosB, bcs]; omega
theorem laidB_next (l : List UInt8) (n i : Nat) (b : UInt8) (h : l.length = n) (hb : l[i]? = some b) : (laidB l n i).set i (bc b) = laidB l n (i + 1) := by
  have hi : i < l.length := (List.getElem?_eq_some_iff.1 hb).1
  have e : zerosB (n - i) = .int .u8 0 :: zerosB (n - (i + 1)) := by
    unfold zerosB
    rw [show n - i = (n - (i + 1)) + 1 from by omega, List.replicate_succ]
  have e2 : l.take (i + 1) = l.take i ++ [b] := by
    rw [List.take_succ_eq_append_getElem hi]
    congr 2
    rw [List.getElem?_eq_getElem hi] at hb
    exact Option.some.inj hb
  unfold laidB
  have e4 : (bcs (l.take i)).length = i := by rw [bcs_length, List.length_take]; omega
  have e5 : ∀ (p q : List Value) (x y : Value), (p ++ x :: q).set p.length y = p ++ y :: q := by
    intro p q x y
    induction p with
    | nil => rfl
    | cons a p ih => simp
  have e6 := e5 (bcs (l.take i)) (zerosB (n - (i + 1))) (.int .u8 0) (bc b)
  rw [e4] at e6
  rw [e, e2, bcs_append, e6]
  simp [bcs]
theorem laidB_one (l : List UInt8) (n i : Nat) : ∀ u ∈ laidB l n i, u.oneCell' = true := by
  intro u hu
  rcases List.mem_append.1 hu with h | h
  · exact bcs_one _ u h
  · rw [(List.mem_replicate.1 h).2]; rfl
theorem laidB_at (l : List UInt8) (n i : Nat) (h : l.length = n) (hi : i < n) : (laidB l n i)[i]? = some (.int .u8 0) := by
  unfold laidB
  rw [List.getElem?_append_right (by rw [bcs_length, List.length_take]; omega)]
  have e3 : i - (bcs (l.take i)).length = 0 := by rw [bcs_length, List.length_take]; omega
  rw [e3]
  unfold zerosB
  rw [List.getElem?_replicate, if_pos (by omega)]
theorem out_byte (x e : Nat) : Value.int .u8 ((x : Int) / 2 ^ e % 256) = bc (UInt8.ofNat (x / 2 ^ e)) := by
  have : ((x : Int) / 2 ^ e % 256) = ((x / 2 ^ e % 256 : Nat) : Int) := by
    rw [Int.natCast_emod, Int.natCast_ediv, Int.natCast_pow]
    rfl
  rw [this]
  unfold bc
  congr 1
/-- What a call returned in a new row, not empty: the row's own block. -/
theorem RetRow.arr {w : World} {e : TypeId} {size n : Nat} {xs : List Value} {en : Ending} {w' : World} (h : RetRow w e size n xs en w') (hn : 0 < n) :
    ∃ g c cur, en = .returned (.slice (some ⟨g, 0, none⟩) n c) ∧ w.heap.size ≤ g ∧ n ≤ c ∧ c ≤ maxLen ∧ xs.length = n * size ∧ Arr w' g e cur ∧ (∀ (j : Nat) (u : Value), xs[j]? = some u → cur[j]? = some u) ∧ Below w.heap.size w w' := by
  obtain ⟨v, rfl, ⟨hl, h2⟩, hb⟩ := h
  rcases h2 with ⟨_, rfl⟩ | ⟨g, cap, cur, rfl, hg, hA, hc, hm, hs, ht⟩
  · omega
  · refine ⟨g, cap, cur.toList, rfl, hg, hc, hm, hl, hA, fun j u hu => ?_, hb⟩
    rw [← ht, List.getElem?_take] at hu
    split at hu
    · exact hu
    · cases hu
theorem rd_of_arr {w : World} {B g size n c : Nat} {e : TypeId} {cur xs : List Value} (hA : Arr w g e cur) (hp : ∀ (j : Nat) (u : Value), xs[j]? = some u → cur[j]? = some u) (hl : xs.length = n * size) (hn : n ≤ c) (hc : c ≤ maxLen) (hB : g < B) :
    Rd w B size (some ⟨g, 0, none⟩) n c xs :=
  ⟨hl, hn, hc, fun _ => ⟨g, 0, rfl, hB, fun j u hu => by rw [Nat.zero_add]; exact hA.cell (hp j u hu)⟩⟩
theorem x2_bits (a b c d e f g h k w : Nat) (he : e < 4294967296) (hf : f < 4294967296) (hg : g < 4294967296) :
    (((h : Int) + bits .xor .u32 (bits .xor .u32 ((rotr e 6 : Nat) : Int) ((rotr e 11 : Nat) : Int)) ((rotr e 25 : Nat) : Int) + bits .xor .u32 (bits .and .u32 (e : Int) (f : Int)) (bits .and .u32 (bits .xor .u32 (e : Int) 4294967295) (g : Int)) + (k : Int)) % 4294967296 + (w : Int)) % 4294967296 = ((stX ⟨a, b, c, d, e, f, g, h⟩ k w : Nat) : Int) := by
  have h1 : bits .xor .u32 (e : Int) 4294967295 = ((4294967295 - e : Nat) : Int) := by
    have := u32_xor_n e 4294967295 he (by omega)
    rw [nat_xor_ones 32 e he] at this
    exact this
  rw [h1, u32_and_n _ _ he hf, u32_and_n _ _ (by omega) hg, u32_xor_n _ _ (and_lt32 hf) (and_lt32 hg), u32_xor_n _ _ (rotr_lt e 6 he (by omega)) (rotr_lt e 11 he (by omega)),
    u32_xor_n _ _ (xor_lt32 (rotr_lt e 6 he (by omega)) (rotr_lt e 11 he (by omega))) (rotr_lt e 25 he (by omega))]
  unfold stX add32 mix3 chf
  simp only [Int.natCast_emod, Int.natCast_add]
  omega
theorem y2_bits (a b c d e f g h : Nat) (ha : a < 4294967296) (hb : b < 4294967296) (hc : c < 4294967296) :
    (bits .xor .u32 (bits .xor .u32 ((rotr a 2 : Nat) : Int) ((rotr a 13 : Nat) : Int)) ((rotr a 22 : Nat) : Int) + bits .xor .u32 (bits .xor .u32 (bits .and .u32 (a : Int) (b : Int)) (bits .and .u32 (a : Int) (c : Int))) (bits .and .u32 (b : Int) (c : Int))) % 4294967296 = ((stY ⟨a, b, c, d, e, f, g, h⟩ : Nat) : Int) := by
  rw [maj_bits a b c ha hb hc, u32_xor_n _ _ (rotr_lt a 2 ha (by omega)) (rotr_lt a 13 ha (by omega)),
    u32_xor_n _ _ (xor_lt32 (rotr_lt a 2 ha (by omega)) (rotr_lt a 13 ha (by omega))) (rotr_lt a 22 ha (by omega))]
  unfold stY add32 mix3
  simp only [Int.natCast_emod, Int.natCast_add]
  omega
theorem Tryd.arr_w8 : Tryd.prog.underlying 69 = some (.array 8 68) := by kernel_rfl
theorem Tryd.one_u32 : (Tryd.prog.info? 68).map (·.size) = some 1 := by kernel_rfl
theorem wvs_cells (l : List Nat) : ∀ v ∈ wvs l, v.cells = #[v] := by
  intro v hv
  obtain ⟨x, _, rfl⟩ := List.mem_map.1 hv
  rfl
theorem St.vals_one (s : St) : ∀ u ∈ s.vals, u.oneCell' = true := wvs_one _
theorem St.vals_len (s : St) : s.vals.length = 8 := rfl
theorem zeros8_len : zeros8.length = 8 := rfl
theorem zerosB_len (n : Nat) : (zerosB n).length = n := by simp [zerosB]
/-- The state behind i rounds of the last loop. -/
def fin8 (s r : St) (i : Nat) : List Value := (List.range 8).map fun j => wv (if j < i then add32 (nth s.list j) (nth r.list j) else nth s.list j)
theorem fin8_0 (s r : St) : fin8 s r 0 = s.vals := rfl
theorem fin8_8 (s r : St) : fin8 s r 8 = (s.add r).vals := rfl
theorem lt8 {i : Nat} (h : i < 8) : i = 0 ∨ i = 1 ∨ i = 2 ∨ i = 3 ∨ i = 4 ∨ i = 5 ∨ i = 6 ∨ i = 7 := by omega
theorem fin8_at (s r : St) {i : Nat} (h : i < 8) : (fin8 s r i)[i]? = some (wv (nth s.list i)) := by
  rcases lt8 h with rfl | rfl | rfl | rfl | rfl | rfl | rfl | rfl <;> rfl
theorem vals_get (r : St) {i : Nat} (h : i < 8) : r.vals[i]? = some (wv (nth r.list i)) := by
  rcases lt8 h with rfl | rfl | rfl | rfl | rfl | rfl | rfl | rfl <;> rfl
theorem fin8_next (s r : St) {i : Nat} (h : i < 8) : (fin8 s r i).set i (wv (add32 (nth s.list i) (nth r.list i))) = fin8 s r (i + 1) := by
  rcases lt8 h with rfl | rfl | rfl | rfl | rfl | rfl | rfl | rfl <;> rfl
theorem padding_len (n : Nat) : (padding n).length = padLen n + 8 := by
  have := padLen_pos n
  unfold padding
  simp [be8]
  omega
theorem pad_total (l : List UInt8) : ∃ Q, (l ++ padding l.length).length = 64 * Q ∧ 1 ≤ Q ∧ 64 * Q ≤ l.length + 72 := by
  have h : (l.length + (padLen l.length + 8)) % 64 = 0 := by unfold padLen; split <;> omega
  have h2 := padLen_pos l.length
  refine ⟨(l.length + (padLen l.length + 8)) / 64, ?_, ?_, ?_⟩
  · rw [List.length_append, padding_len]; omega
  · omega
  · omega
theorem sha_eq (l : List UInt8) (Q : Nat) (h : (l ++ padding l.length).length = 64 * Q) : sha l = outOf (blocks (l ++ padding l.length) (St.of sha0) Q) := by
  unfold sha
  rw [h, Nat.mul_div_cancel_left _ (by omega)]
theorem bcs_cut (l : List UInt8) (i n : Nat) : ((bcs l).drop i).take n = bcs ((l.drop i).take n) := by simp [bcs]
end Go.Proofs.YtienlndjhcmemaaDoor
/-
  Sum of the specification returns the bytes that sha gives.
-/
namespace Go.Proofs.YtienlndjhcmemaaDoor
open Go.RowKit

/-- What memory holds in the loop over the blocks. -/
structure RM (w wr : World) (g3 gM : Nat) (cur : List Value) (s : St) : Prop where
  h3 : Arr wr g3 69 s.vals
  hM : Arr wr gM 5 cur
  h2 : Arr wr w.heap.size 76 (zerosB 32)
  hb : Below w.heap.size w wr
/-- .. and in the loop over the rounds. -/
structure RN (w wr : World) (g3 gM g6 g7 : Nat) (cur : List Value) (s : St) (ws : List Value) (v : List Value) : Prop where
  m : RM w wr g3 gM cur s
  h6 : Arr wr g6 90 ws
  h7 : Arr wr g7 69 v
theorem RM.below {w wr w' : World} {g3 gM : Nat} {cur : List Value} {s : St} (h : RM w wr g3 gM cur s) (hb : Below wr.heap.size wr w') : RM w w' g3 gM cur s :=
  ⟨h.h3.below hb h.h3.lt, h.hM.below hb h.hM.lt, h.h2.below hb h.h2.lt, h.hb.trans (hb.mono h.hb.size)⟩
theorem RN.drewN {w wr : World} {g3 gM g6 g7 : Nat} {cur : List Value} {s : St} {ws v : List Value} (h : RN w wr g3 gM g6 g7 cur s ws v) (n : Nat) : RN w (wr.drewN n) g3 gM g6 g7 cur s ws v :=
  ⟨⟨h.m.h3, h.m.hM, h.m.h2, ⟨h.m.hb.os, h.m.hb.tape, h.m.hb.output, h.m.hb.size, h.m.hb.block⟩⟩, h.h6, h.h7⟩

set_option maxRecDepth 100000 in
set_option maxHeartbeats 2000000 in
theorem refSum_any (l : List UInt8) (A : Option Addr) (n c B : Nat) (w : World) (ht : TabsR w) (hr : Rd w B 1 A n c (bcs l)) (hB : B ≤ w.heap.size) (hn : n ≤ 1099511627776) :
    Calls Tryd.prog 65 #[.slice A n c] w fun e w' => e = .returned (.agg (bcs (sha l)).toArray) ∧ Below w.heap.size w w' := by
  go_enter Tryd.func65, Tryd.ntmps65
  go_wp2_with (first | (with_reducible refine alArr (z := zerosB 32) Tryd.ag_b32 (wn rfl) rfl ?_))
  intro w1 h2 hb
  go_wp2_with (first | (with_reducible refine alArr (z := zeros8) Tryd.ag_w8 (wn rfl) rfl ?_))
  intro w2 h3 hb2
  have h23 : w.heap.size < w1.heap.size := h2.lt
  have h2 := h2.below hb2 h2.lt
  have hb := hb.trans (hb2.mono hb.size)
  have h33 : w1.heap.size < w2.heap.size := h3.lt
  clear hb2
  generalize w1.heap.size = g3 at *
  obtain ⟨c0, hc0⟩ : ∃ c0, c0 = (St.of sha0).vals := ⟨_, rfl⟩
  have y0 : Value.agg #[.int .u32 1779033703, .int .u32 3144134277, .int .u32 1013904242, .int .u32 2773480762, .int .u32 1359893119, .int .u32 2600822924, .int .u32 528734635, .int .u32 1541459225] = .agg c0.toArray := by rw [hc0]; rfl
  have Y0 := Lib.hid y0
  have o0 : ∀ u ∈ c0, u.oneCell' = true := by rw [hc0]; exact wvs_one _
  have l0 : c0.length = 8 := by rw [hc0]; rfl
  have HC := Lib.hid hc0
  have L0 := Lib.hid l0
  clear y0 hc0 l0
  go_wp2_with (with_reducible refine stArr (b := g3) (cs := c0) (.tmp 3) (.tmp 14) Tryd.ag_w8 (wn rfl) rfl rfl ?hy h3 rfl L0.out o0 ?hk)
  case hy => exact Y0.out
  intro w3 h3 hkeep hbel
  have hc0' := HC
  have h2 := hkeep _ _ _ (by omega) h2
  have hb := hb.trans (hbel _ (by omega))
  clear hkeep hbel
  rw [hc0'.out] at h3
  clear o0 Y0 L0
  have hl : l.length = n := by have := hr.len; simpa [bcs] using this
  obtain ⟨Q, hQ, hQ1, hQ2⟩ := pad_total l
  have hsha := sha_eq l Q hQ
  have hpad := padded_any l A n c B w3 (hr.below (hb.mono hB)) (by have := hb.size; omega) hn
  rw [hQ] at hpad
  rw [hl] at hQ2
  generalize l ++ padding l.length = M at *
  have HS := Lib.hid hsha
  have HQ := Lib.hid hQ
  clear hsha hQ hl hr
  go_wp2_with fail
  refine hpad.mono ?_
  rintro e w4 hret
  obtain ⟨gM, cM, cur, rfl, hgM, hNc, hcm, hML, hM, hpre, hb4⟩ := hret.arr (by omega)
  have h2 := h2.below hb4 h2.lt
  have h3' := h3.lt
  have h3 := h3.below hb4 h3.lt
  have hb := hb.trans (hb4.mono hb.size)
  clear hret hb4 hpad
  have n1 : g3 ≠ gM := by omega
  have n2 : w.heap.size ≤ g3 := by omega
  have n3 : w.heap.size < gM := by omega
  clear h33 hgM h3'
  go_wp2_with fail
  go_loopw [5] (fun v wr => ∃ q : Nat, q ≤ Q ∧ v = .int .i64 (64 * (q : Int)) ∧ RM w wr g3 gM cur (blocks M (St.of sha0) q)) (fun v _ => 64 * Q - (intOf v).toNat)
  case atStart => exact ⟨0, by omega, rfl, h3, hM, h2, hb⟩
  case round =>
    clear h3 hM h2 hb
    obtain ⟨q, hq, rfl, hm⟩ := hrel
    by_cases hlt : q < Q
    · clear HS
      have hsm := rd_of_arr hm.hM hpre hML hNc hcm hm.hM.lt
      have hnx : blocks M (St.of sha0) (q + 1) = compr (blocks M (St.of sha0) q) ((M.drop (64 * q)).take 64) := rfl
      have hokq := blocks_ok M sha0_ok q
      have HNX := Lib.hid hnx
      clear hnx
      generalize blocks M (St.of sha0) q = sq at *
      have h64 : 64 * q + 64 ≤ 64 * Q := by omega
      go_wp2_with (with_reducible refine slLH (U := 64 * q) (V := 64 * q + 64) (.tmp 23) (.tmp 24) (.tmp 26) Tryd.sl_u8 (wn rfl) rfl rfl rfl rfl hsm (by omega) (by omega) (by omega) (by omega) ?_)
      intro A5 hcut
      have e1 : 64 * q + 64 - 64 * q = 64 := by omega
      simp only [bcs_cut] at hcut
      generalize (M.drop (64 * q)).take 64 = bl at *
      have E1 := Lib.hid e1
      clear e1 hsm
      go_wp2_with fail
      refine (words_any bl A5 64 _ _ _ hcut (Nat.le_refl _) (Nat.le_refl _)).mono ?_
      rintro e w5 ⟨rfl, hb5⟩
      have hm := hm.below hb5
      clear hb5 hcut
      go_wp2_with (with_reducible refine alArr (z := zeros64) Tryd.ag_w64 (wn rfl) rfl ?_)
      intro w6 h6 hb6
      have hg6 : w.heap.size < w5.heap.size ∧ g3 < w5.heap.size ∧ gM < w5.heap.size := ⟨hm.h2.lt, hm.h3.lt, hm.hM.lt⟩
      have hm := hm.below hb6
      clear hb6
      generalize w5.heap.size = g6 at *
      go_wp2_with (with_reducible refine stArr (b := g6) (cs := wvs (sched bl 64)) (.tmp 6) (.tmp 28) Tryd.ag_w64 (wn rfl) rfl rfl rfl h6 (by simp [zeros64]) (by simp [wvs, sched_len]) (wvs_one _) ?_)
      intro w7 h6 hkeep hbel
      have hm : RM w w7 g3 gM cur sq := ⟨hkeep _ _ _ (by omega) hm.h3, hkeep _ _ _ (by omega) hm.hM, hkeep _ _ _ (by omega) hm.h2, hm.hb.trans (hbel _ (by omega))⟩
      clear hkeep hbel
      go_wp2_with (first | (with_reducible refine ldArr (.tmp 3) Tryd.ag_w8 (wn rfl) rfl rfl rfl hm.h3 ?_) | (with_reducible refine alArr (z := zeros8) Tryd.ag_w8 (wn rfl) rfl ?_))
      intro w8 h7 hb8
      have hg7 : g6 < w7.heap.size := h6.lt
      have hm := hm.below hb8
      have h6 := h6.below hb8 h6.lt
      clear hb8
      generalize w7.heap.size = g7 at *
      go_wp2_with (with_reducible refine stArr (b := g7) (cs := sq.vals) (.tmp 7) (.tmp 29) Tryd.ag_w8 (wn rfl) rfl rfl rfl h7 zeros8_len (St.vals_len _) (St.vals_one _) ?_)
      intro w9 h7 hkeep hbel
      have hN : RN w w9 g3 gM g6 g7 cur sq (wvs (sched bl 64)) sq.vals := ⟨⟨hkeep _ _ _ (by omega) hm.h3, hkeep _ _ _ (by omega) hm.hM, hkeep _ _ _ (by omega) hm.h2, hm.hb.trans (hbel _ (by omega))⟩, hkeep _ _ _ (by omega) h6, h7⟩
      clear hkeep hbel hm h6 h7
      have m1 : w.heap.size ≤ g7 := by omega
      have m2 : g3 ≠ g7 := by omega
      have m3 : gM ≠ g7 := by omega
      have m4 : w.heap.size ≠ g7 := by omega
      have m5 : g6 ≠ g7 := by omega
      have m6 : g6 ≠ g3 := by omega
      have m7 : w.heap.size ≠ g3 := by omega
      clear hg6 hg7
      go_wp2_with fail
      obtain ⟨wo, rfl⟩ : ∃ wo : World, wo = wr := ⟨_, rfl⟩
      have hrd : rounds (sched bl 64) sq 0 = sq := rfl
      rw [← hrd] at hN
      clear hrd
      go_loopw [8] (fun iv_ wr => ∃ t : Nat, t ≤ 64 ∧ iv_ = .int .i64 t ∧ RN w wr g3 gM g6 g7 cur sq (wvs (sched bl 64)) (rounds (sched bl 64) sq t).vals) (fun iv_ _ => 64 - (intOf iv_).toNat)
      case atStart => exact ⟨0, by omega, rfl, hN⟩
      case round =>
        clear hN
        obtain ⟨t, ht64, rfl, hN⟩ := hrel
        by_cases h64 : t < 64
        · have hok := rounds_ok (sched bl 64) hokq t
          have hnx : rounds (sched bl 64) sq (t + 1) = step1 (rounds (sched bl 64) sq t) (nth shaK t) (nth (sched bl 64) t) := rfl
          have HNR := Lib.hid hnx
          clear hnx
          rcases hst : rounds (sched bl 64) sq t with ⟨va, vb, vc, vd, ve, vf, vg, vh⟩
          rw [hst] at hok hN HNR
          obtain ⟨ka, kb, kc, kd, ke, kf, kg, kh⟩ := hok
          clear hst
          have e0 := hN.h7.cell (i := 4) (v := .int .u32 ve) rfl
          have e1 := hN.h7.cell (i := 5) (v := .int .u32 vf) rfl
          have e2 := hN.h7.cell (i := 6) (v := .int .u32 vg) rfl
          have e3 := hN.h7.cell (i := 7) (v := .int .u32 vh) rfl
          have cw : wr.cell? ⟨g6, t, none⟩ = some (.int .u32 (nth (sched bl 64) t)) := hN.h6.cell (wvs_get (by rw [sched_len]; exact h64))
          have ck : wr.cell? ⟨0, t, none⟩ = some (.int .u32 (nth shaK t)) := by
            have := (ht.below hN.m.hb ht.size).ref t _ (wvs_get (by rw [shaK_len]; exact h64))
            rwa [Nat.zero_add] at this
          have xk := nth_lt shaK_lt t
          have xw := nth_lt (sched_lt bl 64) t
          generalize nth (sched bl 64) t = wt at *
          generalize nth shaK t = kt at *
          go_wp2_with fail
          go_quiet ((go_at_call 72; exact refRotr_q ve _ _ _ ke (by omega) (by omega)))
          rw [x2_bits va vb vc vd ve vf vg vh kt wt ke kf kg]
          obtain ⟨xv, hxv⟩ : ∃ xv, xv = stX ⟨va, vb, vc, vd, ve, vf, vg, vh⟩ kt wt := ⟨_, rfl⟩
          rw [← hxv]
          have HX := Lib.hid hxv
          clear hxv e0 e1 e2 e3 cw ck
          obtain ⟨wq, hwq⟩ : ∃ wq, wq = wr.drewN nq := ⟨_, rfl⟩
          rw [← hwq]
          have hN : RN w wq g3 gM g6 g7 cur sq _ _ := hwq ▸ hN.drewN nq
          clear hwq
          have v0 := hN.h7.cell (i := 0) (v := .int .u32 va) rfl
          have v1 := hN.h7.cell (i := 1) (v := .int .u32 vb) rfl
          have v2 := hN.h7.cell (i := 2) (v := .int .u32 vc) rfl
          go_wp2_with fail
          go_quiet ((go_at_call 72; exact refRotr_q va _ _ _ ka (by omega) (by omega)))
          rw [y2_bits va vb vc vd ve vf vg vh ka kb kc]
          obtain ⟨yv, hyv⟩ : ∃ yv, yv = stY ⟨va, vb, vc, vd, ve, vf, vg, vh⟩ := ⟨_, rfl⟩
          rw [← hyv]
          have HY := Lib.hid hyv
          clear hyv v0 v1 v2
          obtain ⟨wp, hwp⟩ : ∃ wp, wp = wq.drewN nq := ⟨_, rfl⟩
          rw [← hwp]
          have hN : RN w wp g3 gM g6 g7 cur sq _ _ := hwp ▸ hN.drewN nq
          clear hwp
          have v0 := hN.h7.cell (i := 0) (v := .int .u32 va) rfl
          have v1 := hN.h7.cell (i := 1) (v := .int .u32 vb) rfl
          have v2 := hN.h7.cell (i := 2) (v := .int .u32 vc) rfl
          have v3 := hN.h7.cell (i := 3) (v := .int .u32 vd) rfl
          have v4 := hN.h7.cell (i := 4) (v := .int .u32 ve) rfl
          have v5 := hN.h7.cell (i := 5) (v := .int .u32 vf) rfl
          have v6 := hN.h7.cell (i := 6) (v := .int .u32 vg) rfl
          have z1 : Value.int .u32 (((xv : Int) + (yv : Int)) % 4294967296) = wv (add32 xv yv) := wv_add xv yv
          have z2 : Value.int .u32 (((vd : Int) + (xv : Int)) % 4294967296) = wv (add32 vd xv) := wv_add vd xv
          have Z1 := Lib.hid z1
          have Z2 := Lib.hid z2
          clear z1 z2
          go_wp2_with (first | (with_reducible refine bdArr (wvs [add32 xv yv, va, vb, vc, add32 vd xv, ve, vf, vg]) Tryd.ag_w8 Tryd.arr_w8 Tryd.one_u32 (wn rfl) rfl ?hev rfl (wvs_cells _) ?hk) | (with_reducible refine stArr (b := g7) (cs := wvs [add32 xv yv, va, vb, vc, add32 vd xv, ve, vf, vg]) (.tmp 7) (.tmp 117) Tryd.ag_w8 (wn rfl) rfl rfl rfl hN.h7 (St.vals_len _) rfl (wvs_one _) ?_))
          intro wa h7 hkeep hbel
          have hN : RN w wa g3 gM g6 g7 cur sq (wvs (sched bl 64)) _ := ⟨⟨hkeep _ _ _ m2 hN.m.h3, hkeep _ _ _ m3 hN.m.hM, hkeep _ _ _ m4 hN.m.h2, hN.m.hb.trans (hbel _ m1)⟩, hkeep _ _ _ m5 hN.h6, h7⟩
          clear h7 hkeep hbel v0 v1 v2 v3 v4 v5 v6
          go_wp2_with fail
          go_roundw
          case rel =>
            refine ⟨t + 1, by omega, by go_num, ?_⟩
            rw [HNR.out]
            have e1 : (step1 ⟨va, vb, vc, vd, ve, vf, vg, vh⟩ kt wt).vals = wvs [add32 xv yv, va, vb, vc, add32 vd xv, ve, vf, vg] := by rw [HX.out, HY.out]; rfl
            rw [e1]
            exact hN
          case measure => (simp [intOf]; try omega)
        · obtain rfl : t = 64 := by omega
          have hr4 : compr sq bl = sq.add (rounds (sched bl 64) sq 64) := rfl
          have HR := Lib.hid hr4
          clear hr4
          generalize rounds (sched bl 64) sq 64 = r at *
          obtain ⟨⟨h3, hM, h2, hb⟩, _, h7⟩ := hN
          rw [← fin8_0 sq r] at h3
          go_wp2_with fail
          go_loopw [11] (fun iv_ wr => ∃ i : Nat, i ≤ 8 ∧ iv_ = .int .i64 i ∧ Arr wr g3 69 (fin8 sq r i) ∧ Arr wr gM 5 cur ∧ Arr wr w.heap.size 76 (zerosB 32) ∧ Arr wr g7 69 r.vals ∧ Below w.heap.size w wr) (fun iv_ _ => 8 - (intOf iv_).toNat)
          case atStart => exact ⟨0, by omega, rfl, h3, hM, h2, h7, hb⟩
          case round =>
            clear h3 hM h2 h7 hb
            rename_i wo2 wr
            obtain ⟨i, hi8, rfl, h3, hM, h2, h7, hb⟩ := hrel
            by_cases hi : i < 8
            · have c1 : wr.cell? ⟨g3, i, none⟩ = some (.int .u32 (nth sq.list i)) := h3.cell (fin8_at sq r hi)
              have c2 : wr.cell? ⟨g7, i, none⟩ = some (.int .u32 (nth r.list i)) := h7.cell (vals_get r hi)
              have f1 := h3.thaw i
              go_wp2_with fail
              go_region
              rw [wv_add]
              obtain ⟨wq, hwq⟩ : ∃ wq, wq = (wr.setCell ⟨g3, i, none⟩ (wv (add32 (nth sq.list i) (nth r.list i)))).drew := ⟨_, rfl⟩
              rw [← hwq]
              have h3 : Arr wq g3 69 (fin8 sq r (i + 1)) := hwq ▸ fin8_next sq r hi ▸ (h3.set i _).drew
              have hM : Arr wq gM 5 cur := hwq ▸ (hM.other n1 i _).drew
              have h2 : Arr wq w.heap.size 76 (zerosB 32) := hwq ▸ (h2.other (Ne.symm m7) i _).drew
              have h7 : Arr wq g7 69 r.vals := hwq ▸ (h7.other m2 i _).drew
              have hb : Below w.heap.size w wq := hwq ▸ (hb.setCell (p := ⟨g3, i, none⟩) n2 _).drew
              clear hwq c1 c2 f1
              go_wp2_with fail
              go_roundw
              case rel => exact ⟨i + 1, by omega, by go_num, h3, hM, h2, h7, hb⟩
              case measure => (simp [intOf]; try omega)
            · obtain rfl : i = 8 := by omega
              rw [fin8_8, ← HR.out, ← HNX.out] at h3
              go_wp2_with fail
              go_roundw
              case rel => exact ⟨q + 1, by omega, by go_num, h3, hM, h2, hb⟩
              case measure => (simp [intOf]; try omega)
    · obtain rfl : q = Q := by omega
      have hshl : (sha l).length = 32 := by rw [HS.out]; exact outOf_len _
      have hget := fun (s : St) => outOf_get s
      have HG := Lib.hid hget
      have HSL := Lib.hid hshl
      clear hget hshl
      generalize blocks M (St.of sha0) q = sq at *
      obtain ⟨h3, _, h2, hb⟩ := hm
      go_wp2_with (with_reducible refine alArr (z := zerosB 32) Tryd.ag_b32 (wn rfl) rfl ?_)
      intro wa h12 hba
      have hg12 := h2.lt
      have hg12' := h3.lt
      replace h3 := h3.below hba h3.lt
      replace h2 := h2.below hba h2.lt
      replace hb := hb.trans (hba.mono hb.size)
      clear hba
      generalize wr.heap.size = g12 at *
      have k1 : g12 ≠ g3 := by omega
      have k2 : g12 ≠ w.heap.size := by omega
      have k3 : w.heap.size ≤ g12 := by omega
      clear hg12 hg12'
      rw [← laidB_0 (sha l)] at h12
      go_wp2_with fail
      go_loopw [13] (fun iv_ wr => ∃ i : Nat, i ≤ 32 ∧ iv_ = .int .i64 i ∧ Arr wr g3 69 sq.vals ∧ Arr wr w.heap.size 76 (zerosB 32) ∧ Arr wr g12 76 (laidB (sha l) 32 i) ∧ Below w.heap.size w wr) (fun iv_ _ => 32 - (intOf iv_).toNat)
      case atStart => exact ⟨0, by omega, rfl, h3, h2, h12, hb⟩
      case round =>
        clear h3 h2 h12 hb
        rename_i wo2 wr
        obtain ⟨i, hi32, rfl, h3, h2, h12, hb⟩ := hrel
        by_cases hi : i < 32
        · have c1 : wr.cell? ⟨g3, i / 4, none⟩ = some (.int .u32 (nth sq.list (i / 4))) := h3.cell (vals_get sq (by omega))
          have c2 := h12.cell (laidB_at (sha l) 32 i HSL.out hi)
          have f1 := h12.thaw i
          have i1 : ((i : Int) / 4).toNat = i / 4 := by omega
          have i2 : (24 - 8 * ((i : Int) % 4)).toNat = 24 - 8 * (i % 4) := by omega
          have hgb := laidB_next (sha l) 32 i _ HSL.out (by rw [HS.out]; exact HG.out sq i hi)
          have HB := Lib.hid hgb
          clear hgb
          go_wp2_with fail
          rw [out_byte]
          go_roundw
          case rel =>
            refine ⟨i + 1, by omega, by go_num, h3.other k1 _ _, h2.other k2 _ _, ?_, hb.setCell (show w.heap.size ≤ g12 from k3) _⟩
            rw [← HB.out]
            exact h12.set i _
          case measure => (simp [intOf]; try omega)
        · obtain rfl : i = 32 := by omega
          rw [laidB_n _ _ HSL.out] at h12
          have hl32 : (bcs (sha l)).length = 32 := by rw [bcs_length]; exact HSL.out
          have HL32 := Lib.hid hl32
          clear hl32
          go_wp2_with (first | (with_reducible refine ldArr (.tmp 12) Tryd.ag_b32 (wn rfl) rfl rfl HL32.out h12 ?_) | (with_reducible refine stArr (.tmp 2) (.tmp 147) Tryd.ag_b32 (wn rfl) rfl rfl rfl h2 (zerosB_len _) HL32.out (bcs_one _) ?_))
          intro wz h2 hkeep hbel
          go_wp2_with fail
          refine bodyPost_ret (v := .agg (bcs (sha l)).toArray) ?_ rfl ⟨rfl, hb.trans (hbel _ (Nat.le_refl _))⟩
          exact res_cell1 (bcs (sha l)) Tryd.results65 Tryd.ag_b32 _ rfl HL32.out (fun j u hu => by rw [Nat.zero_add]; exact h2.cell hu)
end Go.Proofs.YtienlndjhcmemaaDoor
/-
  A stream of the hash: what it holds for a message, and how it grows. No program in sight.
-/
namespace Go.Proofs.YtienlndjhcmemaaDoor
open Go.RowKit

/-- blk with x laid from place i on. -/
def blkAdd (blk : List UInt8) (i : Nat) (x : List UInt8) : List UInt8 := blk.take i ++ x ++ blk.drop (i + x.length)
def stOf (m : List UInt8) : St := blocks m (St.of sha0) (m.length / 64)
structure StrOK (m blk : List UInt8) : Prop where
  len : blk.length = 64
  pre : blk.take (m.length % 64) = m.drop (64 * (m.length / 64))
def stCells (s : St) (blk : List UInt8) (n : Nat) : List Value := s.vals ++ bcs blk ++ [.int .u64 (n : Int)]
theorem stCells_len (s : St) {blk : List UInt8} (n : Nat) (h : blk.length = 64) : (stCells s blk n).length = 73 := by
  unfold stCells; rw [List.length_append, List.length_append, bcs_length, h, St.vals_len]; rfl
theorem stCells_one (s : St) (blk : List UInt8) (n : Nat) : ∀ u ∈ stCells s blk n, u.oneCell' = true := by
  intro u hu
  rcases List.mem_append.1 hu with h | h
  · rcases List.mem_append.1 h with h | h
    · exact wvs_one _ u h
    · exact bcs_one _ u h
  · rw [List.mem_singleton.1 h]; rfl
theorem blkAdd_len {blk x : List UInt8} {i : Nat} (h : blk.length = 64) (hx : i + x.length ≤ 64) : (blkAdd blk i x).length = 64 := by unfold blkAdd; simp; omega
theorem stCells_n (s : St) {blk : List UInt8} (n n' : Nat) (h : blk.length = 64) : (stCells s blk n).set 72 (.int .u64 (n' : Int)) = stCells s blk n' := by
  unfold stCells
  have hl : (s.vals ++ bcs blk).length = 72 := by rw [List.length_append, bcs_length, h, St.vals_len]
  generalize s.vals ++ bcs blk = p at hl ⊢
  have e5 : ∀ (p : List Value) (x y : Value), (p ++ [x]).set p.length y = p ++ [y] := by
    intro p x y
    induction p with
    | nil => rfl
    | cons a p ih => simp
  rw [← hl]
  exact e5 p _ _
theorem stCells_at_n (s : St) {blk : List UInt8} (n : Nat) (h : blk.length = 64) : (stCells s blk n)[72]? = some (.int .u64 (n : Int)) := by
  unfold stCells
  have hl : (s.vals ++ bcs blk).length = 72 := by rw [List.length_append, bcs_length, h, St.vals_len]
  rw [List.getElem?_append_right (by omega), hl]
  rfl
theorem stCells_state (s s' : St) {blk : List UInt8} (n : Nat) : spl (stCells s blk n) 0 s'.vals = stCells s' blk n := by
  unfold stCells
  rw [List.append_assoc, List.append_assoc]
  exact spl_head _ _ _ rfl
theorem stCells_copy (s : St) {blk x : List UInt8} {i : Nat} (n : Nat) (h : blk.length = 64) (hx : i + x.length ≤ 64) : spl (stCells s blk n) (8 + i) (bcs x) = stCells s (blkAdd blk i x) n := by
  have hb : blk = blk.take i ++ (blk.drop i).take x.length ++ blk.drop (i + x.length) := by
    rw [List.append_assoc, ← List.drop_drop, List.take_append_drop, List.take_append_drop]
  have he : stCells s blk n = (s.vals ++ bcs (blk.take i)) ++ bcs ((blk.drop i).take x.length) ++ (bcs (blk.drop (i + x.length)) ++ [.int .u64 (n : Int)]) := by
    unfold stCells
    conv => lhs; rw [hb]
    simp only [bcs_append, List.append_assoc]
  have hl : (s.vals ++ bcs (blk.take i)).length = 8 + i := by rw [List.length_append, bcs_length, St.vals_len, List.length_take]; omega
  rw [he, ← hl, spl_mid _ _ _ _ (by rw [bcs_length, bcs_length, List.length_take, List.length_drop]; omega)]
  unfold stCells blkAdd
  simp only [bcs_append, List.append_assoc]
theorem stCells_get (s : St) (blk : List UInt8) (n : Nat) {i : Nat} (h : i < 8) : (stCells s blk n)[i]? = some (wv (nth s.list i)) := by
  unfold stCells
  rw [List.append_assoc, List.getElem?_append_left (by rw [St.vals_len]; exact h)]
  exact vals_get s h
theorem stCells_blk (s : St) {blk : List UInt8} (n : Nat) {i : Nat} {u : Value} (hu : (bcs blk)[i]? = some u) : (stCells s blk n)[8 + i]? = some u := by
  have hi := (List.getElem?_eq_some_iff.1 hu).1
  unfold stCells
  rw [List.append_assoc, List.getElem?_append_right (by rw [St.vals_len]; omega), St.vals_len, Nat.add_sub_cancel_left, List.getElem?_append_left hi]
  exact hu
theorem blocks_prefix (m x : List UInt8) (s : St) : ∀ n, 64 * n ≤ m.length → blocks (m ++ x) s n = blocks m s n
  | 0, _ => rfl
  | n + 1, h => by
    rw [blocks, blocks, blocks_prefix m x s n (by omega)]
    congr 1
    rw [List.drop_append_of_le_length (by omega), List.take_append_of_le_length (by rw [List.length_drop]; omega)]
theorem str_pre {m blk : List UInt8} (hm : StrOK m blk) (x : List UInt8) : (blkAdd blk (m.length % 64) x).take (m.length % 64 + x.length) = (m ++ x).drop (64 * (m.length / 64)) := by
  unfold blkAdd
  rw [List.drop_append_of_le_length (by omega), ← hm.pre]
  have hl : (blk.take (m.length % 64) ++ x).length = m.length % 64 + x.length := by rw [List.length_append, List.length_take, hm.len]; omega
  rw [← hl, List.take_left]
theorem str_part {m blk : List UInt8} (hm : StrOK m blk) (x : List UInt8) (hx : m.length % 64 + x.length < 64) : StrOK (m ++ x) (blkAdd blk (m.length % 64) x) ∧ stOf (m ++ x) = stOf m := by
  have h1 : (m ++ x).length / 64 = m.length / 64 := by rw [List.length_append]; omega
  have h2 : (m ++ x).length % 64 = m.length % 64 + x.length := by rw [List.length_append]; omega
  refine ⟨⟨blkAdd_len hm.len (by omega), ?_⟩, ?_⟩
  · rw [h1, h2]; exact str_pre hm x
  · unfold stOf
    rw [h1, blocks_prefix _ _ _ _ (by omega)]
theorem str_full {m blk : List UInt8} (hm : StrOK m blk) (x : List UInt8) (hx : m.length % 64 + x.length = 64) : StrOK (m ++ x) (blkAdd blk (m.length % 64) x) ∧ stOf (m ++ x) = compr (stOf m) (blkAdd blk (m.length % 64) x) := by
  have h1 : (m ++ x).length / 64 = m.length / 64 + 1 := by rw [List.length_append]; omega
  have h2 : (m ++ x).length % 64 = 0 := by rw [List.length_append]; omega
  have hbl := blkAdd_len hm.len (x := x) (i := m.length % 64) (by omega)
  have hp := str_pre hm x
  rw [hx, List.take_of_length_le (by omega)] at hp
  refine ⟨⟨hbl, ?_⟩, ?_⟩
  · rw [h1, h2, List.take_zero, List.drop_of_length_le (by rw [List.length_append]; omega)]
  · unfold stOf
    rw [h1, blocks, blocks_prefix _ _ _ _ (by omega), ← hp, List.take_of_length_le (by omega)]
theorem stOf_ok (m : List UInt8) : (stOf m).ok := blocks_ok m sha0_ok _
theorem ext_str (l : List UInt8) (k : Nat) : (⟨l.toArray⟩ : ByteArray).extract k l.length = ⟨(l.drop k).toArray⟩ := by
  apply ByteArray.ext
  rw [ByteArray.data_extract]
  simp only [List.extract_toArray]
  congr 1
  rw [List.extract_eq_take_drop, List.take_of_length_le (by rw [List.length_drop]; omega)]
theorem str_nil : StrOK [] (List.replicate 64 0) := ⟨by simp, by simp⟩
/-- v is a stream whose message is m. -/
def IsStr (m : List UInt8) (v : Value) : Prop := ∃ blk, StrOK m blk ∧ v = .agg (stCells (stOf m) blk m.length).toArray
def RetStr (w : World) (m : List UInt8) (e : Ending) (w' : World) : Prop := ∃ v, e = .returned v ∧ IsStr m v ∧ Below w.heap.size w w'
end Go.Proofs.YtienlndjhcmemaaDoor
/-
  Begin and Add of a stream.
-/
namespace Go.Proofs.YtienlndjhcmemaaDoor
open Go.RowKit

def zeros73 : List Value := stCells ⟨0, 0, 0, 0, 0, 0, 0, 0⟩ (List.replicate 64 0) 0
theorem Tryd.ag_str : AgTy Tryd.prog 72 zeros73.toArray 73 := ⟨by kernel_rfl, by kernel_rfl, by decide⟩
theorem zeros73_len : zeros73.length = 73 := by decide
theorem Tryd.arr_b64 : Tryd.prog.underlying 70 = some (.array 64 5) := by kernel_rfl
theorem Tryd.one_u8 : (Tryd.prog.info? 5).map (·.size) = some 1 := by kernel_rfl
/-- The length of a text. -/
def strLen : Value → Nat
  | .string s => s.size
  | _ => 0
theorem strLen_mk (l : List UInt8) : strLen (.string ⟨l.toArray⟩) = l.length := by simp [strLen, ByteArray.size]

set_option maxRecDepth 100000 in
set_option maxHeartbeats 1000000 in
theorem begin_any (w : World) : Calls Tryd.prog 52 #[] w (RetStr w []) := by
  go_enter Tryd.func52, Tryd.ntmps52
  go_wp2_with (with_reducible refine alArr (z := zeros73) Tryd.ag_str (wn rfl) rfl ?_)
  intro w1 h0 hb
  obtain ⟨c0, hc0⟩ : ∃ c0, c0 = stCells (stOf []) (List.replicate 64 0) 0 := ⟨_, rfl⟩
  have l0 : c0.length = 73 := by rw [hc0]; rfl
  have o0 : ∀ u ∈ c0, u.oneCell' = true := by rw [hc0]; exact stCells_one _ _ _
  have L0 := Lib.hid l0
  have b1 : ∀ w : World, (Instr.build 72 #[(0, .agg #[.int .u32 1779033703, .int .u32 3144134277, .int .u32 1013904242, .int .u32 2773480762, .int .u32 1359893119, .int .u32 2600822924, .int .u32 528734635, .int .u32 1541459225])]).run Tryd.prog w = .ok (.agg c0.toArray) w := by
    intro w
    rw [hc0]
    kernel_rfl
  have HC := Lib.hid hc0
  have B1 := Lib.hid b1
  clear hc0 l0 b1
  go_wp2_with (first | (with_reducible refine bdVal B1.out (wn rfl) rfl ?hev ?hk) | (with_reducible refine stArr (cs := c0) (.tmp 0) (.tmp 2) Tryd.ag_str (wn rfl) rfl rfl rfl h0 zeros73_len L0.out o0 ?_))
  intro w2 h0 hkeep hbel
  go_wp2_with fail
  refine bodyPost_ret (v := .agg c0.toArray) ?_ rfl ⟨_, rfl, ⟨_, str_nil, by rw [HC.out]; rfl⟩, hb.trans (hbel _ (Nat.le_refl _))⟩
  exact res_cell1 c0 Tryd.results52 Tryd.ag_str _ rfl L0.out (fun j u hu => by rw [Nat.zero_add]; exact h0.cell hu)

set_option maxRecDepth 100000 in
set_option maxHeartbeats 1000000 in
theorem add_any (m text : List UInt8) (v : Value) (w : World) (ht : Tabs w) (hm : IsStr m v) (hl : m.length + text.length ≤ 1099511627776) : Calls Tryd.prog 53 #[v, sv text] w (RetStr w (m ++ text)) := by
  obtain ⟨blk, hok, rfl⟩ := hm
  obtain ⟨mt, hmt⟩ : ∃ mt, mt = m ++ text := ⟨_, rfl⟩
  rw [← hmt]
  have hlt : mt.length ≤ 1099511627776 := by rw [hmt, List.length_append]; exact hl
  have HMT := Lib.hid hmt
  clear hmt hl
  go_enter Tryd.func53, Tryd.ntmps53
  go_wp2_with (first | (with_reducible refine bxArr (cs := stCells (stOf m) blk m.length) (.tmp 0) (wn rfl) rfl rfl ?_) | (with_reducible refine alArr (z := zeros73) Tryd.ag_str (wn rfl) rfl ?_))
  intro w1 h2 hb
  go_wp2_with (first | (with_reducible refine alArr (z := zeros73) Tryd.ag_str (wn rfl) rfl ?_))
  intro w2 h4 hb2
  have hg := h2.lt
  replace h2 := h2.below hb2 h2.lt
  replace hb := hb.trans (hb2.mono hb.size)
  clear hb2
  generalize w1.heap.size = g4 at *
  go_wp2_with fail
  go_loopw [1] (fun sv_ wr => ∃ (m' rest blk' : List UInt8), m' ++ rest = mt ∧ sv_ = sv rest ∧ StrOK m' blk' ∧ Arr wr w.heap.size 72 (stCells (stOf m') blk' m'.length) ∧ Arr wr g4 72 zeros73 ∧ Below w.heap.size w wr)
    (fun sv_ _ => strLen sv_)
  case atStart => exact ⟨m, text, blk, HMT.out.symm, rfl, hok, h2, h4, hb⟩
  case round =>
    clear h2 h4 hb
    clear hok
    obtain ⟨m', rest, blk', hcat, rfl, hok, h2, h4, hb⟩ := hrel
    have hlen : m'.length + rest.length ≤ 1099511627776 := by
      have := congrArg List.length hcat
      simp only [List.length_append] at this
      omega
    by_cases hr : rest = []
    · subst hr
      unfold sv
      rw [List.append_nil] at hcat
      subst hcat
      go_wp2_with (first | (with_reducible refine ldArr (.tmp 2) Tryd.ag_str (wn rfl) rfl rfl (stCells_len _ _ hok.len) h2 ?_) | (with_reducible refine stArr (.tmp 4) (.tmp 37) Tryd.ag_str (wn rfl) rfl rfl rfl h4 zeros73_len (stCells_len _ _ hok.len) (stCells_one _ _ _) ?_))
      intro w5 h4 hkeep hbel
      go_wp2_with fail
      refine bodyPost_ret (v := .agg (stCells (stOf m') blk' m'.length).toArray) ?_ rfl ⟨_, rfl, ⟨blk', hok, rfl⟩, hb.trans (hbel _ (by omega))⟩
      exact res_cell1 _ Tryd.results53 Tryd.ag_str _ rfl (stCells_len _ _ hok.len) (fun j u hu => by rw [Nat.zero_add]; exact h4.cell hu)
    · have hpos : 0 < rest.length := List.length_pos_iff.2 hr
      have hne : rest.isEmpty = false := by simpa using hr
      clear hr
      have m64 : m'.length % 64 < 64 := Nat.mod_lt _ (by omega)
      have HCAT := Lib.hid hcat
      clear hcat
      have cn := h2.cell (stCells_at_n (stOf m') m'.length hok.len)
      have hfit : 8 + m'.length % 64 + (64 - m'.length % 64) ≤ (stCells (stOf m') blk' m'.length).length := by rw [stCells_len _ _ hok.len]; omega
      unfold sv
      go_wp2_with (first | (with_reducible refine slPtrL (.tmp 13) (.tmp 14) (m'.length % 64) Tryd.arr_b64 Tryd.one_u8 (wn rfl) rfl rfl rfl (by omega) (by omega) ?_) | (with_reducible refine cpStr (.tmp 15) (.tmp 16) rest Tryd.sl_u8.und Tryd.one_u8 (wn rfl) rfl rfl rfl h2 hfit ?_))
      intro w5 h2 hkeep hbel
      have hxl : (rest.take (64 - m'.length % 64)).length = min rest.length (64 - m'.length % 64) := by rw [List.length_take, Nat.min_comm]
      have hk1 : min rest.length (64 - m'.length % 64) ≤ rest.length := Nat.min_le_left _ _
      have hk2 : m'.length % 64 + min rest.length (64 - m'.length % 64) ≤ 64 := by omega
      have hk3 : m'.length % 64 + min rest.length (64 - m'.length % 64) < 64 → min rest.length (64 - m'.length % 64) = rest.length := by omega
      have hk4 : 0 < min rest.length (64 - m'.length % 64) := by omega
      have hxt : rest.take (64 - m'.length % 64) = rest.take (min rest.length (64 - m'.length % 64)) := by
        rcases Nat.le_total rest.length (64 - m'.length % 64) with h | h
        · rw [Nat.min_eq_left h, List.take_length, List.take_of_length_le h]
        · rw [Nat.min_eq_right h]
      rw [stCells_copy _ _ hok.len (by rw [hxl]; exact hk2)] at h2
      rw [hxt] at h2 hxl
      clear hxt hfit cn
      generalize min rest.length (64 - m'.length % 64) = k at *
      have h4 := hkeep _ _ _ (by omega) h4
      have hb := hb.trans (hbel _ (Nat.le_refl _))
      clear hkeep hbel
      have hbl := blkAdd_len (x := rest.take k) (i := m'.length % 64) hok.len (by omega)
      have cn := h2.cell (stCells_at_n (stOf m') m'.length hbl)
      have f72 := h2.thaw 72
      have HX := Lib.hid hxl
      have HK3 := Lib.hid hk3
      have HBL := Lib.hid hbl
      clear hxl hk3 hbl
      go_upto_region 6 with (fail)
      rw [ext_str]
      have hnv : Value.int .u64 ((m'.length : Int) + (k : Int)) = .int .u64 ((m'.length + k : Nat) : Int) := by rw [Int.natCast_add]
      rw [hnv]
      clear hnv
      replace h2 := h2.set 72 (.int .u64 ((m'.length + k : Nat) : Int))
      replace h4 := h4.other (i := 72) (v := .int .u64 ((m'.length + k : Nat) : Int)) (show w.heap.size ≠ g4 by omega)
      replace hb := hb.setCell (p := ⟨w.heap.size, 72, none⟩) (Nat.le_refl _) (.int .u64 ((m'.length + k : Nat) : Int))
      rw [stCells_n _ _ _ HBL.out] at h2
      clear cn f72
      generalize w5.setCell ⟨w.heap.size, 72, none⟩ (.int .u64 ((m'.length + k : Nat) : Int)) = w6 at *
      have hcat2 : (m' ++ rest.take k) ++ rest.drop k = mt := by rw [List.append_assoc, List.take_append_drop]; exact HCAT.out
      have hl2 : (m' ++ rest.take k).length = m'.length + k := by rw [List.length_append, HX.out]
      have HC2 := Lib.hid hcat2
      have HL2 := Lib.hid hl2
      have hmeas : rest.length - k < rest.length := by omega
      clear hcat2 hl2
      by_cases hf : m'.length % 64 + k = 64
      · have hfull := str_full hok (rest.take k) (by rw [HX.out]; exact hf)
        have hq : (((m'.length : Int) % 64 + (k : Int)) == 64) = true := by rw [beq_iff_eq]; omega
        have HF := Lib.hid hfull
        clear hfull hf
        go_wp2_with fail
        have hst := fun w' (hw : Arr w' w.heap.size 72 (stCells (stOf m') (blkAdd blk' (m'.length % 64) (rest.take k)) (m'.length + k))) (j : Nat) (u : Value) (hu : (stOf m').vals[j]? = some u) =>
          (hw.cell (i := 0 + j) (by rw [Nat.zero_add]; unfold stCells; rw [List.append_assoc, List.getElem?_append_left (List.getElem?_eq_some_iff.1 hu).1]; exact hu) : w'.cell? ⟨w.heap.size, 0 + j, none⟩ = some u)
        refine rgStart (fun _ => True) (by kernel_rfl) ?_
        refine rgTake (i := 0) (v := .pointer (some ⟨w.heap.size, 0, none⟩)) rfl (by kernel_rfl) (wn rfl) (fun _ _ _ h => h) (fun w _ => by kernel_rfl) trivial ?_
        refine rgTake (i := 2) (v := .pointer (some ⟨w.heap.size, 8, none⟩)) rfl (by kernel_rfl) (wn rfl) (fun _ _ _ h => h) (fun w _ => by kernel_rfl) trivial ?_
        refine rgTake (i := 3) (v := .slice (some ⟨w.heap.size, 8, none⟩) 64 64) rfl (by kernel_rfl) (wn rfl) (fun _ _ _ h => h) (fun w _ => by kernel_rfl) trivial ?_
        refine rgNext (i := 1) (by kernel_rfl) rfl ?_
        refine ldAgg (b := w.heap.size) (off := 0) (.tmp 31) (stOf m').vals Tryd.ag_w8 (wn rfl) rfl (by kernel_rfl) rfl (hst _ h2.drew) ?_
        refine rgBack trivial ?_
        refine rgNext (i := 4) (by kernel_rfl) rfl ?_
        have hrd : Rd w6.drew w6.heap.size 1 (some ⟨w.heap.size, 8, none⟩) 64 64 (bcs (blkAdd blk' (m'.length % 64) (rest.take k))) :=
          ⟨by rw [bcs_length]; exact HBL.out, Nat.le_refl _, by unfold maxLen; omega, fun _ => ⟨w.heap.size, 8, rfl, h2.lt, fun j u hu => h2.drew.cell (stCells_blk _ _ hu)⟩⟩
        have hsz : w6.heap.size ≤ w6.drew.heap.size := Nat.le_refl _
        have hdb : Below w.heap.size w w6.drew := hb.drew
        replace h2 := h2.drew
        replace h4 := h4.drew
        go_wp2_with fail
        refine (compress_any (stOf m') _ _ 64 64 _ w6.drew (stOf_ok m') (ht.below hdb ht.size) hrd hsz (Nat.le_refl _)).mono ?_
        rintro e w7 ⟨rfl, hb7⟩
        replace h2 := h2.below hb7 h2.lt
        replace h4 := h4.below hb7 h4.lt
        replace hb := hdb.trans (hb7.mono hdb.size)
        clear hrd hsz hdb hb7
        rw [← (HF.out).2] at *
        go_wp2_with fail
        refine ⟨trivial, ?_⟩
        refine rgTake (S := fun _ => True) (i := 5) (v := .pointer (some ⟨w.heap.size, 0, none⟩)) rfl (by kernel_rfl) (wn rfl) (fun _ _ _ h => h) (fun w _ => by kernel_rfl) trivial ?_
        refine rgNext (i := 6) (by kernel_rfl) rfl ?_
        refine stMid (g := w.heap.size) (off := 0) (.tmp 36) (.tmp 35) (stOf (m' ++ rest.take k)).vals Tryd.ag_w8 (wn rfl) rfl (by kernel_rfl) (by kernel_rfl) h2 rfl (by rw [stCells_len _ _ HBL.out]; omega) (St.vals_one _) ?_
        intro w8 h8 hkeep hbel
        rw [stCells_state] at h8
        replace h4 := hkeep _ _ _ (by omega) h4
        replace hb := hb.trans (hbel _ (Nat.le_refl _))
        refine rgBack trivial ?_
        refine rgDone (by kernel_rfl) ?_
        simp only [Act.put, List.setIfInBounds_toArray, List.set_cons_succ, List.set_cons_zero]
        go_wp2_with fail
        go_roundw
        case rel =>
          refine ⟨m' ++ rest.take k, rest.drop k, _, HC2.out, rfl, HF.out.1, ?_, h4, hb⟩
          rw [HL2.out]
          exact h8
        case measure => simpa [strLen_mk] using hmeas
      · have hpart := str_part hok (rest.take k) (by rw [HX.out]; omega)
        have hq : (((m'.length : Int) % 64 + (k : Int)) == 64) = false := by rw [beq_eq_false_iff_ne]; omega
        have HP := Lib.hid hpart
        clear hpart hf
        go_wp2_with fail
        go_roundw
        case rel =>
          refine ⟨m' ++ rest.take k, rest.drop k, _, HC2.out, rfl, HP.out.1, ?_, h4, hb⟩
          rw [HP.out.2, HL2.out]
          exact h2
        case measure => simpa [strLen_mk] using hmeas
end Go.Proofs.YtienlndjhcmemaaDoor
/-
  Sum of a stream returns the hash of its message; hash.Sum.
-/
namespace Go.Proofs.YtienlndjhcmemaaDoor
open Go.RowKit

theorem Tryd.und_str : Tryd.prog.underlying 9 = some .string := by kernel_rfl
theorem Tryd.und_u8 : Tryd.prog.underlying 5 = some (.int .u8) := by kernel_rfl
theorem sha_stOf (m : List UInt8) : sha m = outOf (stOf (m ++ padding m.length)) := rfl

set_option maxRecDepth 100000 in
set_option maxHeartbeats 1000000 in
theorem strSum_any (m : List UInt8) (v : Value) (w : World) (ht : Tabs w) (hm : IsStr m v) (hl : m.length ≤ 1000000000000) : Calls Tryd.prog 55 #[v] w fun e w' => e = .returned (.agg (bcs (sha m)).toArray) ∧ Below w.heap.size w w' := by
  obtain ⟨blk, hok, rfl⟩ := hm
  generalize hn : m.length = n at *
  go_enter Tryd.func55, Tryd.ntmps55
  go_wp2_with (first | (with_reducible refine bxArr (cs := stCells (stOf m) blk n) (.tmp 0) (wn rfl) rfl rfl ?_) | (with_reducible refine alArr (z := zerosB 32) Tryd.ag_b32 (wn rfl) rfl ?_))
  intro w1 h1 hb
  go_wp2_with (first | (with_reducible refine alArr (z := zerosB 32) Tryd.ag_b32 (wn rfl) rfl ?_))
  intro w2 h2 hb2
  have hg := h1.lt
  replace h1 := h1.below hb2 h1.lt
  replace hb := hb.trans (hb2.mono hb.size)
  clear hb2
  have hg2 := h2.lt
  generalize w1.heap.size = g2 at *
  have cn := h1.cell (stCells_at_n (stOf m) n hok.len)
  have hp := padLen_pos n
  have HN := Lib.hid hn
  clear hn
  have hown := World.ownsRow_lit (base := w2.heap.size) (e := 5) (size := 1) w2 #[.int .u8 128] 1 (Nat.le_refl _) (by unfold maxLen; omega) rfl
  have hb3 : Below w2.heap.size w2 (w2.alloc (.cells #[.int .u8 128] 5)) := (Below.refl _ _).alloc (Nat.le_refl _) _
  go_wp2_with fail
  go_loopw [4] (fun v wr => ∃ k : Nat, k ≤ padLen n - 1 ∧ wr.ownsRow w2.heap.size 5 1 v (1 + k) (bcs (128 :: List.replicate k 0)) ∧ Below w2.heap.size w2 wr) (fun v _ => padLen n - (match v with | .slice _ m _ => m | _ => 0))
  case atStart => exact ⟨0, by omega, hown, hb3⟩
  case round =>
    clear hown hb3
    obtain ⟨k, hk, hown, hb3⟩ := hrel
    obtain ⟨A3, c3, rfl, _⟩ := Rd.of_own hown
    have cn := (hb3.cell (p := ⟨w.heap.size, 72, none⟩) (show w.heap.size < w2.heap.size by omega)).trans cn
    have hpd := pad_done n k hk
    by_cases hd : k = padLen n - 1
    · have hd' : (n + 1 + k) % 64 = 56 := hpd.2 hd
      have HD := Lib.hid hd
      have hbq : (((n : Int) + (1 + (k : Int))) % 64 != 56) = false := by rw [bne_eq_false_iff_eq]; omega
      clear hpd hd hd'
      go_wp2_with fail
      clear hbq
      go_loopw [4, 23] (fun v iv_ wr => ∃ i : Nat, i ≤ 8 ∧ iv_ = .int .i64 i ∧ wr.ownsRow w2.heap.size 5 1 v (1 + k + i) (bcs (128 :: (List.replicate k 0 ++ (be8 (8 * n)).take i))) ∧ Below w2.heap.size w2 wr) (fun _ iv_ _ => 8 - (intOf iv_).toNat)
      case atStart => exact ⟨0, by omega, rfl, by simpa using hown, hb3⟩
      case round =>
        clear hown hb3 cn
        rename_i wo wr
        obtain ⟨i, hi8, rfl, hown, hb3⟩ := hrel
        obtain ⟨A4, c4, rfl, _⟩ := Rd.of_own hown
        by_cases hi : i < 8
        · have e1 : (56 - 8 * (i : Int)).toNat = 56 - 8 * i := by omega
          go_wp2_with (at_builtin; with_reducible refine app1 _ _ Tryd.sl_u8 (wn rfl) rfl rfl rfl hown hb3 (Nat.le_refl _) rfl (by omega) (by omega) ?_)
          intro v5 w5 hown5 hb5 _
          rw [shr_byte, bcs_snoc] at hown5
          clear hown hb3
          have hnx := be8_next (8 * n) i hi
          have HNX := Lib.hid hnx
          clear hnx
          go_wp2_with fail
          go_roundw
          case rel => exact ⟨i + 1, by omega, by go_num, ownsRow_count hown5 (by omega) (by rw [← HNX.out]; congr 1; simp), hb5⟩
          case measure => simp [intOf]; omega
        · obtain rfl : i = 8 := by omega
          have hpd : 128 :: (List.replicate k 0 ++ (be8 (8 * n)).take 8) = padding n := by rw [HD.out]; rfl
          rw [hpd] at hown
          obtain ⟨_, _, hv, hrd⟩ := Rd.of_own hown
          cases hv
          have hpl : (padding n).length = 1 + k + 8 := by rw [← hpd]; simp [be8]; omega
          have HPL := Lib.hid hpl
          clear hpd hpl hown
          replace h1 := h1.below hb3 h1.lt
          replace h2 := h2.below hb3 h2.lt
          replace hb := hb.trans (hb3.mono hb.size)
          clear hb3 cn
          have hIs : IsStr m (.agg (stCells (stOf m) blk n).toArray) := ⟨blk, hok, by rw [HN.out]⟩
          have ht' := ht.below hb ht.size
          have hadd := add_any m (padding n) _ wr ht' hIs (by rw [HN.out, HPL.out]; omega)
          have hk64 := padLen_pos n
          clear hIs ht'
          have hsha : sha m = outOf (stOf (m ++ padding n)) := by rw [← HN.out]; exact sha_stOf m
          have HS := Lib.hid hsha
          clear hsha
          generalize m ++ padding n = M at *
          unfold sv at hadd
          go_wp2_with (first | (with_reducible refine ldArr (.tmp 1) Tryd.ag_str (wn rfl) rfl rfl (stCells_len _ _ hok.len) h1 ?_) | (with_reducible refine convStr (.tmp 37) (padding n) Tryd.sl_u8.und Tryd.und_u8 Tryd.und_str (wn rfl) rfl rfl hrd ?_))
          refine hadd.mono ?_
          rintro e w5 ⟨v', rfl, ⟨blk2, hok2, rfl⟩, hb5⟩
          replace h1 := h1.below hb5 h1.lt
          replace h2 := h2.below hb5 h2.lt
          replace hb := hb.trans (hb5.mono hb.size)
          clear hb5 hadd hrd
          go_wp2_with (with_reducible refine stArr (cs := stCells (stOf M) blk2 M.length) (.tmp 1) (.tmp 39) Tryd.ag_str (wn rfl) rfl rfl rfl h1 (stCells_len _ _ hok.len) (stCells_len _ _ hok2.len) (stCells_one _ _ _) ?_)
          intro w6 h1 hkeep hbel
          replace h2 := hkeep _ _ _ (by omega) h2
          replace hb := hb.trans (hbel _ (Nat.le_refl _))
          clear hkeep hbel
          go_wp2_with (with_reducible refine alArr (z := zerosB 32) Tryd.ag_b32 (wn rfl) rfl ?_)
          intro wa h12 hba
          have hg12 := h2.lt
          have hg12' := h1.lt
          replace h1 := h1.below hba h1.lt
          replace h2 := h2.below hba h2.lt
          replace hb := hb.trans (hba.mono hb.size)
          clear hba
          generalize w6.heap.size = g12 at *
          have k1 : g12 ≠ w.heap.size := by omega
          have k2 : g12 ≠ g2 := by omega
          have k3 : w.heap.size ≤ g12 := by omega
          clear hg12 hg12'
          have hshl : (sha m).length = 32 := by rw [HS.out]; exact outOf_len _
          have HSL := Lib.hid hshl
          have HG := Lib.hid (fun (s : St) => outOf_get s)
          clear hshl
          generalize stOf M = sq at *
          rw [← laidB_0 (sha m)] at h12
          go_wp2_with fail
          go_loopw [40] (fun iv_ wr => ∃ i : Nat, i ≤ 32 ∧ iv_ = .int .i64 i ∧ Arr wr w.heap.size 72 (stCells sq blk2 M.length) ∧ Arr wr g2 76 (zerosB 32) ∧ Arr wr g12 76 (laidB (sha m) 32 i) ∧ Below w.heap.size w wr) (fun iv_ _ => 32 - (intOf iv_).toNat)
          case atStart => exact ⟨0, by omega, rfl, h1, h2, h12, hb⟩
          case round =>
            clear h1 h2 h12 hb
            rename_i wo2 wr
            obtain ⟨i, hi32, rfl, h1, h2, h12, hb⟩ := hrel
            by_cases hi : i < 32
            · have c1 : wr.cell? ⟨w.heap.size, i / 4, none⟩ = some (.int .u32 (nth sq.list (i / 4))) := h1.cell (stCells_get sq _ _ (by omega))
              have c2 := h12.cell (laidB_at (sha m) 32 i HSL.out hi)
              have f1 := h12.thaw i
              have i1 : ((i : Int) / 4).toNat = i / 4 := by omega
              have i2 : (24 - 8 * ((i : Int) % 4)).toNat = 24 - 8 * (i % 4) := by omega
              have hgb := laidB_next (sha m) 32 i _ HSL.out (by rw [HS.out]; exact HG.out sq i hi)
              have HB := Lib.hid hgb
              clear hgb
              go_wp2_with fail
              rw [out_byte]
              go_roundw
              case rel =>
                refine ⟨i + 1, by omega, by go_num, h1.other k1 _ _, h2.other k2 _ _, ?_, hb.setCell (show w.heap.size ≤ g12 from k3) _⟩
                rw [← HB.out]
                exact h12.set i _
              case measure => (simp [intOf]; try omega)
            · obtain rfl : i = 32 := by omega
              rw [laidB_n _ _ HSL.out] at h12
              have hl32 : (bcs (sha m)).length = 32 := by rw [bcs_length]; exact HSL.out
              have HL32 := Lib.hid hl32
              clear hl32
              go_wp2_with (first | (with_reducible refine ldArr (.tmp 6) Tryd.ag_b32 (wn rfl) rfl rfl HL32.out h12 ?_) | (with_reducible refine stArr (.tmp 2) (.tmp 57) Tryd.ag_b32 (wn rfl) rfl rfl rfl h2 (zerosB_len _) HL32.out (bcs_one _) ?_))
              intro wz h2 hkeep hbel
              go_wp2_with fail
              refine bodyPost_ret (v := .agg (bcs (sha m)).toArray) ?_ rfl ⟨rfl, hb.trans (hbel _ (by omega))⟩
              exact res_cell1 (bcs (sha m)) Tryd.results55 Tryd.ag_b32 _ rfl HL32.out (fun j u hu => by rw [Nat.zero_add]; exact h2.cell hu)
    · have hd' : ¬ (n + 1 + k) % 64 = 56 := fun h => hd (hpd.1 h)
      have hk' : k < padLen n - 1 := by omega
      have hbq : (((n : Int) + (1 + (k : Int))) % 64 != 56) = true := by rw [bne_iff_ne]; omega
      clear hpd hd
      go_wp2_with (at_builtin; with_reducible refine app1 _ _ Tryd.sl_u8 (wn rfl) rfl rfl rfl hown hb3 (Nat.le_refl _) rfl (by omega) (by omega) ?_)
      intro v5 w5 hown5 hb5 _
      clear hown hb3
      obtain ⟨A5, c5, rfl, _⟩ := Rd.of_own hown5
      go_wp2_with fail
      go_roundw
      case rel => exact ⟨k + 1, by omega, ownsRow_count hown5 (by omega) (by rw [show (Value.int .u8 0) = bc 0 from rfl, bcs_snoc]; congr 1; rw [List.cons_append, ← List.replicate_succ']), hb5⟩
      case measure => simp; omega
end Go.Proofs.YtienlndjhcmemaaDoor
/-
  hash.Sum returns the hash of its argument.
-/
namespace Go.Proofs.YtienlndjhcmemaaDoor
open Go.RowKit

set_option maxRecDepth 100000 in
set_option maxHeartbeats 1000000 in
theorem sum_any (l : List UInt8) (A : Option Addr) (n c B : Nat) (w : World) (ht : Tabs w) (hr : Rd w B 1 A n c (bcs l)) (hB : B ≤ w.heap.size) (hn : n ≤ 1000000000000) :
    Calls Tryd.prog 61 #[.slice A n c] w fun e w' => e = .returned (.agg (bcs (sha l)).toArray) ∧ Below w.heap.size w w' := by
  have hl : l.length = n := by have := hr.len; simpa [bcs] using this
  have hl32 : (bcs (sha l)).length = 32 := by rw [bcs_length]; exact outOf_len _
  have HL := Lib.hid hl
  have HL32 := Lib.hid hl32
  clear hl hl32
  go_enter Tryd.func61, Tryd.ntmps61
  go_wp2_with (first | (with_reducible refine alArr (z := zerosB 32) Tryd.ag_b32 (wn rfl) rfl ?_))
  intro w1 h2 hb
  have hs1 : ∀ w', Below w.heap.size w w' → Rd w' B 1 A n c (bcs l) := fun w' h => hr.below (h.mono hB)
  go_wp2_with fail
  refine rgStart (fun w' => Below w.heap.size w w') (by kernel_rfl) ?_
  refine rgTake (i := 1) (v := .slice A n c) rfl (by kernel_rfl) (wn rfl) (fun _ _ _ h => h) (fun w _ => by kernel_rfl) hb.drew ?_
  refine rgConvStr (i := 2) (.tmp 4) l Tryd.sl_u8.und Tryd.und_u8 Tryd.und_str rfl (by kernel_rfl) (wn rfl) (fun _ _ _ h => h) rfl (by kernel_rfl) hs1 hb.drew ?_
  refine rgNext (i := 0) (by kernel_rfl) rfl ?_
  replace hb := hb.drew
  replace h2 := h2.drew
  go_wp2_with fail
  refine (begin_any _).mono ?_
  rintro e w2 ⟨v1, rfl, hv1, hb2⟩
  replace h2 := h2.below hb2 h2.lt
  replace hb := hb.trans (hb2.mono hb.size)
  clear hb2
  go_wp2_with fail
  refine ⟨hb, ?_⟩
  refine rgNext (S := fun w' => Below w.heap.size w w') (i := 3) (by kernel_rfl) rfl ?_
  go_wp2_with fail
  have hadd := add_any [] l v1 w2 (ht.below hb ht.size) hv1 (by rw [HL.out]; simp; omega)
  unfold sv at hadd
  rw [List.nil_append] at hadd
  refine hadd.mono ?_
  rintro e w3 ⟨v2, rfl, hv2, hb3⟩
  replace h2 := h2.below hb3 h2.lt
  replace hb := hb.trans (hb3.mono hb.size)
  clear hb3 hadd
  go_wp2_with fail
  refine ⟨hb, ?_⟩
  refine rgNext (S := fun w' => Below w.heap.size w w') (i := 4) (by kernel_rfl) rfl ?_
  go_wp2_with fail
  refine (strSum_any l v2 w3 (ht.below hb ht.size) hv2 (by rw [HL.out]; exact hn)).mono ?_
  rintro e w4 ⟨rfl, hb4⟩
  replace h2 := h2.below hb4 h2.lt
  replace hb := hb.trans (hb4.mono hb.size)
  clear hb4
  go_wp2_with fail
  refine ⟨hb, ?_⟩
  refine rgNext (S := fun w' => Below w.heap.size w w') (i := 5) (by kernel_rfl) rfl ?_
  refine stArr (cs := bcs (sha l)) (b := w.heap.size) (.tmp 2) (.tmp 7) Tryd.ag_b32 (wn rfl) rfl (by kernel_rfl) (by kernel_rfl) h2 (zerosB_len _) HL32.out (bcs_one _) ?_
  intro w5 h2 hkeep hbel
  replace hb := hb.trans (hbel _ (Nat.le_refl _))
  refine rgBack hb ?_
  refine rgDone (by kernel_rfl) ?_
  go_wp2_with fail
  refine bodyPost_ret (v := .agg (bcs (sha l)).toArray) ?_ rfl ⟨rfl, hb⟩
  exact res_cell1 (bcs (sha l)) Tryd.results61 Tryd.ag_b32 _ rfl HL32.out (fun j u hu => by rw [Nat.zero_add]; exact h2.cell hu)
end Go.Proofs.YtienlndjhcmemaaDoor
/-
  Bytes32, Text, Short, Few, Joined of the specification.
-/
namespace Go.Proofs.YtienlndjhcmemaaDoor
open Go.RowKit

theorem bcs_at {l : List UInt8} {i : Nat} (h : i < l.length) : ∃ b, l[i]? = some b ∧ (bcs l)[i]? = some (bc b) := ⟨l[i], List.getElem?_eq_getElem h, by unfold bcs; rw [List.getElem?_map, List.getElem?_eq_getElem h]; rfl⟩
theorem bc_one (b : UInt8) : (bc b).oneCell' = true := rfl
theorem take_next {l : List UInt8} {i : Nat} {b : UInt8} (h : l[i]? = some b) : l.take i ++ [b] = l.take (i + 1) := by
  have hi := (List.getElem?_eq_some_iff.1 h).1
  rw [List.take_succ_eq_append_getElem hi]
  congr 2
  rw [List.getElem?_eq_getElem hi] at h
  exact (Option.some.inj h).symm

set_option maxRecDepth 100000 in
set_option maxHeartbeats 1000000 in
theorem bytes32_any (l : List UInt8) (w : World) (hl : l.length = 32) : Calls Tryd.prog 64 #[.agg (bcs l).toArray] w fun e w' => e = .returned (sv l) ∧ Below w.heap.size w w' := by
  have HL := Lib.hid hl
  clear hl
  go_enter Tryd.func64, Tryd.ntmps64
  go_wp2_with (with_reducible refine bxArr (cs := bcs l) (.tmp 0) (wn rfl) rfl rfl ?_)
  intro w1 h1 hb
  go_wp2_with fail
  go_loopw [3, 4] (fun v iv_ wr => ∃ i : Nat, i ≤ 32 ∧ iv_ = .int .i64 i ∧ wr.ownsRow w1.heap.size 5 1 v i (bcs (l.take i)) ∧ Below w1.heap.size w1 wr) (fun _ iv_ _ => 32 - (intOf iv_).toNat)
  case atStart => exact ⟨0, by omega, rfl, World.ownsRow_nil _ _ _ _, Below.refl _ _⟩
  case round =>
    obtain ⟨i, hi, rfl, hown, hbw⟩ := hrel
    by_cases hlt : i < 32
    · obtain ⟨b, hb1, hb2⟩ := bcs_at (l := l) (i := i) (by rw [HL.out]; exact hlt)
      have hc : wr.cell? ⟨w.heap.size, i, none⟩ = some (.int .u8 (b.toNat : Int)) := (h1.below hbw h1.lt).cell hb2
      have hnx := take_next hb1
      have HNX := Lib.hid hnx
      clear hnx hb1 hb2
      go_wp2_with (at_builtin; with_reducible refine app1 _ _ Tryd.sl_u8 (wn rfl) rfl rfl rfl hown hbw (Nat.le_refl _) rfl (by omega) (by omega) ?_)
      intro v' w' h3 h4 _
      rw [show (Value.int .u8 (b.toNat : Int)) = bc b from rfl, bcs_snoc, HNX.out] at h3
      clear hown hbw hc
      go_wp2_with fail
      go_roundw
      case rel => exact ⟨i + 1, by omega, by go_num, h3, h4⟩
      case measure => (simp [intOf]; try omega)
    · obtain rfl : i = 32 := by omega
      rw [List.take_of_length_le (by rw [HL.out]; exact Nat.le_refl _)] at hown
      obtain ⟨A, c, rfl, hrd⟩ := Rd.of_own hown
      go_wp2_with (with_reducible refine convStr (.tmp 15) l Tryd.sl_u8.und Tryd.und_u8 Tryd.und_str (wn rfl) rfl rfl hrd ?_)
      go_wp2_with fail
      go_ret
      exact ⟨rfl, hb.trans (hbw.mono hb.size)⟩
set_option maxRecDepth 100000 in
set_option maxHeartbeats 1000000 in
theorem text_any (l : List UInt8) (w : World) (hl : l.length = 16) : Calls Tryd.prog 33 #[.agg (bcs l).toArray] w fun e w' => e = .returned (sv l) ∧ Below w.heap.size w w' := by
  have HL := Lib.hid hl
  clear hl
  go_enter Tryd.func33, Tryd.ntmps33
  go_wp2_with (with_reducible refine bxArr (cs := bcs l) (.tmp 0) (wn rfl) rfl rfl ?_)
  intro w1 h1 hb
  go_wp2_with fail
  go_loopw [3, 4] (fun v iv_ wr => ∃ i : Nat, i ≤ 16 ∧ iv_ = .int .i64 i ∧ wr.ownsRow w1.heap.size 5 1 v i (bcs (l.take i)) ∧ Below w1.heap.size w1 wr) (fun _ iv_ _ => 16 - (intOf iv_).toNat)
  case atStart => exact ⟨0, by omega, rfl, World.ownsRow_nil _ _ _ _, Below.refl _ _⟩
  case round =>
    obtain ⟨i, hi, rfl, hown, hbw⟩ := hrel
    by_cases hlt : i < 16
    · obtain ⟨b, hb1, hb2⟩ := bcs_at (l := l) (i := i) (by rw [HL.out]; exact hlt)
      have hc : wr.cell? ⟨w.heap.size, i, none⟩ = some (.int .u8 (b.toNat : Int)) := (h1.below hbw h1.lt).cell hb2
      have hnx := take_next hb1
      have HNX := Lib.hid hnx
      clear hnx hb1 hb2
      go_wp2_with (at_builtin; with_reducible refine app1 _ _ Tryd.sl_u8 (wn rfl) rfl rfl rfl hown hbw (Nat.le_refl _) rfl (by omega) (by omega) ?_)
      intro v' w' h3 h4 _
      rw [show (Value.int .u8 (b.toNat : Int)) = bc b from rfl, bcs_snoc, HNX.out] at h3
      clear hown hbw hc
      go_wp2_with fail
      go_roundw
      case rel => exact ⟨i + 1, by omega, by go_num, h3, h4⟩
      case measure => (simp [intOf]; try omega)
    · obtain rfl : i = 16 := by omega
      rw [List.take_of_length_le (by rw [HL.out]; exact Nat.le_refl _)] at hown
      obtain ⟨A, c, rfl, hrd⟩ := Rd.of_own hown
      go_wp2_with (with_reducible refine convStr (.tmp 15) l Tryd.sl_u8.und Tryd.und_u8 Tryd.und_str (wn rfl) rfl rfl hrd ?_)
      go_wp2_with fail
      go_ret
      exact ⟨rfl, hb.trans (hbw.mono hb.size)⟩
end Go.Proofs.YtienlndjhcmemaaDoor
/-
  Laws on exclusive or, for the pads of Mac.
-/
namespace Go.Proofs.YtienlndjhcmemaaDoor
open Go.RowKit

theorem xor_zero (a b : UInt8) : (a.toNat ^^^ b.toNat = 0) ↔ a = b := by
  constructor
  · intro h
    have : a.toNat = b.toNat := by
      have h2 : a.toNat ^^^ b.toNat ^^^ b.toNat = 0 ^^^ b.toNat := by rw [h]
      rwa [Nat.xor_assoc, Nat.xor_self, Nat.xor_zero, Nat.zero_xor] at h2
    exact UInt8.toNat_inj.1 this
  · rintro rfl; exact Nat.xor_self _
theorem or_zero {a b : Nat} : (a ||| b = 0) ↔ a = 0 ∧ b = 0 := by
  constructor
  · intro h
    have h1 := Nat.left_le_or (n := a) (m := b)
    have h2 := Nat.right_le_or (n := a) (m := b)
    omega
  · rintro ⟨rfl, rfl⟩; rfl
theorem u8_or_n (a b : Nat) (ha : a < 256) (hb : b < 256) : bits .or .u8 (a : Int) (b : Int) = ((a ||| b : Nat) : Int) := u8_or_nat a b ha hb
theorem u8_xor_n (a b : Nat) (ha : a < 256) (hb : b < 256) : bits .xor .u8 (a : Int) (b : Int) = ((a ^^^ b : Nat) : Int) := u8_xor_nat a b ha hb
theorem take_eq_next {a b : List UInt8} {i : Nat} {x y : UInt8} (hx : a[i]? = some x) (hy : b[i]? = some y) : (a.take (i + 1) = b.take (i + 1)) ↔ (a.take i = b.take i ∧ x = y) := by
  rw [← take_next hx, ← take_next hy]
  have h1 := (List.getElem?_eq_some_iff.1 hx).1
  have h2 := (List.getElem?_eq_some_iff.1 hy).1
  constructor
  · intro h
    have := List.append_inj h (by rw [List.length_take, List.length_take]; omega)
    exact ⟨this.1, by simpa using this.2⟩
  · rintro ⟨h, rfl⟩; rw [h]

end Go.Proofs.YtienlndjhcmemaaDoor
/-
  Stands between Equal and Bytes where the program has no hex.
-/
namespace Go.Proofs.YtienlndjhcmemaaDoor
theorem bcs2 (x y : UInt8) : [bc x, bc y] = bcs [x, y] := rfl
end Go.Proofs.YtienlndjhcmemaaDoor
/-
  wire.Bytes and the reference's Bytes return the length and the text, in a new row.
-/
namespace Go.Proofs.YtienlndjhcmemaaDoor
open Go.RowKit

set_option maxRecDepth 100000 in
set_option maxHeartbeats 400000 in
theorem bytes_any (s : List UInt8) (w : World) (h : s.length ≤ 70368744177664) :
    Calls Tryd.prog 54 #[sv s] w (RetRow w 5 1 (encS s).length (bcs (encS s))) := by
  have hsz : (⟨s.toArray⟩ : ByteArray).size = s.length := by simp [ByteArray.size]
  have hel := enc_len s.length
  have HL := Lib.hid (show (enc s.length).length + s.length = (encS s).length by simp [encS])
  have HS := Lib.hid (show bcs (enc s.length) ++ bcs s = bcs (encS s) by simp [encS, bcs_append])
  unfold sv
  go_enter Tryd.func54, Tryd.ntmps54
  go_wp2_with fail
  refine (int_any _ _ (by omega) (by omega)).mono ?_
  rintro e w1 ⟨v, rfl, hown, hb⟩
  go_wp2_with (at_builtin; with_reducible refine appS _ _ ⟨s.toArray⟩ Tryd.sl_u8 Tryd.und_str (wn rfl) rfl rfl rfl hown hb (Nat.le_refl _) (by rw [hsz]; omega) ?_)
  intro v' w' h3 h4 _
  clear hown hb
  go_wp2
  go_ret
  exact ⟨_, rfl, ownsRow_count h3 HL.out HS.out, h4⟩

set_option maxRecDepth 100000 in
set_option maxHeartbeats 400000 in
theorem refBytes_any (s : List UInt8) (w : World) (h : s.length ≤ 70368744177664) :
    Calls Tryd.prog 67 #[sv s] w (RetRow w 5 1 (encS s).length (bcs (encS s))) := by
  have hsz : (⟨s.toArray⟩ : ByteArray).size = s.length := by simp [ByteArray.size]
  have hel := enc_len s.length
  have HL := Lib.hid (show (enc s.length).length + s.length = (encS s).length by simp [encS])
  have HS := Lib.hid (show bcs (enc s.length) ++ bcs s = bcs (encS s) by simp [encS, bcs_append])
  unfold sv
  go_enter Tryd.func67, Tryd.ntmps67
  go_wp2_with fail
  refine (refInt_any _ _ (by omega) (by omega)).mono ?_
  rintro e w1 ⟨v, rfl, hown, hb⟩
  go_wp2_with (at_builtin; with_reducible refine appS _ _ ⟨s.toArray⟩ Tryd.sl_u8 Tryd.und_str (wn rfl) rfl rfl rfl hown hb (Nat.le_refl _) (by rw [hsz]; omega) ?_)
  intro v' w' h3 h4 _
  clear hown hb
  go_wp2
  go_ret
  exact ⟨_, rfl, ownsRow_count h3 HL.out HS.out, h4⟩

end Go.Proofs.YtienlndjhcmemaaDoor
/-
  The code of a text with a key, as plain functions. No program in sight.
-/
namespace Go.Proofs.YtienlndjhcmemaaDoor
open Go.RowKit

def keyPad (k : List UInt8) : List UInt8 := k ++ List.replicate (64 - k.length) 0
def xorPad (k : List UInt8) (x : UInt8) : List UInt8 := (keyPad k).map (· ^^^ x)
def macKey (k : List UInt8) : List UInt8 := if 64 < k.length then sha k else k
def mac (k t : List UInt8) : List UInt8 := sha (xorPad (macKey k) 92 ++ sha (xorPad (macKey k) 54 ++ t))
theorem sha_len (l : List UInt8) : (sha l).length = 32 := outOf_len _
theorem macKey_le (k : List UInt8) : (macKey k).length ≤ 64 := by
  unfold macKey
  by_cases h : 64 < k.length
  · rw [if_pos h, sha_len]; omega
  · rw [if_neg h]; omega
theorem keyPad_len {k : List UInt8} (h : k.length ≤ 64) : (keyPad k).length = 64 := by unfold keyPad; simp; omega
theorem xorPad_len {k : List UInt8} (x : UInt8) (h : k.length ≤ 64) : (xorPad k x).length = 64 := by unfold xorPad; rw [List.length_map, keyPad_len h]
/-- The first i bytes are combined. -/
def xorTo (k : List UInt8) (x : UInt8) (i : Nat) : List UInt8 := ((keyPad k).take i).map (· ^^^ x) ++ (keyPad k).drop i
theorem xorTo_0 (k : List UInt8) (x : UInt8) : xorTo k x 0 = keyPad k := by simp [xorTo]
theorem xorTo_64 {k : List UInt8} (x : UInt8) (h : k.length ≤ 64) : xorTo k x 64 = xorPad k x := by
  unfold xorTo xorPad
  rw [List.take_of_length_le (by rw [keyPad_len h]; omega), List.drop_of_length_le (by rw [keyPad_len h]; omega), List.append_nil]
theorem xorTo_len {k : List UInt8} (x : UInt8) {i : Nat} (h : k.length ≤ 64) (hi : i ≤ 64) : (xorTo k x i).length = 64 := by
  unfold xorTo
  rw [List.length_append, List.length_map, List.length_take, List.length_drop, keyPad_len h]
  omega
theorem xorTo_at {k : List UInt8} (x : UInt8) {i : Nat} {b : UInt8} (hb : (keyPad k)[i]? = some b) : (xorTo k x i)[i]? = some b := by
  have hi := (List.getElem?_eq_some_iff.1 hb).1
  unfold xorTo
  rw [List.getElem?_append_right (by rw [List.length_map, List.length_take]; omega), List.length_map, List.length_take, Nat.min_eq_left (by omega), Nat.sub_self, List.getElem?_drop, Nat.add_zero, hb]
theorem xorTo_next {k : List UInt8} (x : UInt8) {i : Nat} {b : UInt8} (hb : (keyPad k)[i]? = some b) : (bcs (xorTo k x i)).set i (bc (b ^^^ x)) = bcs (xorTo k x (i + 1)) := by
  have hi := (List.getElem?_eq_some_iff.1 hb).1
  have e1 : xorTo k x i = ((keyPad k).take i).map (· ^^^ x) ++ b :: (keyPad k).drop (i + 1) := by
    unfold xorTo
    congr 1
    rw [List.drop_eq_getElem_cons hi]
    congr 1
    rw [List.getElem?_eq_getElem hi] at hb
    exact Option.some.inj hb
  have e2 : xorTo k x (i + 1) = ((keyPad k).take i).map (· ^^^ x) ++ (b ^^^ x) :: (keyPad k).drop (i + 1) := by
    unfold xorTo
    rw [← take_next hb]
    simp
  have e5 : ∀ (p q : List Value) (x y : Value), (p ++ x :: q).set p.length y = p ++ y :: q := by
    intro p q x y
    induction p with
    | nil => rfl
    | cons a p ih => simp
  have hl : (bcs (((keyPad k).take i).map (· ^^^ x))).length = i := by rw [bcs_length, List.length_map, List.length_take]; omega
  rw [e1, e2, bcs_append, bcs_append]
  have h3 := e5 (bcs (((keyPad k).take i).map (· ^^^ x))) (bcs ((keyPad k).drop (i + 1))) (bc b) (bc (b ^^^ x))
  rw [hl] at h3
  exact h3
theorem xor_bc (b x : UInt8) : Value.int .u8 (bits .xor .u8 (b.toNat : Int) (x.toNat : Int)) = bc (b ^^^ x) := by
  rw [u8_xor_n _ _ b.toNat_lt x.toNat_lt]
  unfold bc
  rw [UInt8.toNat_xor]
/-- A text's bytes at the head of zeros. -/
theorem spl_zeros (k : List UInt8) (h : k.length ≤ 64) : spl (zerosB 64) 0 (bcs (k.take 64)) = bcs (keyPad k) := by
  unfold spl keyPad zerosB
  rw [List.take_of_length_le h, List.take_zero, List.nil_append, Nat.zero_add, bcs_append, bcs_length, List.drop_replicate]
  congr 1
  simp [bcs, bc]
end Go.Proofs.YtienlndjhcmemaaDoor
/-
  hash.Mac returns the code; its closure the padded key.
-/
namespace Go.Proofs.YtienlndjhcmemaaDoor
open Go.RowKit

theorem Tryd.ag_b64 : AgTy Tryd.prog 70 (zerosB 64).toArray 64 := ⟨by kernel_rfl, by kernel_rfl, by simp [zerosB]⟩
set_option maxRecDepth 100000 in
set_option maxHeartbeats 1000000 in
theorem macPad_any (k : List UInt8) (x : UInt8) (b : Nat) (w : World) (hk : k.length ≤ 64) (hA : Arr w b 9 [sv k]) :
    Calls Tryd.prog 62 #[.int .u8 (x.toNat : Int), .pointer (some ⟨b, 0, none⟩)] w fun e w' => e = .returned (sv (xorPad k x)) ∧ Below w.heap.size w w' := by
  have hb := Below.refl w.heap.size w
  go_enter Tryd.func62, Tryd.ntmps62
  go_wp2_with (first | (with_reducible refine alArr (z := zerosB 64) Tryd.ag_b64 (wn rfl) rfl ?_))
  intro w1 h4 hb1
  have hlt := hA.lt
  replace hA := hA.below hb1 hA.lt
  replace hb := hb.trans (hb1.mono hb.size)
  clear hb1
  have hx := x.toNat_lt
  go_wp2_with fail
  refine rgStart (fun _ => True) (by kernel_rfl) ?_
  refine rgTake (i := 0) (v := .slice (some ⟨w.heap.size, 0, none⟩) 64 64) rfl (by kernel_rfl) (wn rfl) (fun _ _ _ h => h) (fun w _ => by kernel_rfl) trivial ?_
  refine rgNext (i := 1) (by kernel_rfl) rfl ?_
  replace hA := hA.drew
  replace h4 := h4.drew
  replace hb := hb.drew
  have ck : w1.drew.cell? ⟨b, 0, none⟩ = some (.string ⟨k.toArray⟩) := hA.cell (i := 0) rfl
  go_wp2_with fail
  refine ⟨trivial, ?_⟩
  refine rgNext (S := fun _ => True) (i := 2) (by kernel_rfl) rfl ?_
  refine cpStr (g := w.heap.size) (off := 0) (dl := 64) (dc := 64) (.tmp 6) (.tmp 7) k Tryd.sl_u8.und Tryd.one_u8 (wn rfl) rfl (by kernel_rfl) (by kernel_rfl) h4 (by simp [zerosB]) ?_
  intro w5 h4 hkeep hbel
  rw [spl_zeros k hk, ← xorTo_0 k x] at h4
  replace hb := hb.trans (hbel _ (Nat.le_refl _))
  clear hkeep hbel ck hA
  refine rgBack trivial ?_
  refine rgDone (by kernel_rfl) ?_
  simp only [Act.put, List.setIfInBounds_toArray, List.set_cons_succ, List.set_cons_zero]
  have HK := Lib.hid (fun (i : Nat) (b : UInt8) (h : (keyPad k)[i]? = some b) => xorTo_next x h)
  go_wp2_with fail
  go_loopw [9] (fun iv_ wr => ∃ i : Nat, i ≤ 64 ∧ iv_ = .int .i64 i ∧ Arr wr w.heap.size 70 (bcs (xorTo k x i)) ∧ Below w.heap.size w wr) (fun iv_ _ => 64 - (intOf iv_).toNat)
  case atStart => exact ⟨0, by omega, rfl, h4, hb⟩
  case round =>
    clear h4 hb
    obtain ⟨i, hi, rfl, h4, hb⟩ := hrel
    by_cases hlt2 : i < 64
    · obtain ⟨y, hy, _⟩ := bcs_at (l := keyPad k) (i := i) (by rw [keyPad_len hk]; exact hlt2)
      have c1 : wr.cell? ⟨w.heap.size, i, none⟩ = some (.int .u8 (y.toNat : Int)) := h4.cell (by unfold bcs; rw [List.getElem?_map, xorTo_at x hy]; rfl)
      have f1 := h4.thaw i
      have hnx := HK.out i y hy
      have HNX := Lib.hid hnx
      have xy := y.toNat_lt
      clear hnx hy
      go_wp2_with fail
      rw [xor_bc]
      go_roundw
      case rel =>
        refine ⟨i + 1, by omega, by go_num, ?_, hb.setCell (p := ⟨w.heap.size, i, none⟩) (Nat.le_refl _) _⟩
        rw [← HNX.out]
        exact h4.set i _
      case measure => (simp [intOf]; try omega)
    · obtain rfl : i = 64 := by omega
      rw [xorTo_64 x hk] at h4
      have hrd : Rd wr wr.heap.size 1 (some ⟨w.heap.size, 0, none⟩) 64 64 (bcs (xorPad k x)) := rd_of_arr h4 (fun _ _ h => h) (by rw [bcs_length, xorPad_len x hk]) (Nat.le_refl _) (by unfold maxLen; omega) h4.lt
      go_wp2_with (first | (with_reducible refine slPtr (.tmp 4) Tryd.arr_b64 Tryd.one_u8 (by omega) (wn rfl) rfl rfl ?_) | (with_reducible refine convStr (.tmp 19) (xorPad k x) Tryd.sl_u8.und Tryd.und_u8 Tryd.und_str (wn rfl) rfl rfl hrd ?_))
      go_wp2_with fail
      go_ret
      exact ⟨rfl, hb⟩
end Go.Proofs.YtienlndjhcmemaaDoor
/-
  hash.Mac returns the code that the plain function gives.
-/
namespace Go.Proofs.YtienlndjhcmemaaDoor
open Go.RowKit

theorem Tryd.arr_b32 : Tryd.prog.underlying 76 = some (.array 32 5) := by kernel_rfl
/-- What each operation of the last region leaves. -/
def GMac (B : Nat) (key inner : List UInt8) (i : Nat) (v : Value) (w : World) : Prop :=
  match i with
  | 0 => IsStr [] v
  | 2 => v = sv (xorPad key 92)
  | 3 => IsStr (xorPad key 92) v
  | 5 => v = sv inner
  | 6 => IsStr (xorPad key 92 ++ inner) v
  | 7 => v = .agg (bcs (sha (xorPad key 92 ++ inner))).toArray
  | 8 => ∃ g, v = .pointer (some ⟨g, 0, none⟩) ∧ Arr w g 76 (zerosB 32) ∧ B ≤ g
  | _ => True
set_option maxRecDepth 100000 in
set_option maxHeartbeats 2000000 in
theorem mac_any (k t : List UInt8) (w : World) (ht : Tabs w) (hk : k.length ≤ 100000000) (htl : t.length ≤ 100000000) : Calls Tryd.prog 49 #[sv k, sv t] w fun e w' => e = .returned (sv (mac k t)) ∧ Below w.heap.size w w' := by
  unfold sv
  go_enter Tryd.func49, Tryd.ntmps49
  go_wp2_with (with_reducible refine bxOne (.tmp 0) (wn rfl) rfl rfl rfl ?_)
  intro w1 h2 hb
  have c2 : w1.cell? ⟨w.heap.size, 0, none⟩ = some (.string ⟨k.toArray⟩) := h2.cell (i := 0) rfl
  go_upto_if 11 with (fail)
  go_cut [2] (fun s2 wc => s2 = .pointer (some ⟨w.heap.size, 0, none⟩) ∧ Arr wc w.heap.size 9 [sv (macKey k)] ∧ Below w.heap.size w wc)
  case first =>
    by_cases hlong : 64 < k.length
    · have hmk : macKey k = sha k := by unfold macKey; rw [if_pos hlong]
      have HM := Lib.hid hmk
      have hl32 : (bcs (sha k)).length = 32 := by rw [bcs_length]; exact outOf_len _
      have HL32 := Lib.hid hl32
      clear hmk hl32
      have hsz := h2.lt
      go_wp2_with (with_reducible refine convBs (.tmp 12) k Tryd.und_str Tryd.sl_u8.und Tryd.und_u8 (wn rfl) rfl rfl (by omega) ?_)
      intro A5 c5 w5 hrd hb5
      replace h2 := h2.below hb5 h2.lt
      replace hb := hb.trans (hb5.mono hb.size)
      clear hb5 c2
      go_wp2_with fail
      refine (sum_any k A5 _ c5 _ w5 (ht.below hb ht.size) hrd (Nat.le_refl _) (by omega)).mono ?_
      rintro e w6 ⟨rfl, hb6⟩
      replace h2 := h2.below hb6 h2.lt
      replace hb := hb.trans (hb6.mono hb.size)
      clear hb6 hrd
      go_wp2_with (with_reducible refine alArr (z := zerosB 32) Tryd.ag_b32 (wn rfl) rfl ?_)
      intro w7 h5 hb7
      have h57 := h2.lt
      replace h2 := h2.below hb7 h2.lt
      replace hb := hb.trans (hb7.mono hb.size)
      clear hb7
      generalize w6.heap.size = g5 at *
      go_wp2_with (with_reducible refine stArr (cs := bcs (sha k)) (.tmp 5) (.tmp 14) Tryd.ag_b32 (wn rfl) rfl rfl rfl h5 (zerosB_len _) HL32.out (bcs_one _) ?_)
      intro w8 h5 hkeep hbel
      replace h2 := hkeep _ _ _ (by omega) h2
      replace hb := hb.trans (hbel _ (by omega))
      clear hkeep hbel
      have hrd : Rd w8 w8.heap.size 1 (some ⟨g5, 0, none⟩) 32 32 (bcs (sha k)) := rd_of_arr h5 (fun _ _ h => h) HL32.out (Nat.le_refl _) (by unfold maxLen; omega) h5.lt
      have c2 : w8.cell? ⟨w.heap.size, 0, none⟩ = some (.string ⟨k.toArray⟩) := h2.cell (i := 0) rfl
      have f2 := h2.thaw 0
      go_wp2_with (first | (with_reducible refine slPtr (.tmp 5) Tryd.arr_b32 Tryd.one_u8 (by omega) (wn rfl) rfl rfl ?_) | (with_reducible refine convStr (.tmp 15) (sha k) Tryd.sl_u8.und Tryd.und_u8 Tryd.und_str (wn rfl) rfl rfl hrd ?_))
      go_wp2_with fail
      go_meet
      case rel => exact ⟨rfl, by rw [HM.out]; exact h2.set 0 _, hb.setCell (p := ⟨w.heap.size, 0, none⟩) (Nat.le_refl _) _⟩
    · have hmk : macKey k = k := by unfold macKey; rw [if_neg hlong]
      have HM := Lib.hid hmk
      clear hmk
      go_wp2_with fail
      go_meet
      case rel => exact ⟨rfl, by rw [HM.out]; exact h2, hb⟩
  case rest =>
    obtain ⟨rfl, h2, hb⟩ := hcut
    have hkl := macKey_le k
    have hmac : mac k t = sha (xorPad (macKey k) 92 ++ sha (xorPad (macKey k) 54 ++ t)) := rfl
    have HMAC := Lib.hid hmac
    have hi : (sha (xorPad (macKey k) 54 ++ t)).length = 32 := outOf_len _
    have ho : (sha (mac k t)).length = 32 := outOf_len _
    have p1 := xorPad_len 54 hkl
    have p2 := xorPad_len 92 hkl
    clear hmac ho
    generalize macKey k = key at *
    go_wp2_with fail
    refine (begin_any _).mono ?_
    rintro e w3 ⟨v1, rfl, hv1, hb3⟩
    replace h2 := h2.below hb3 h2.lt
    replace hb := hb.trans (hb3.mono hb.size)
    clear hb3
    have hpd := macPad_any key 54 w.heap.size w3 hkl h2
    have hpd : Calls Tryd.prog 62 #[.int .u8 54, .pointer (some ⟨w.heap.size, 0, none⟩)] w3 _ := hpd
    go_wp2_with fail
    refine hpd.mono ?_
    rintro e w4 ⟨rfl, hb4⟩
    replace h2 := h2.below hb4 h2.lt
    replace hb := hb.trans (hb4.mono hb.size)
    clear hb4 hpd
    go_wp2_with fail
    have hadd := add_any [] (xorPad key 54) v1 w4 (ht.below hb ht.size) hv1 (by rw [p1]; simp)
    rw [List.nil_append] at hadd
    refine hadd.mono ?_
    rintro e w5 ⟨v2, rfl, hv2, hb5⟩
    replace h2 := h2.below hb5 h2.lt
    replace hb := hb.trans (hb5.mono hb.size)
    clear hb5 hadd hv1
    go_wp2_with fail
    refine (add_any (xorPad key 54) t v2 w5 (ht.below hb ht.size) hv2 (by rw [p1]; omega)).mono ?_
    rintro e w6 ⟨v3, rfl, hv3, hb6⟩
    replace h2 := h2.below hb6 h2.lt
    replace hb := hb.trans (hb6.mono hb.size)
    clear hb6 hv2
    go_wp2_with fail
    refine (strSum_any _ v3 w6 (ht.below hb ht.size) hv3 (by rw [List.length_append, p1]; omega)).mono ?_
    rintro e w7 ⟨rfl, hb7⟩
    replace h2 := h2.below hb7 h2.lt
    replace hb := hb.trans (hb7.mono hb.size)
    clear hb7 hv3
    have HI := Lib.hid (show (bcs (sha (xorPad key 54 ++ t))).length = 32 by rw [bcs_length]; exact hi)
    clear hi
    generalize sha (xorPad key 54 ++ t) = inner at *
    go_wp2_with (with_reducible refine alArr (z := zerosB 32) Tryd.ag_b32 (wn rfl) rfl ?_)
    intro w8 h7 hb8
    have h27 := h2.lt
    replace h2 := h2.below hb8 h2.lt
    replace hb := hb.trans (hb8.mono hb.size)
    clear hb8
    generalize w7.heap.size = g7 at *
    go_wp2_with (with_reducible refine stArr (cs := bcs inner) (.tmp 7) (.tmp 24) Tryd.ag_b32 (wn rfl) rfl rfl rfl h7 (zerosB_len _) HI.out (bcs_one _) ?_)
    intro w9 h7 hkeep hbel
    replace h2 := hkeep _ _ _ (by omega) h2
    replace hb := hb.trans (hbel _ (by omega))
    clear hkeep hbel
    go_wp2_with fail
    refine aStart (by kernel_rfl) ?_
    replace h2 := h2.drew
    replace h7 := h7.drew
    replace hb := hb.drew
    generalize w9.drew = wd at *
    refine aTake (i := 1) (v := .func (.func 62) #[] #[.pointer (some ⟨w.heap.size, 0, none⟩)]) rfl (by kernel_rfl) (wn rfl) (fun _ _ _ h => h) (fun w => by kernel_rfl) ?_
    refine aTake (i := 4) (v := .slice (some ⟨g7, 0, none⟩) 32 32) rfl (by kernel_rfl) (wn rfl) (fun _ _ _ h => h) (fun w => by kernel_rfl) ?_
    refine rgFloat [(0, 25), (2, 27), (3, 28), (5, 30), (6, 31), (7, 32), (8, 8)] (GMac wd.heap.size key inner) _ 1 rfl (by kernel_rfl) ?mono ?step ?fin
    case mono =>
      intro p hp v w w' h hE
      simp only [List.mem_cons, List.not_mem_nil, or_false] at hp
      rcases hp with rfl | rfl | rfl | rfl | rfl | rfl | rfl
      · exact h
      · exact h
      · exact h
      · exact h
      · exact h
      · exact h
      · obtain ⟨g, h1, h2, h3⟩ := h
        exact ⟨g, h1, h2.below hE h2.lt, h3⟩
    case step =>
      intro p hp
      simp only [List.mem_cons, List.not_mem_nil, or_false] at hp
      rcases hp with rfl | rfl | rfl | rfl | rfl | rfl | rfl
      · refine ⟨_, rfl, rfl, fun a w' hF hE hG => ?_⟩
        refine callOp 52 [] [] [] (by kernel_rfl) (wn rfl) rfl rfl rfl ?_
        refine (begin_any w').mono ?_
        rintro e w2 ⟨v, rfl, hv, hbv⟩
        exact ⟨v, rfl, ⟨v, rfl, hbv, hv⟩⟩
      · refine ⟨_, rfl, rfl, fun a w' hF hE hG => ?_⟩
        refine callOp 62 [.int .u8 92] [] [.pointer (some ⟨w.heap.size, 0, none⟩)] (by kernel_rfl) (wn rfl) rfl ((hF.eval 26 (by kernel_rfl)).trans (by kernel_rfl)) rfl ?_
        refine (macPad_any key 92 w.heap.size w' hkl (h2.below hE h2.lt)).mono ?_
        rintro e w2 ⟨rfl, hbv⟩
        exact ⟨_, rfl, ⟨_, rfl, hbv, rfl⟩⟩
      · refine ⟨_, rfl, rfl, fun a w' hF hE hG => ?_⟩
        have g1 : IsStr [] (a.tmps.getD 25 undef) := hG (0, 25) (by simp) (by kernel_rfl)
        have g2 : a.tmps.getD 27 undef = sv (xorPad key 92) := hG (2, 27) (by simp) (by kernel_rfl)
        refine callOp 53 [a.tmps.getD 25 undef, sv (xorPad key 92)] [] [] (by kernel_rfl) (wn rfl) rfl rfl (by rw [← g2]; rfl) ?_
        refine (add_any [] (xorPad key 92) _ w' (ht.below (hb.trans (hE.mono hb.size)) ht.size) g1 (by rw [p2]; simp)).mono ?_
        rintro e w2 ⟨v, rfl, hv, hbv⟩
        exact ⟨v, rfl, ⟨v, rfl, hbv, hv⟩⟩
      · refine ⟨_, rfl, rfl, fun a w' hF hE hG => ?_⟩
        have h7' := h7.below hE h7.lt
        have hrd : Rd w' w'.heap.size 1 (some ⟨g7, 0, none⟩) 32 32 (bcs inner) := rd_of_arr h7' (fun _ _ h => h) HI.out (Nat.le_refl _) (by unfold maxLen; omega) h7'.lt
        refine convStr (.tmp 29) inner Tryd.sl_u8.und Tryd.und_u8 Tryd.und_str (wn rfl) rfl ((hF.eval 29 (by kernel_rfl)).trans (by kernel_rfl)) hrd ?_
        exact ⟨_, rfl, Below.refl _ _, rfl⟩
      · refine ⟨_, rfl, rfl, fun a w' hF hE hG => ?_⟩
        have g1 : IsStr (xorPad key 92) (a.tmps.getD 28 undef) := hG (3, 28) (by simp) (by kernel_rfl)
        have g2 : a.tmps.getD 30 undef = sv inner := hG (5, 30) (by simp) (by kernel_rfl)
        refine callOp 53 [a.tmps.getD 28 undef, sv inner] [] [] (by kernel_rfl) (wn rfl) rfl rfl (by rw [← g2]; rfl) ?_
        have hil : inner.length = 32 := by have := HI.out; rwa [bcs_length] at this
        refine (add_any (xorPad key 92) inner _ w' (ht.below (hb.trans (hE.mono hb.size)) ht.size) g1 (by rw [p2, hil]; omega)).mono ?_
        rintro e w2 ⟨v, rfl, hv, hbv⟩
        exact ⟨v, rfl, ⟨v, rfl, hbv, hv⟩⟩
      · refine ⟨_, rfl, rfl, fun a w' hF hE hG => ?_⟩
        have g1 : IsStr (xorPad key 92 ++ inner) (a.tmps.getD 31 undef) := hG (6, 31) (by simp) (by kernel_rfl)
        refine callOp 55 [a.tmps.getD 31 undef] [] [] (by kernel_rfl) (wn rfl) rfl rfl rfl ?_
        have hil : inner.length = 32 := by have := HI.out; rwa [bcs_length] at this
        refine (strSum_any _ _ w' (ht.below (hb.trans (hE.mono hb.size)) ht.size) g1 (by rw [List.length_append, p2, hil]; omega)).mono ?_
        rintro e w2 ⟨rfl, hbv⟩
        exact ⟨_, rfl, ⟨_, rfl, hbv, rfl⟩⟩
      · refine ⟨_, rfl, rfl, fun a w' hF hE hG => ?_⟩
        refine alArr (z := zerosB 32) Tryd.ag_b32 (wn rfl) rfl fun w2 hA hb2 => ?_
        exact ⟨_, rfl, hb2, _, rfl, hA, hE.size⟩
    case fin =>
      intro a wf hF hE hG
      have q7 : a.tmps.getD 32 undef = .agg (bcs (sha (xorPad key 92 ++ inner))).toArray := hG (7, 32) (by simp)
      obtain ⟨g8, q8, h8, hg8⟩ := hG (8, 8) (by simp)
      have hbf : Below w.heap.size w wf := hb.trans (hE.mono hb.size)
      rw [hF.eq]
      simp only [putsX]
      rw [q7, q8]
      generalize a.tmps.getD 25 undef = x25
      generalize a.tmps.getD 27 undef = x27
      generalize a.tmps.getD 28 undef = x28
      generalize a.tmps.getD 30 undef = x30
      generalize a.tmps.getD 31 undef = x31
      rw [← HMAC.out]
      have hml : (bcs (mac k t)).length = 32 := by rw [bcs_length, HMAC.out]; exact outOf_len _
      have HML := Lib.hid hml
      have hle := hb.size
      clear hml hG hF hE h2 h7 hb
      refine aNext (i := 9) (by kernel_rfl) rfl ?_
      refine stArr (b := g8) (cs := bcs (mac k t)) (.tmp 8) (.tmp 32) Tryd.ag_b32 (wn rfl) rfl (by kernel_rfl) (by kernel_rfl) h8 (zerosB_len _) HML.out (bcs_one _) ?_
      intro w10 h8 hkeep hbel
      replace hbf := hbf.trans (hbel _ (by omega))
      refine aDone (by kernel_rfl) ?_
      simp only [Act.put, List.setIfInBounds_toArray, List.set_cons_succ, List.set_cons_zero]
      have hrd : Rd w10 w10.heap.size 1 (some ⟨g8, 0, none⟩) 32 32 (bcs (mac k t)) := rd_of_arr h8 (fun _ _ h => h) HML.out (Nat.le_refl _) (by unfold maxLen; omega) h8.lt
      clear hkeep hbel
      go_wp2_with (first | (with_reducible refine slPtr (.tmp 8) Tryd.arr_b32 Tryd.one_u8 (by omega) (wn rfl) rfl rfl ?_) | (with_reducible refine convStr (.tmp 33) (mac k t) Tryd.sl_u8.und Tryd.und_u8 Tryd.und_str (wn rfl) rfl rfl hrd ?_))
      go_wp2_with fail
      go_ret
      exact ⟨rfl, hbf⟩
end Go.Proofs.YtienlndjhcmemaaDoor
/-
  hash.Of returns the first 16 bytes of the hash of its input.
-/
namespace Go.Proofs.YtienlndjhcmemaaDoor
open Go.RowKit

def tagByte (tag : Int) : UInt8 := UInt8.ofNat (tag % 256).toNat
theorem tagByte_int (tag : Int) : ((tagByte tag).toNat : Int) = tag % 256 := by
  unfold tagByte
  rw [ofNat_toNat8 _ (by omega)]
  omega
def partsOf (l : List (List UInt8)) : List UInt8 := (l.map encS).flatten
def inputOf (tag : Int) (l : List (List UInt8)) : List UInt8 := tagByte tag :: partsOf l
def ofDig (tag : Int) (l : List (List UInt8)) : List UInt8 := (sha (inputOf tag l)).take 16
theorem ofDig_len (tag : Int) (l : List (List UInt8)) : (ofDig tag l).length = 16 := by unfold ofDig; rw [List.length_take, sha_len]; rfl
theorem partsOf_next {l : List (List UInt8)} {i : Nat} {p : List UInt8} (h : l[i]? = some p) : partsOf (l.take (i + 1)) = partsOf (l.take i) ++ encS p := by
  have hi := (List.getElem?_eq_some_iff.1 h).1
  have e : l[i] = p := by rw [List.getElem?_eq_getElem hi] at h; exact Option.some.inj h
  unfold partsOf
  rw [List.take_succ_eq_append_getElem hi, e]
  simp
theorem partsOf_le (l : List (List UInt8)) (i : Nat) : (partsOf (l.take i)).length ≤ (partsOf l).length := by
  have e : partsOf l = partsOf (l.take i) ++ partsOf (l.drop i) := by
    unfold partsOf
    rw [← List.flatten_append, ← List.map_append, List.take_append_drop]
  rw [e, List.length_append]; omega
theorem Tryd.arr_b16 : Tryd.prog.underlying 23 = some (.array 16 5) := by kernel_rfl
theorem zerosB16 : (zerosB 16).length = 16 := zerosB_len 16
theorem Tryd.ag_b16 : AgTy Tryd.prog 23 (zerosB 16).toArray 16 := ⟨by kernel_rfl, by kernel_rfl, by simp [zerosB]⟩

/-- A slice that reads as xs, whatever else is made. -/
def Reads (n : Nat) (xs : List Value) (v : Value) (w : World) : Prop := ∃ A c B, v = .slice A n c ∧ B ≤ w.heap.size ∧ Rd w B 1 A n c xs
theorem Reads.ext {n : Nat} {xs : List Value} {v : Value} {w w' : World} (h : Reads n xs v w) (hE : Ext w w') : Reads n xs v w' := by
  obtain ⟨A, c, B, h1, h2, h3⟩ := h
  exact ⟨A, c, B, h1, Nat.le_trans h2 hE.size, h3.below (hE.mono h2)⟩
/-- Block g holds a stream of message m. -/
def ArrStr (w : World) (g : Nat) (m : List UInt8) : Prop := ∃ blk, StrOK m blk ∧ Arr w g 72 (stCells (stOf m) blk m.length)
theorem ArrStr.below {w w' : World} {g B : Nat} {m : List UInt8} (h : ArrStr w g m) (hb : Below B w w') (hB : g < B) : ArrStr w' g m := by
  obtain ⟨blk, h1, h2⟩ := h
  exact ⟨blk, h1, h2.below hb hB⟩
theorem ArrStr.lt {w : World} {g : Nat} {m : List UInt8} (h : ArrStr w g m) : g < w.heap.size := by obtain ⟨_, _, h2⟩ := h; exact h2.lt
def GOf1 (B : Nat) (tb : UInt8) (i : Nat) (v : Value) (w : World) : Prop :=
  match i with
  | 0 => IsStr [] v
  | 3 => Reads 1 (bcs [tb]) v w
  | 4 => v = sv [tb]
  | 5 => IsStr [tb] v
  | 6 => ∃ g, v = .pointer (some ⟨g, 0, none⟩) ∧ Arr w g 72 zeros73 ∧ B ≤ g
  | _ => True

def GOf2 (m p : List UInt8) (i : Nat) (v : Value) (w : World) : Prop :=
  match i with
  | 0 => IsStr m v
  | 2 => Reads (encS p).length (bcs (encS p)) v w
  | 3 => v = sv (encS p)
  | 4 => IsStr (m ++ encS p) v
  | _ => True
set_option maxRecDepth 100000 in
set_option maxHeartbeats 2000000 in
theorem of_any (tag : Int) (l : List (List UInt8)) (A : Option Addr) (n c B : Nat) (w : World) (ht : Tabs w) (hr : Rd w B 1 A n c (l.map sv)) (hB : B ≤ w.heap.size) (hlen : (inputOf tag l).length ≤ 1000000000) (hlp : l.length ≤ 1000000000) :
    Calls Tryd.prog 34 #[.int .i64 tag, .slice A n c] w fun e w' => e = .returned (.agg (bcs (ofDig tag l)).toArray) ∧ Below w.heap.size w w' := by
  obtain rfl : l.length = n := by have := hr.len; simpa using this
  have htb := tagByte_int tag
  have HTB := Lib.hid htb
  have hin : inputOf tag l = [tagByte tag] ++ partsOf l := rfl
  have hdl := ofDig_len tag l
  have hod : ofDig tag l = (sha (inputOf tag l)).take 16 := rfl
  have HIN := Lib.hid hin
  have HDL := Lib.hid hdl
  have HOD := Lib.hid hod
  clear htb hin hdl hod
  generalize tagByte tag = tb at *
  generalize ofDig tag l = dig at *
  generalize inputOf tag l = inp at *
  go_enter Tryd.func34, Tryd.ntmps34
  go_wp2_with (with_reducible refine alArr (z := zerosB 16) Tryd.ag_b16 (wn rfl) rfl ?_)
  intro w1 h4 hb
  go_wp2_with fail
  refine aStart (by kernel_rfl) ?_
  replace h4 := h4.drew
  replace hb := hb.drew
  generalize w1.drew = wd at *
  refine aTake (i := 1) (v := .int .i64 tag) rfl (by kernel_rfl) (wn rfl) (fun _ _ _ h => h) (fun w => by kernel_rfl) ?_
  refine aTake (i := 2) (v := .int .u8 (tb.toNat : Int)) rfl (by kernel_rfl) (wn rfl) (fun _ _ _ h => h) (fun w => by rw [HTB.out]; go_simp; rw [IntKind.wrap_u8]) ?_
  refine rgFloat [(0, 9), (3, 12), (4, 13), (5, 14), (6, 5)] (GOf1 wd.heap.size tb) _ 1 rfl (by kernel_rfl) ?mono ?step ?fin
  case mono =>
    intro p hp v w w' h hE
    simp only [List.mem_cons, List.not_mem_nil, or_false] at hp
    rcases hp with rfl | rfl | rfl | rfl | rfl
    · exact h
    · exact Reads.ext h hE
    · exact h
    · exact h
    · obtain ⟨g, h1, h2, h3⟩ := h
      exact ⟨g, h1, h2.below hE h2.lt, h3⟩
  case step =>
    intro p hp
    simp only [List.mem_cons, List.not_mem_nil, or_false] at hp
    rcases hp with rfl | rfl | rfl | rfl | rfl
    · refine ⟨_, rfl, rfl, fun a w' hF hE hG => ?_⟩
      refine callOp 52 [] [] [] (by kernel_rfl) (wn rfl) rfl rfl rfl ?_
      refine (begin_any w').mono ?_
      rintro e w2 ⟨v, rfl, hv, hbv⟩
      exact ⟨v, rfl, ⟨v, rfl, hbv, hv⟩⟩
    · refine ⟨_, rfl, rfl, fun a w' hF hE hG => ?_⟩
      have hx : a.eval (.tmp 11) = bc tb := (hF.eval 11 (by kernel_rfl)).trans (by kernel_rfl)
      refine bsRow [bc tb] Tryd.sl_u8 (wn rfl) rfl (by rw [Array.toList_map]; show [(0, a.eval (.tmp 11))] = _; rw [hx]; rfl) rfl (by omega) (by omega) (by intro v hv; rw [List.mem_singleton.1 hv]; rfl) ?_
      intro A5 w5 hrd hb5
      exact ⟨_, rfl, hb5, A5, 1, _, rfl, Nat.le_refl _, hrd⟩
    · refine ⟨_, rfl, rfl, fun a w' hF hE hG => ?_⟩
      obtain ⟨A5, c5, B5, q1, q2, hrd⟩ : Reads 1 (bcs [tb]) (a.tmps.getD 12 undef) w' := hG (3, 12) (by simp) (by kernel_rfl)
      refine convStr (.tmp 12) [tb] Tryd.sl_u8.und Tryd.und_u8 Tryd.und_str (wn rfl) rfl q1 hrd ?_
      exact ⟨_, rfl, Below.refl _ _, rfl⟩
    · refine ⟨_, rfl, rfl, fun a w' hF hE hG => ?_⟩
      have g1 : IsStr [] (a.tmps.getD 9 undef) := hG (0, 9) (by simp) (by kernel_rfl)
      have g2 : a.tmps.getD 13 undef = sv [tb] := hG (4, 13) (by simp) (by kernel_rfl)
      refine callOp 53 [a.tmps.getD 9 undef, sv [tb]] [] [] (by kernel_rfl) (wn rfl) rfl rfl (by rw [← g2]; rfl) ?_
      refine (add_any [] [tb] _ w' (ht.below (hb.trans (hE.mono hb.size)) ht.size) g1 (by simp)).mono ?_
      rintro e w2 ⟨v, rfl, hv, hbv⟩
      exact ⟨v, rfl, ⟨v, rfl, hbv, hv⟩⟩
    · refine ⟨_, rfl, rfl, fun a w' hF hE hG => ?_⟩
      refine alArr (z := zeros73) Tryd.ag_str (wn rfl) rfl fun w2 hA hb2 => ?_
      exact ⟨_, rfl, hb2, _, rfl, hA, hE.size⟩
  case fin =>
    intro a wf hF hE hG
    obtain ⟨blk, hok, q7⟩ : IsStr [tb] (a.tmps.getD 14 undef) := hG (5, 14) (by simp)
    obtain ⟨g5, q8, h5, hg5⟩ := hG (6, 5) (by simp)
    have n45 : w.heap.size ≠ g5 := by have := h4.lt; omega
    replace h4 := h4.below hE h4.lt
    have hsz := hb.size
    replace hb := hb.trans (hE.mono hb.size)
    rw [hF.eq]
    simp only [putsX]
    rw [q7, q8]
    generalize a.tmps.getD 9 undef = x9
    generalize a.tmps.getD 12 undef = x12
    generalize a.tmps.getD 13 undef = x13
    clear hG hF hE
    refine aNext (i := 7) (by kernel_rfl) rfl ?_
    refine stArr (b := g5) (cs := stCells (stOf [tb]) blk [tb].length) (.tmp 5) (.tmp 14) Tryd.ag_str (wn rfl) rfl (by kernel_rfl) (by kernel_rfl) h5 zeros73_len (stCells_len _ _ hok.len) (stCells_one _ _ _) ?_
    intro w2 h5 hkeep hbel
    replace h4 := hkeep _ _ _ n45 h4
    replace hb := hb.trans (hbel _ (by omega))
    clear hkeep hbel
    have hS : ArrStr w2 g5 ([tb] ++ partsOf (l.take 0)) := ⟨blk, hok, h5⟩
    refine aDone (by kernel_rfl) ?_
    simp only [Act.put, List.setIfInBounds_toArray, List.set_cons_succ, List.set_cons_zero]
    clear h5 hok
    have hbg : w.heap.size ≤ g5 := by omega
    go_wp2_with fail
    go_loopw [17] (fun iv_ wr => ∃ i : Nat, i ≤ l.length ∧ iv_ = .int .i64 i ∧ ArrStr wr g5 ([tb] ++ partsOf (l.take i)) ∧ Arr wr w.heap.size 23 (zerosB 16) ∧ Below w.heap.size w wr) (fun iv_ _ => l.length - (intOf iv_).toNat)
    case atStart => exact ⟨0, by omega, rfl, hS, h4, hb⟩
    case round =>
      clear hS h4 hb hg5 hsz
      obtain ⟨i, hi, rfl, hS, h4, hb⟩ := hrel
      have hpl : ([tb] ++ partsOf (l.take i)).length ≤ 1000000000 := by
        have h1 := partsOf_le l i
        have h2 := hlen
        rw [HIN.out] at h2
        rw [List.length_append] at h2 ⊢
        omega
      by_cases hlt : i < l.length
      · obtain ⟨b, off, u, rfl, hbB, hu, hcell⟩ := (hr.below (hb.mono hB)).at1 hlt
        obtain ⟨p, hp, rfl⟩ : ∃ p : List UInt8, l[i]? = some p ∧ u = .string ⟨p.toArray⟩ := by
          rw [List.getElem?_map] at hu
          obtain ⟨x, hx, hxu⟩ := Option.map_eq_some_iff.1 hu
          exact ⟨x, hx, hxu.symm⟩
        have hnx := partsOf_next hp
        have hpl2 : ([tb] ++ partsOf (l.take i) ++ encS p).length ≤ 1000000000 := by
          have h1 := partsOf_le l (i + 1)
          rw [hnx] at h1
          have h2 := hlen
          rw [HIN.out] at h2
          rw [List.length_append] at h2 h1
          rw [List.length_append, List.length_append]
          omega
        have hpp : p.length ≤ 1000000000 := by
          have : p.length ≤ (encS p).length := by unfold encS; rw [List.length_append]; omega
          rw [List.length_append] at hpl2
          omega
        have HNX := Lib.hid hnx
        clear hnx hp hu
        generalize hmi : [tb] ++ partsOf (l.take i) = m at *
        have HMI := Lib.hid hmi
        clear hmi
        obtain ⟨blk, hok, h5⟩ := hS
        go_wp2_with fail
        refine aStart (by kernel_rfl) ?_
        replace h4 := h4.drew
        replace h5 := h5.drew
        replace hb := hb.drew
        clear hcell
        generalize wr.drew = wd at *
        refine aTake (i := 1) (v := sv p) rfl (by kernel_rfl) (wn rfl) (fun _ _ _ h => h) (fun w => by kernel_rfl) ?_
        refine rgFloat [(0, 21), (2, 23), (3, 24), (4, 25)] (GOf2 m p) _ 1 rfl (by kernel_rfl) ?mono ?step ?fin
        case mono =>
          intro q hq v w w' h hE
          simp only [List.mem_cons, List.not_mem_nil, or_false] at hq
          rcases hq with rfl | rfl | rfl | rfl
          · exact h
          · exact Reads.ext h hE
          · exact h
          · exact h
        case step =>
          intro q hq
          simp only [List.mem_cons, List.not_mem_nil, or_false] at hq
          rcases hq with rfl | rfl | rfl | rfl
          · refine ⟨_, rfl, rfl, fun a w' hF hE hG => ?_⟩
            refine ldArr (b := g5) (.tmp 5) Tryd.ag_str (wn rfl) rfl ((hF.eval 5 (by kernel_rfl)).trans (by kernel_rfl)) (stCells_len _ _ hok.len) (h5.below hE h5.lt) ?_
            exact ⟨_, rfl, Below.refl _ _, blk, hok, rfl⟩
          · refine ⟨_, rfl, rfl, fun a w' hF hE hG => ?_⟩
            refine callOp 54 [sv p] [] [] (by kernel_rfl) (wn rfl) rfl rfl (by show [a.eval (.tmp 22)] = _; rw [hF.eval 22 (by kernel_rfl)]; kernel_rfl) ?_
            refine (bytes_any p w' (by omega)).mono ?_
            rintro e w2 hret
            obtain ⟨A5, c5, rfl, _, hrd, hb2⟩ := hret.open
            exact ⟨_, rfl, ⟨_, rfl, hb2, A5, c5, _, rfl, Nat.le_refl _, hrd⟩⟩
          · refine ⟨_, rfl, rfl, fun a w' hF hE hG => ?_⟩
            obtain ⟨A5, c5, B5, q1, q2, hrd⟩ : Reads (encS p).length (bcs (encS p)) (a.tmps.getD 23 undef) w' := hG (2, 23) (by simp) (by kernel_rfl)
            refine convStr (.tmp 23) (encS p) Tryd.sl_u8.und Tryd.und_u8 Tryd.und_str (wn rfl) rfl q1 hrd ?_
            exact ⟨_, rfl, Below.refl _ _, rfl⟩
          · refine ⟨_, rfl, rfl, fun a w' hF hE hG => ?_⟩
            have g1 : IsStr m (a.tmps.getD 21 undef) := hG (0, 21) (by simp) (by kernel_rfl)
            have g2 : a.tmps.getD 24 undef = sv (encS p) := hG (3, 24) (by simp) (by kernel_rfl)
            refine callOp 53 [a.tmps.getD 21 undef, sv (encS p)] [] [] (by kernel_rfl) (wn rfl) rfl rfl (by rw [← g2]; rfl) ?_
            refine (add_any m (encS p) _ w' (ht.below (hb.trans (hE.mono hb.size)) ht.size) g1 (by rw [List.length_append] at hpl2; omega)).mono ?_
            rintro e w2 ⟨v, rfl, hv, hbv⟩
            exact ⟨v, rfl, ⟨v, rfl, hbv, hv⟩⟩
        case fin =>
          intro a wf hF hE hG
          obtain ⟨blk2, hok2, q7⟩ : IsStr (m ++ encS p) (a.tmps.getD 25 undef) := hG (4, 25) (by simp)
          replace h4 := h4.below hE h4.lt
          replace h5 := h5.below hE h5.lt
          replace hb := hb.trans (hE.mono hb.size)
          rw [hF.eq]
          simp only [putsX]
          rw [q7]
          generalize a.tmps.getD 21 undef = x21
          generalize a.tmps.getD 23 undef = x23
          generalize a.tmps.getD 24 undef = x24
          clear hG hF hE
          refine aNext (i := 5) (by kernel_rfl) rfl ?_
          refine stArr (b := g5) (cs := stCells (stOf (m ++ encS p)) blk2 (m ++ encS p).length) (.tmp 5) (.tmp 25) Tryd.ag_str (wn rfl) rfl (by kernel_rfl) (by kernel_rfl) h5 (stCells_len _ _ hok.len) (stCells_len _ _ hok2.len) (stCells_one _ _ _) ?_
          intro w2 h5 hkeep hbel
          replace h4 := hkeep _ _ _ n45 h4
          replace hb := hb.trans (hbel _ hbg)
          clear hkeep hbel
          refine aDone (by kernel_rfl) ?_
          simp only [Act.put, List.setIfInBounds_toArray, List.set_cons_succ, List.set_cons_zero]
          have hS : ArrStr w2 g5 ([tb] ++ partsOf (l.take (i + 1))) := by
            rw [HNX.out, ← List.append_assoc, HMI.out]
            exact ⟨blk2, hok2, h5⟩
          clear h5 hok hok2
          go_wp2_with fail
          go_roundw
          case rel => exact ⟨i + 1, by omega, by go_num, hS, h4, hb⟩
          case measure => (simp [intOf]; try omega)
      · obtain rfl : i = l.length := by omega
        rw [List.take_of_length_le (Nat.le_refl _), ← HIN.out] at hS
        obtain ⟨blk, hok, h5⟩ := hS
        clear hpl hlt
        have hsha := sha_len (inp)
        have HSL := Lib.hid (show (bcs (sha (inp))).length = 32 by rw [bcs_length]; exact hsha)
        have hpre : ∀ (j : Nat) (u : Value), (bcs (dig))[j]? = some u → (bcs (sha (inp)))[j]? = some u := by
          intro j u hu
          rw [HOD.out] at hu
          have hj : j < 16 := by have := (List.getElem?_eq_some_iff.1 hu).1; rw [bcs_length, List.length_take] at this; omega
          unfold bcs at hu ⊢
          rw [List.map_take, List.getElem?_take, if_pos hj] at hu
          exact hu
        have HPRE := Lib.hid hpre
        have HDB := Lib.hid (show (bcs (dig)).length = 16 by rw [bcs_length]; exact HDL.out)
        clear hsha hpre
        go_wp2_with (with_reducible refine ldArr (.tmp 5) Tryd.ag_str (wn rfl) rfl rfl (stCells_len _ _ hok.len) h5 ?_)
        refine (strSum_any inp _ wr (ht.below hb ht.size) ⟨blk, hok, rfl⟩ (by omega)).mono ?_
        rintro e w2 ⟨rfl, hb2⟩
        replace h4 := h4.below hb2 h4.lt
        replace hb := hb.trans (hb2.mono hb.size)
        clear hb2 h5 hok
        go_wp2_with (with_reducible refine alArr (z := zerosB 32) Tryd.ag_b32 (wn rfl) rfl ?_)
        intro w3 h8 hb3
        have h48 := h4.lt
        replace h4 := h4.below hb3 h4.lt
        replace hb := hb.trans (hb3.mono hb.size)
        clear hb3
        generalize w2.heap.size = g8 at *
        go_wp2_with (with_reducible refine stArr (cs := bcs (sha inp)) (.tmp 8) (.tmp 28) Tryd.ag_b32 (wn rfl) rfl rfl rfl h8 (zerosB_len _) HSL.out (bcs_one _) ?_)
        intro w4 h8 hkeep hbel
        replace h4 := hkeep _ _ _ (by omega) h4
        replace hb := hb.trans (hbel _ (by omega))
        clear hkeep hbel
        go_wp2_with (first | (with_reducible refine saPtr (.tmp 29) Tryd.arr_b16 (wn rfl) rfl rfl (by omega) ?_) | (with_reducible refine ldAgg (b := g8) (off := 0) (.tmp 30) (bcs dig) Tryd.ag_b16 (wn rfl) rfl rfl HDB.out (fun j u hu => by rw [Nat.zero_add]; exact h8.cell (HPRE.out j u hu)) ?_) | (with_reducible refine stArr (cs := bcs dig) (.tmp 4) (.tmp 31) Tryd.ag_b16 (wn rfl) rfl rfl rfl h4 (zerosB_len _) HDB.out (bcs_one _) ?_))
        intro w5 h4 hkeep hbel
        go_wp2_with fail
        refine bodyPost_ret (v := .agg (bcs dig).toArray) ?_ rfl ⟨rfl, hb.trans (hbel _ (by omega))⟩
        exact res_cell1 (bcs dig) Tryd.results34 Tryd.ag_b16 _ rfl HDB.out (fun j u hu => by rw [Nat.zero_add]; exact h4.cell hu)
end Go.Proofs.YtienlndjhcmemaaDoor
