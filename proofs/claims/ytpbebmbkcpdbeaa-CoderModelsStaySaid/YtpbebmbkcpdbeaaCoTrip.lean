/-
  A code is decoded: the round trip of the coder. No program in sight.
-/
import Derived.Test.YtpbebmbkcpdbeaaCoSpec
namespace Go.Proofs.Ytpbebmbkcpdbeaa

def coB (T : List UInt8) (j : Nat) : Nat := (T.getD j 0).toNat
theorem coB_lt (T : List UInt8) (j : Nat) : coB T j < 256 := by unfold coB; exact (T.getD j 0).toNat_lt
/-- Four bytes of a text from a place on, zeros behind its end. -/
def coWord (T : List UInt8) (k : Nat) : Nat := ((coB T k * 256 + coB T (k + 1)) * 256 + coB T (k + 2)) * 256 + coB T (k + 3)
theorem coWord_next (T : List UInt8) (k : Nat) : coWord T k = coB T k * 16777216 + coWord T (k + 1) / 256 := by
  have h1 := coB_lt T (k + 1)
  have h2 := coB_lt T (k + 2)
  have h3 := coB_lt T (k + 3)
  have h4 := coB_lt T (k + 4)
  have e : coWord T (k + 1) = ((coB T (k + 1) * 256 + coB T (k + 2)) * 256 + coB T (k + 3)) * 256 + coB T (k + 4) := rfl
  rw [e]
  unfold coWord
  omega
/-- The window of T lies within the interval, and what is settled is a beginning of T. -/
structure CoWin (T : List UInt8) (v : CoIv) : Prop where
  lo : v.x ≤ coWord T v.out.length
  hi : coWord T v.out.length ≤ v.y
  pre : v.out <+: T
theorem CoWin.back {T : List UInt8} {v : CoIv} (hv : CoIn v) (ht : v.x / 16777216 = v.y / 16777216)
    (h : CoWin T ⟨v.x % 16777216 * 256, v.y % 16777216 * 256 + 255, v.out ++ [UInt8.ofNat (v.x / 16777216)]⟩) : CoWin T v := by
  have h1 : v.x % 16777216 * 256 ≤ coWord T (v.out.length + 1) := by
    have := h.lo
    rw [List.length_append] at this
    exact this
  have h2 : coWord T (v.out.length + 1) ≤ v.y % 16777216 * 256 + 255 := by
    have := h.hi
    rw [List.length_append] at this
    exact this
  have h3 : v.out ++ [UInt8.ofNat (v.x / 16777216)] <+: T := h.pre
  have e1 := hv.le
  have e2 := hv.hi
  obtain ⟨t, ht3⟩ := h3
  have hb : coB T v.out.length = v.x / 16777216 := by
    unfold coB
    rw [← ht3, List.getD_eq_getElem?_getD, List.append_assoc, List.getElem?_append_right (Nat.le_refl _), Nat.sub_self]
    simp
    omega
  have hw := coWord_next T v.out.length
  rw [hb] at hw
  refine ⟨?_, ?_, ⟨[UInt8.ofNat (v.x / 16777216)] ++ t, by rw [← List.append_assoc]; exact ht3⟩⟩
  · show v.x ≤ coWord T v.out.length
    omega
  · show coWord T v.out.length ≤ v.y
    omega
theorem CoWin.unnorm {T : List UInt8} : ∀ (f : Nat) {v : CoIv}, CoIn v → CoWin T (coNorm f v) → CoWin T v
  | 0, _, _, h => h
  | f + 1, v, hv, h => by
    unfold coNorm at h
    split at h
    · rename_i ht
      exact CoWin.back hv ht (CoWin.unnorm f (coNorm_step hv ht) h)
    · exact h
/-- The window behind a bit tells the bit. -/
theorem CoWin.bit {T : List UInt8} {v : CoIv} {b p : Nat} (hv : CoOpen v) (hp : 31 ≤ p ∧ p ≤ 4065) (hb : b = 0 ∨ b = 1) (h : CoWin T (coNarrow v b p)) :
    CoWin T v ∧ (if coWord T v.out.length ≤ coMid v p then 1 else 0) = b := by
  have h1 := CoWin.unnorm 5 (coCut_in (b := b) hv hp) h
  have h2 := coMid_in hv hp
  unfold coCut at h1
  rcases hb with rfl | rfl
  · rw [if_neg (by decide)] at h1
    obtain ⟨e1, e2, e3⟩ := h1
    exact ⟨⟨by show v.x ≤ _; have e1' : coMid v p + 1 ≤ coWord T v.out.length := e1; omega, e2, e3⟩, by rw [if_neg]; have e1' : coMid v p + 1 ≤ coWord T v.out.length := e1; omega⟩
  · rw [if_pos rfl] at h1
    obtain ⟨e1, e2, e3⟩ := h1
    have e2' : coWord T v.out.length ≤ coMid v p := e2
    exact ⟨⟨e1, by omega, e3⟩, by rw [if_pos e2']⟩
/-- A state of a coder. -/
structure CoSt (s : List Nat × CoIv) : Prop where
  good : CoGood s.1
  opn : CoOpen s.2
theorem CoSt.step {s : List Nat × CoIv} (h : CoSt s) {p : Nat × Nat} (h1 : 1 ≤ p.1) (h2 : p.1 < 256) : CoSt (coStep s p) :=
  ⟨coLearnAt_good h.good h1 h2, coNarrow_open h.opn (h.good.mid _ h1 h2)⟩
theorem CoSt.run {s : List Nat × CoIv} (h : CoSt s) {l : List (Nat × Nat)} (hl : CoOK l) : CoSt (coRun s l) := by
  induction l generalizing s with
  | nil => exact h
  | cons p l ih =>
    have hp := hl p (by simp)
    exact ih (h.step hp.1 hp.2.1) fun q hq => hl q (List.mem_cons_of_mem _ hq)
theorem coRun_append (s : List Nat × CoIv) (a b : List (Nat × Nat)) : coRun s (a ++ b) = coRun (coRun s a) b := by unfold coRun; rw [List.foldl_append]
theorem CoWin.run {T : List UInt8} {s : List Nat × CoIv} (h : CoSt s) {l : List (Nat × Nat)} (hl : CoOK l) (hw : CoWin T (coRun s l).2) : CoWin T s.2 := by
  induction l generalizing s with
  | nil => exact hw
  | cons p l ih =>
    have hp := hl p (by simp)
    have h1 := ih (h.step hp.1 hp.2.1) (fun q hq => hl q (List.mem_cons_of_mem _ hq)) hw
    exact (CoWin.bit h.opn (h.good.mid _ hp.1 hp.2.1) hp.2.2 h1).1
/-! ### Decoding -/
def coDecBits (T : List UInt8) : Nat → Nat → List Nat × CoIv → Nat × (List Nat × CoIv)
  | 0, c, s => (c, s)
  | j + 1, c, s =>
    let b := if coWord T s.2.out.length ≤ coMid s.2 (s.1.getD c 0) then 1 else 0
    coDecBits T j (2 * c + b) (coStep s (c, b))
def coDecode (T : List UInt8) : Nat → List Nat × CoIv → List UInt8
  | 0, _ => []
  | n + 1, s => UInt8.ofNat (coDecBits T 8 1 s).1 :: coDecode T n (coDecBits T 8 1 s).2
def coTail (x : UInt8) : Nat → List (Nat × Nat)
  | 0 => []
  | j + 1 => (coCtx x (7 - j), coBit x (7 - j)) :: coTail x j
theorem coTail_all (x : UInt8) : coTail x 8 = coPairs x := rfl
theorem coTail_ok (x : UInt8) : ∀ j, j ≤ 8 → CoOK (coTail x j)
  | 0, _ => by intro p hp; cases hp
  | j + 1, h => by
    intro p hp
    unfold coTail at hp
    rcases List.mem_cons.1 hp with rfl | hp
    · have h1 := coCtx_lt x (7 - j) (by omega)
      exact ⟨h1.1, h1.2, coBit_lt x _⟩
    · exact coTail_ok x j (by omega) p hp
theorem coDecBits_ok {T : List UInt8} (x : UInt8) (rest : List (Nat × Nat)) (hr : CoOK rest) : ∀ (j : Nat) {s : List Nat × CoIv}, j ≤ 8 → CoSt s → CoWin T (coRun s (coTail x j ++ rest)).2 →
    coDecBits T j (coCtx x (8 - j)) s = (256 + x.toNat, coRun s (coTail x j))
  | 0, s, _, _, _ => by
    unfold coDecBits
    rw [show 8 - 0 = 8 from rfl, coCtx_end]
    rfl
  | j + 1, s, hj, hs, hw => by
    have hc := coCtx_lt x (7 - j) (by omega)
    have hb := coBit_lt x (7 - j)
    have hok : CoOK (coTail x j ++ rest) := fun p hp => by
      rcases List.mem_append.1 hp with h | h
      · exact coTail_ok x j (by omega) p h
      · exact hr p h
    have hs' := hs.step (p := (coCtx x (7 - j), coBit x (7 - j))) hc.1 hc.2
    have hw' : CoWin T (coRun (coStep s (coCtx x (7 - j), coBit x (7 - j))) (coTail x j ++ rest)).2 := hw
    have h1 := CoWin.run hs' hok hw'
    have h2 := (CoWin.bit hs.opn (hs.good.mid _ hc.1 hc.2) hb h1).2
    unfold coDecBits
    rw [show 8 - (j + 1) = 7 - j by omega]
    simp only [h2]
    rw [← coCtx_next x (7 - j) (by omega), show 7 - j + 1 = 8 - j by omega]
    rw [coDecBits_ok x rest hr j (by omega) hs' hw']
    rfl
theorem coDecode_ok {T : List UInt8} : ∀ (data : List UInt8) {s : List Nat × CoIv}, CoSt s → CoWin T (coRun s (coAll data)).2 → coDecode T data.length s = data
  | [], _, _, _ => rfl
  | x :: data, s, hs, hw => by
    have hw' : CoWin T (coRun s (coTail x 8 ++ coAll data)).2 := by
      rw [coTail_all]
      exact hw
    have h1 := coDecBits_ok x (coAll data) (coAll_ok data) 8 (Nat.le_refl _) hs hw'
    rw [show 8 - 8 = 0 from rfl, coCtx_zero] at h1
    have h2 : CoWin T (coRun (coRun s (coTail x 8)) (coAll data)).2 := by rw [← coRun_append]; exact hw'
    have h3 := coDecode_ok data (hs.run (coTail_ok x 8 (Nat.le_refl _))) h2
    show coDecode T (data.length + 1) s = x :: data
    unfold coDecode
    rw [h1, h3]
    congr 1
    simp
theorem coEnd_win {v : CoIv} (h : CoOpen v) : CoWin (coEnd v) v := by
  have h1 := h.le
  have h2 := h.hi
  have h3 := h.top
  unfold coEnd
  by_cases hx : v.x = 0
  · rw [if_neg (by omega)]
    have hw : coWord v.out v.out.length = 0 := by
      have hz : ∀ j, coB v.out (v.out.length + j) = 0 := fun j => by
        unfold coB
        rw [List.getD_eq_getElem?_getD, List.getElem?_eq_none (by omega)]
        rfl
      have z0 := hz 0
      rw [Nat.add_zero] at z0
      unfold coWord
      rw [z0, hz 1, hz 2, hz 3]
    exact ⟨by omega, by omega, List.prefix_refl _⟩
  · rw [if_pos hx]
    have hlt : v.x / 16777216 < v.y / 16777216 := by omega
    have hw : coWord (v.out ++ [UInt8.ofNat (v.x / 16777216 + 1)]) v.out.length = (v.x / 16777216 + 1) * 16777216 := by
      have z0 : coB (v.out ++ [UInt8.ofNat (v.x / 16777216 + 1)]) v.out.length = v.x / 16777216 + 1 := by
        unfold coB
        rw [List.getD_eq_getElem?_getD, List.getElem?_append_right (Nat.le_refl _), Nat.sub_self]
        simp
        omega
      have hz : ∀ j, coB (v.out ++ [UInt8.ofNat (v.x / 16777216 + 1)]) (v.out.length + (j + 1)) = 0 := fun j => by
        unfold coB
        rw [List.getD_eq_getElem?_getD, List.getElem?_eq_none (by rw [List.length_append]; simp)]
        rfl
      unfold coWord
      rw [z0, hz 0, hz 1, hz 2]
      omega
    exact ⟨by rw [hw]; omega, by rw [hw]; omega, List.prefix_append _ _⟩
theorem coNew_st (prior : List UInt8) : CoSt (coTrain coNew (coAll prior), coStart) := ⟨coTrain_good coNew_good (coAll_ok prior), coStart_open⟩
/-- Decoding a code gives the data. -/
theorem co_trip (prior data : List UInt8) : coDecode (coCode prior data) data.length (coTrain coNew (coAll prior), coStart) = data := by
  have hs := coNew_st prior
  exact coDecode_ok data hs (coEnd_win (hs.run (coAll_ok data)).opn)
end Go.Proofs.Ytpbebmbkcpdbeaa
