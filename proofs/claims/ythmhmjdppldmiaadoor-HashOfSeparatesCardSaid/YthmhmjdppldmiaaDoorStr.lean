/-
  A stream of the hash: what it holds for a message, and how it grows. No program in sight.
-/
import Derived.Test.YthmhmjdppldmiaaDoorOut
import Derived.Test.YthmhmjdppldmiaaDoorMid
namespace Go.Proofs.YthmhmjdppldmiaaDoor
open Go.RowKit

/-- blk with x laid from place i on. -/
def blkAdd (blk : List UInt8) (i : Nat) (x : List UInt8) : List UInt8 := blk.take i ++ x ++ blk.drop (i + x.length)
def stOf (m : List UInt8) : St := blocks m (St.of sha0) (m.length / 64)
structure StrOK (m blk : List UInt8) : Prop where
  len : blk.length = 64
  pre : blk.take (m.length % 64) = m.drop (64 * (m.length / 64))
def stCells (s : St) (blk : List UInt8) (n : Nat) : List Value := s.vals ++ bcs blk ++ [.int .u64 (n : Int)]
theorem stCells_len (s : St) {blk : List UInt8} (n : Nat) (h : blk.length = 64) : (stCells s blk n).length = 73 := by
  unfold stCells; rw [List.length_append, List.length_append, bcs_length, h, St.vals_len]; rfl
theorem stCells_one (s : St) (blk : List UInt8) (n : Nat) : ∀ u ∈ stCells s blk n, u.oneCell' = true := by
  intro u hu
  rcases List.mem_append.1 hu with h | h
  · rcases List.mem_append.1 h with h | h
    · exact wvs_one _ u h
    · exact bcs_one _ u h
  · rw [List.mem_singleton.1 h]; rfl
theorem blkAdd_len {blk x : List UInt8} {i : Nat} (h : blk.length = 64) (hx : i + x.length ≤ 64) : (blkAdd blk i x).length = 64 := by unfold blkAdd; simp; omega
theorem stCells_n (s : St) {blk : List UInt8} (n n' : Nat) (h : blk.length = 64) : (stCells s blk n).set 72 (.int .u64 (n' : Int)) = stCells s blk n' := by
  unfold stCells
  have hl : (s.vals ++ bcs blk).length = 72 := by rw [List.length_append, bcs_length, h, St.vals_len]
  generalize s.vals ++ bcs blk = p at hl ⊢
  have e5 : ∀ (p : List Value) (x y : Value), (p ++ [x]).set p.length y = p ++ [y] := by
    intro p x y
    induction p with
    | nil => rfl
    | cons a p ih => simp
  rw [← hl]
  exact e5 p _ _
theorem stCells_at_n (s : St) {blk : List UInt8} (n : Nat) (h : blk.length = 64) : (stCells s blk n)[72]? = some (.int .u64 (n : Int)) := by
  unfold stCells
  have hl : (s.vals ++ bcs blk).length = 72 := by rw [List.length_append, bcs_length, h, St.vals_len]
  rw [List.getElem?_append_right (by omega), hl]
  rfl
theorem stCells_state (s s' : St) {blk : List UInt8} (n : Nat) : spl (stCells s blk n) 0 s'.vals = stCells s' blk n := by
  unfold stCells
  rw [List.append_assoc, List.append_assoc]
  exact spl_head _ _ _ rfl
theorem stCells_copy (s : St) {blk x : List UInt8} {i : Nat} (n : Nat) (h : blk.length = 64) (hx : i + x.length ≤ 64) : spl (stCells s blk n) (8 + i) (bcs x) = stCells s (blkAdd blk i x) n := by
  have hb : blk = blk.take i ++ (blk.drop i).take x.length ++ blk.drop (i + x.length) := by
    rw [List.append_assoc, ← List.drop_drop, List.take_append_drop, List.take_append_drop]
  have he : stCells s blk n = (s.vals ++ bcs (blk.take i)) ++ bcs ((blk.drop i).take x.length) ++ (bcs (blk.drop (i + x.length)) ++ [.int .u64 (n : Int)]) := by
    unfold stCells
    conv => lhs; rw [hb]
    simp only [bcs_append, List.append_assoc]
  have hl : (s.vals ++ bcs (blk.take i)).length = 8 + i := by rw [List.length_append, bcs_length, St.vals_len, List.length_take]; omega
  rw [he, ← hl, spl_mid _ _ _ _ (by rw [bcs_length, bcs_length, List.length_take, List.length_drop]; omega)]
  unfold stCells blkAdd
  simp only [bcs_append, List.append_assoc]
theorem stCells_get (s : St) (blk : List UInt8) (n : Nat) {i : Nat} (h : i < 8) : (stCells s blk n)[i]? = some (wv (nth s.list i)) := by
  unfold stCells
  rw [List.append_assoc, List.getElem?_append_left (by rw [St.vals_len]; exact h)]
  exact vals_get s h
theorem stCells_blk (s : St) {blk : List UInt8} (n : Nat) {i : Nat} {u : Value} (hu : (bcs blk)[i]? = some u) : (stCells s blk n)[8 + i]? = some u := by
  have hi := (List.getElem?_eq_some_iff.1 hu).1
  unfold stCells
  rw [List.append_assoc, List.getElem?_append_right (by rw [St.vals_len]; omega), St.vals_len, Nat.add_sub_cancel_left, List.getElem?_append_left hi]
  exact hu
theorem blocks_prefix (m x : List UInt8) (s : St) : ∀ n, 64 * n ≤ m.length → blocks (m ++ x) s n = blocks m s n
  | 0, _ => rfl
  | n + 1, h => by
    rw [blocks, blocks, blocks_prefix m x s n (by omega)]
    congr 1
    rw [List.drop_append_of_le_length (by omega), List.take_append_of_le_length (by rw [List.length_drop]; omega)]
theorem str_pre {m blk : List UInt8} (hm : StrOK m blk) (x : List UInt8) : (blkAdd blk (m.length % 64) x).take (m.length % 64 + x.length) = (m ++ x).drop (64 * (m.length / 64)) := by
  unfold blkAdd
  rw [List.drop_append_of_le_length (by omega), ← hm.pre]
  have hl : (blk.take (m.length % 64) ++ x).length = m.length % 64 + x.length := by rw [List.length_append, List.length_take, hm.len]; omega
  rw [← hl, List.take_left]
theorem str_part {m blk : List UInt8} (hm : StrOK m blk) (x : List UInt8) (hx : m.length % 64 + x.length < 64) : StrOK (m ++ x) (blkAdd blk (m.length % 64) x) ∧ stOf (m ++ x) = stOf m := by
  have h1 : (m ++ x).length / 64 = m.length / 64 := by rw [List.length_append]; omega
  have h2 : (m ++ x).length % 64 = m.length % 64 + x.length := by rw [List.length_append]; omega
  refine ⟨⟨blkAdd_len hm.len (by omega), ?_⟩, ?_⟩
  · rw [h1, h2]; exact str_pre hm x
  · unfold stOf
    rw [h1, blocks_prefix _ _ _ _ (by omega)]
theorem str_full {m blk : List UInt8} (hm : StrOK m blk) (x : List UInt8) (hx : m.length % 64 + x.length = 64) : StrOK (m ++ x) (blkAdd blk (m.length % 64) x) ∧ stOf (m ++ x) = compr (stOf m) (blkAdd blk (m.length % 64) x) := by
  have h1 : (m ++ x).length / 64 = m.length / 64 + 1 := by rw [List.length_append]; omega
  have h2 : (m ++ x).length % 64 = 0 := by rw [List.length_append]; omega
  have hbl := blkAdd_len hm.len (x := x) (i := m.length % 64) (by omega)
  have hp := str_pre hm x
  rw [hx, List.take_of_length_le (by omega)] at hp
  refine ⟨⟨hbl, ?_⟩, ?_⟩
  · rw [h1, h2, List.take_zero, List.drop_of_length_le (by rw [List.length_append]; omega)]
  · unfold stOf
    rw [h1, blocks, blocks_prefix _ _ _ _ (by omega), ← hp, List.take_of_length_le (by omega)]
theorem stOf_ok (m : List UInt8) : (stOf m).ok := blocks_ok m sha0_ok _
theorem ext_str (l : List UInt8) (k : Nat) : (⟨l.toArray⟩ : ByteArray).extract k l.length = ⟨(l.drop k).toArray⟩ := by
  apply ByteArray.ext
  rw [ByteArray.data_extract]
  simp only [List.extract_toArray]
  congr 1
  rw [List.extract_eq_take_drop, List.take_of_length_le (by rw [List.length_drop]; omega)]
theorem str_nil : StrOK [] (List.replicate 64 0) := ⟨by simp, by simp⟩
/-- v is a stream whose message is m. -/
def IsStr (m : List UInt8) (v : Value) : Prop := ∃ blk, StrOK m blk ∧ v = .agg (stCells (stOf m) blk m.length).toArray
def RetStr (w : World) (m : List UInt8) (e : Ending) (w' : World) : Prop := ∃ v, e = .returned v ∧ IsStr m v ∧ Below w.heap.size w w'
end Go.Proofs.YthmhmjdppldmiaaDoor
