/-
  Bytes that a text was converted to: a block whose cells can be set. No statement is proved here.
-/
import Derived.Test.YtpbebmbkcpdbeaaMid
namespace Go.Proofs.Ytpbebmbkcpdbeaa
open Go.RowKit

/-- Block g holds the bytes l from its head on, and none of them is frozen. -/
def BRow (w : World) (g : Nat) (l : List UInt8) : Prop :=
  ∃ (cur : Array Value) (t : TypeId) (fr : Nat × Nat), w.heap[g]? = some (.cells cur t fr) ∧ l.length ≤ fr.1 ∧ ∀ (j : Nat) (u : Value), (bcs l)[j]? = some u → cur[j]? = some u
section
variable {w w' : World} {g B : Nat} {l : List UInt8}
theorem BRow.lt (h : BRow w g l) : g < w.heap.size := by
  obtain ⟨cur, t, fr, h1, _⟩ := h
  exact (Array.getElem?_eq_some_iff.1 h1).1
theorem BRow.below (h : BRow w g l) (hb : Below B w w') (hB : g < B) : BRow w' g l := by
  obtain ⟨cur, t, fr, h1, h2⟩ := h
  exact ⟨cur, t, fr, (hb.block g hB).trans h1, h2⟩
theorem BRow.drew (h : BRow w g l) : BRow w.drew g l := h
theorem BRow.cell (h : BRow w g l) {j : Nat} {u : Value} (hj : (bcs l)[j]? = some u) : w.cell? ⟨g, j, none⟩ = some u := by
  obtain ⟨cur, t, fr, h1, _, h3⟩ := h
  unfold World.cell?
  rw [show w.heap[(⟨g, j, none⟩ : Addr).block]? = some (.cells cur t fr) from h1]
  simpa using h3 j u hj
theorem BRow.thaw (h : BRow w g l) {j : Nat} (hj : j < l.length) : w.frozen? ⟨g, j, none⟩ = false := by
  obtain ⟨cur, t, fr, h1, h2, _⟩ := h
  unfold World.frozen?
  rw [show w.heap[(⟨g, j, none⟩ : Addr).block]? = some (.cells cur t fr) from h1]
  simp
  omega
theorem BRow.set (h : BRow w g l) {j : Nat} (hj : j < l.length) (x : UInt8) : BRow (w.setCell ⟨g, j, none⟩ (bc x)) g (l.set j x) := by
  obtain ⟨cur, t, fr, h1, h2, h3⟩ := h
  refine ⟨cur.setIfInBounds j (bc x), t, fr, ?_, by rw [List.length_set]; exact h2, fun i u hu => ?_⟩
  · unfold World.setCell
    simp [Array.getElem?_modify, h1]
  · have hlen : j < cur.size := by
      obtain ⟨u0, hu0⟩ : ∃ u0, (bcs l)[j]? = some u0 := ⟨_, List.getElem?_eq_getElem (by rw [bcs_length]; exact hj)⟩
      exact (Array.getElem?_eq_some_iff.1 (h3 j u0 hu0)).1
    have e : bcs (l.set j x) = (bcs l).set j (bc x) := by unfold bcs; rw [List.map_set]
    rw [e, List.getElem?_set] at hu
    rw [Array.getElem?_setIfInBounds]
    by_cases hij : j = i
    · subst hij
      rw [if_pos rfl] at hu ⊢
      rw [if_pos hlen]
      rw [if_pos (by rw [bcs_length]; exact hj)] at hu
      exact hu
    · rw [if_neg hij] at hu ⊢
      exact h3 i u hu
theorem BRow.rd (h : BRow w g l) {c : Nat} (hc : l.length ≤ c) (hm : c ≤ maxLen) (hB : g < B) : Rd w B 1 (some ⟨g, 0, none⟩) l.length c (bcs l) :=
  ⟨by rw [bcs_length, Nat.mul_one], hc, hm, fun _ => ⟨g, 0, rfl, hB, fun j u hu => by rw [Nat.zero_add]; exact h.cell hu⟩⟩
end
/-- '[]byte(s)': bytes that can be set. -/
theorem convBsW {P : Program} {w : World} {ops : Array Oper} {rest : List Oper} {o : Oper} {a : Act} {Q : Exit → Act → World → Prop} {src e dst : TypeId} (x : Operand) (l : List UInt8) (hs : P.underlying src = some .string) (hd : P.underlying dst = some (.slice e)) (he : P.underlying e = some (.int .u8)) (hgd : Region.wanted o (yielded ops a.tmps) = true)
    (ho : o.op = .convert src dst x) (hx : a.eval x = .string ⟨l.toArray⟩) (hl : l.length ≤ 70368744177664)
    (h : ∀ c w', BRow w' w.heap.size l → l.length ≤ c → c ≤ maxLen → Below w.heap.size w w' → wpList P ops Q rest (a.put o.dst (.slice (some ⟨w.heap.size, 0, none⟩) l.length c)) w') : wpList P ops Q (o :: rest) a w := by
  have hsz : (⟨l.toArray⟩ : ByteArray).size = l.length := by simp [ByteArray.size]
  have hr := Lib.run_convert_string_bytes (P := P) w src dst e ⟨l.toArray⟩ hs hd he
  rw [hsz] at hr
  refine wpList_want hgd fun K hK => ?_
  unfold Oper.wp execOp
  simp only [ho, hx, Sem.run_bind, Sem.run_pure, hr, Result.andThen_ok]
  refine hK _ _ (h _ _ ?_ (grownCap_ge w l.length 0 e) (grownCap_le_maxLen w l.length 0 e (by unfold maxLen; omega)) ?_)
  · refine ⟨_, e, _, Lib.bytesWorld_at_new w e ⟨l.toArray⟩, ?_, fun j u hu => ?_⟩
    · unfold Lib.bytesCells
      simp
    · unfold bcs at hu
      rw [List.getElem?_map] at hu
      obtain ⟨b, hb, rfl⟩ := Option.map_eq_some_iff.1 hu
      have hj := (List.getElem?_eq_some_iff.1 hb).1
      unfold Lib.bytesCells
      rw [Array.getElem?_append_left (by simpa using hj)]
      simp [hb, bc]
  · exact ⟨rfl, rfl, rfl, by rw [Lib.bytesWorld_size]; omega, fun k hk => Lib.bytesWorld_at_old w e _ k hk⟩
end Go.Proofs.Ytpbebmbkcpdbeaa
