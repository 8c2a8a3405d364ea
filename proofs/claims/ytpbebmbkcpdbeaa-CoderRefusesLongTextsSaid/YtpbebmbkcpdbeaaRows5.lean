/-
  A slice literal whose elements take one cell each: what it reads as. No statement is proved here.
-/
import Derived.Test.YtpbebmbkcpdbeaaBase
namespace Go.Proofs.Ytpbebmbkcpdbeaa
open Go.RowKit

theorem bsRow {P : Program} {w : World} {ops : Array Oper} {rest : List Oper} {o : Oper} {a : Act} {Q : Exit → Act → World → Prop} {t e : TypeId} {z : Value} {bytes len : Nat} {parts : Array (Nat × Operand)} (vs : List Value)
    (T : SlTy P t e z 1 bytes) (hgd : Region.wanted o (yielded ops a.tmps) = true) (ho : o.op = .buildSlice t len parts) (hev : (parts.map fun (i, x) => (i, a.eval x)).toList = (vs.zipIdx 0).map fun x => (x.2, x.1))
    (hlen : vs.length = len) (h0 : 0 < len) (hs : len ≤ 65536) (hone : ∀ v ∈ vs, v.cells = #[v])
    (h : ∀ A w', Rd w' w'.heap.size 1 A len len vs → Below w.heap.size w w' → wpList P ops Q rest (a.put o.dst (.slice A len len)) w') : wpList P ops Q (o :: rest) a w := by
  obtain ⟨i, hi, hz0, hz1, hz2⟩ := info_parts T.inf
  obtain ⟨r, hr, hrs, hrk⟩ := Great.fill_dense (s := 1) (by omega) vs 0 ((Array.range (len * 1)).map (z.cells[· % z.cells.size]!)) (by intro v hv; rw [hone v hv]; rfl) (by simp; omega)
  have he : r = vs.toArray := by
    apply Array.ext_getElem?
    intro k
    rw [hrk k]
    simp only [Nat.zero_mul, Nat.zero_add, Nat.mul_one, Nat.div_one, Nat.sub_zero, Nat.mod_one, List.getElem?_toArray]
    by_cases hk : k < vs.length
    · rw [if_pos ⟨Nat.zero_le _, hk⟩, List.getElem?_eq_getElem hk]
      have := hone _ (List.getElem_mem hk)
      simp [this]
    · rw [if_neg (by omega), List.getElem?_eq_none (by omega)]
      rw [Array.getElem?_eq_none (by simp; omega)]
  subst he
  refine wpList_want hgd fun K hK => wp_buildSlice t e len parts ho vs.toArray i z T.und hi hz0 (by rw [hz1]; omega) (by rw [hz1]; omega) ?_ (hK _ _ (h _ _ ?_ ((Below.refl _ _).alloc (Nat.le_refl _) _)))
  · rw [hz1, hev]; exact hr
  · exact ⟨by omega, Nat.le_refl _, by unfold maxLen; omega, fun _ => ⟨w.heap.size, 0, rfl, by simp, cells_new w vs e⟩⟩
end Go.Proofs.Ytpbebmbkcpdbeaa
