/-
  What the bound of an Upto statement gives. No statement is proved here.
-/
import Derived.Test.YtelphmfdpnmncaaRows
import Derived.Test.YtelphmfdpnmncaaBase
namespace Go.Proofs.Ytelphmfdpnmncaa
namespace bulks
theorem one_le {H : Type} (d : DataW H) : 1 ≤ Rows.uptoBulk d := by
  cases d with
  | lit l => cases l <;> simp [Rows.uptoBulk]
  | nil => simp [Rows.uptoBulk]
  | ptr d => simp [Rows.uptoBulk]
  | slice elems spare => simp [Rows.uptoBulk]
  | agg parts => simp [Rows.uptoBulk]
  | iface t d => simp [Rows.uptoBulk]
  | map entries => simp [Rows.uptoBulk]
  | held h => simp [Rows.uptoBulk]
theorem length_le {H : Type} (l : List (DataW H)) : l.length ≤ Rows.uptoBulkAll l := by
  induction l with
  | nil => simp [Rows.uptoBulkAll]
  | cons x r ih => have := one_le x; simp only [Rows.uptoBulkAll, List.length_cons]; omega
theorem slice_le {H : Type} (elems spare : List (DataW H)) : elems.length + spare.length + 1 ≤ Rows.uptoBulk (.slice elems spare) := by
  have h1 := length_le elems
  have h2 := length_le spare
  simp only [Rows.uptoBulk]
  omega
theorem bound {H : Type} {l : List (DataW H)} (hk : Rows.uptoSmall H l = true) : Rows.uptoBulkAll l ≤ 1048576 := of_decide_eq_true hk
end bulks
theorem texts_bulk {H : Type} : ∀ (z : List (List UInt8)) (D : List (DataW H)), D.length = z.length → (∀ (i : Nat) (s : List UInt8), z[i]? = some s → D[i]? = some (.lit (.string s))) →
    z.length + (z.map List.length).sum ≤ Rows.uptoBulkAll D
  | [], _, _, _ => by simp
  | s :: z, [], hl, _ => by simp at hl
  | s :: z, d :: D, hl, h => by
    have h0 := h 0 s rfl
    simp at h0
    subst h0
    have ih := texts_bulk z D (by simpa using hl) (fun i t ht => by have := h (i + 1) t (by simpa using ht); simpa using this)
    simp only [List.length_cons, List.map_cons, List.sum_cons, Rows.uptoBulkAll, Rows.uptoBulk]
    omega
end Go.Proofs.Ytelphmfdpnmncaa
