/-
  PI: several texts in one. No statement is proved here.
-/
import Derived.Test.YtkmhjgdpkddbnaaPC
import Derived.Test.YtkmhjgdpkddbnaaPH
set_option linter.unusedVariables false
set_option linter.unusedSimpArgs false
namespace Go.Proofs.Ytkmhjgdpkddbnaa
/-- Whether the k-th tile can be split. -/
def splitsP (f : Tl → Int) (v : Vw) (l : List Tl) (k : Nat) (t : Tl) : Prop := 0 < t.lv ∧ v.tol < err v t ∧ l.length + 7 ≤ 4096 ∧ totalP f (splitAt l k) ≤ v.bud
instance (f : Tl → Int) (v : Vw) (l : List Tl) (k : Nat) (t : Tl) : Decidable (splitsP f v l k t) := by unfold splitsP; infer_instance
end Go.Proofs.Ytkmhjgdpkddbnaa
namespace Go.Proofs.Ytkmhjgdpkddbnaa
open Go.RowKit
set_option linter.unusedVariables false
set_option linter.unusedSimpArgs false
end Go.Proofs.Ytkmhjgdpkddbnaa
