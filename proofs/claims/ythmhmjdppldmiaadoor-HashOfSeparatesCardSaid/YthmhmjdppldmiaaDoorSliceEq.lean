/-
  's[:hi]' in whatever world, as an equation: for regions that draw their order. No statement is proved here.
-/
import Derived.Test.YthmhmjdppldmiaaDoorBase
namespace Go.Proofs.YthmhmjdppldmiaaDoor
open Go.RowKit

theorem sliceH_eq {P : Program} {w : World} {t e : TypeId} {z : Value} {size bytes B n c V : Nat} {A : Option Addr} {xs : List Value} (T : SlTy P t e z size bytes) (hr : Rd w B size A n c xs) (h2 : V ≤ n) :
    ∃ A', Rd w B size A' V c (xs.take (V * size)) ∧ ∀ w' : World, (Instr.sliceAt t (.slice A n c) none (some (.int .i64 (V : Int))) none).run P w' = .ok (.slice A' V c) w' := by
  obtain ⟨i, hi, hz0, hz1, hz2⟩ := info_parts T.inf
  have hle := hr.le
  have ht : P.underlying t = some (.slice (P.elem t)) := by rw [T.und]; simp [Program.elem, T.und]
  have he : P.elem t = e := by have := T.und; rw [this] at ht; injection ht with ht; injection ht with ht; exact ht.symm
  have hrun := fun w' => run_slice_h (P := P) w' t A n c ht .i64 (V : Int) (by omega) (by omega)
  have hcut := hr.cut (lo := 0) (hi := V) (m := c) (by omega) (by omega) (by omega) (by omega)
  simp only [Nat.sub_zero, Nat.zero_mul, List.drop_zero] at hcut
  refine ⟨_, hcut, fun w' => ?_⟩
  simp only [run_sliceAt_slice w' t _ _ _ _ ht, hrun w', he, sizeOf, typeInfo, Int.toNat_natCast, sliced]
  simp [hi, hz1]
end Go.Proofs.YthmhmjdppldmiaaDoor
