/-
  More operations taken first, by hand. No statement is proved here.
-/
import Derived.Test.YthmhmjdppldmiaaDoorReg
import Derived.Test.YthmhmjdppldmiaaDoorFloat
import Derived.Test.YthmhmjdppldmiaaDoorSliceEq
namespace Go.Proofs.YthmhmjdppldmiaaDoor
open Go.RowKit

section
variable {P : Program} {ops : Array Oper} {Q : Exit → Act → World → Prop} {S : World → Prop} {listed : Array Bool} {a : Act} {w : World} {fuel : Nat}
/-- 's[:hi]', first. -/
theorem rgSliceH {i : Nat} {o : Oper} {t : TypeId} {A A' : Option Addr} {n V c : Nat} (x y : Operand) (hs : ∀ w' : World, (Instr.sliceAt t (.slice A n c) none (some (.int .i64 (V : Int))) none).run P w' = .ok (.slice A' V c) w')
    (hi : ops.toList[i]? = some o) (hm : mayFirst ops listed i = true) (hw : Region.wanted o (yielded ops a.tmps) = true) (hQ : ∀ c' a w, Q (.panic c') (a.put o.dst (.slice A' V c)) w → Q (.panic c') a w)
    (ho : o.op = .slice t x none (some y) none) (hx : a.eval x = .slice A n c) (hy : a.eval y = .int .i64 (V : Int)) (hS : S w)
    (h : wpAnyH P .any ops Q S fuel (listed.setIfInBounds i true) (a.put o.dst (.slice A' V c)) w) : wpAnyH P .any ops Q S (fuel + 1) listed a w := by
  refine rgTake hi hm hw hQ (fun w _ => ?_) hS h
  unfold execOp
  simp only [ho, Option.map_none, Option.map_some, hx, hy, Sem.run_bind, Sem.run_pure, hs w, Result.andThen_ok]
/-- '==' on texts, first. -/
theorem rgEqStr {i : Nat} {o : Oper} {t ty : TypeId} (x y : Operand) (xs ys : List UInt8) (b : Bool) (hb : (xs == ys) = b)
    (hi : ops.toList[i]? = some o) (hm : mayFirst ops listed i = true) (hw : Region.wanted o (yielded ops a.tmps) = true) (hQ : ∀ c' a w, Q (.panic c') (a.put o.dst (.bool b)) w → Q (.panic c') a w)
    (ho : o.op = .binOp .eql t x y ty) (hx : a.eval x = .string ⟨xs.toArray⟩) (hy : a.eval y = .string ⟨ys.toArray⟩) (hS : S w)
    (h : wpAnyH P .any ops Q S fuel (listed.setIfInBounds i true) (a.put o.dst (.bool b)) w) : wpAnyH P .any ops Q S (fuel + 1) listed a w := by
  refine rgTake hi hm hw hQ (fun w _ => ?_) hS h
  unfold execOp
  simp [ho, hx, hy, eqGuard, binOp_string_eql, hb]
end
end Go.Proofs.YthmhmjdppldmiaaDoor
