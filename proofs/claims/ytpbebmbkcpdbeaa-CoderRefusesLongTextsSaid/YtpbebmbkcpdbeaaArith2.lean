/-
  More arithmetic, conversions and texts at an operation, for operations taken first. No statement is proved here.
-/
import Derived.Test.YtpbebmbkcpdbeaaArith
namespace Go.Proofs.Ytpbebmbkcpdbeaa
open Go.RowKit

section
variable {P : Program} {w : World} {o : Oper} {a : Act} {t ty src dst : TypeId} {A B C : Int} {k : IntKind}
/-- 'int(x)'. -/
theorem convIntRun (x : Operand) (hs : (P.underlying src).isSome = true) (hd : P.underlying dst = some (.int .i64)) (ho : o.op = .convert src dst x) (hx : a.eval x = .int k A) (h : -9223372036854775808 ≤ A ∧ A ≤ 9223372036854775807) : (execOp a.eval o).run P w = .ok (.value (.int .i64 A)) w := by
  have hw := IntWalk.i64_in A h
  have hk : P.intKind dst = .i64 := by simp [Program.intKind, hd]
  have hr := run_convert_int (P := P) w src dst k A hs (by rw [hk]; exact hd)
  rw [hk, hw] at hr
  unfold execOp
  simp only [ho, hx, Sem.run_bind, Sem.run_pure, hr, Result.andThen_ok]
/-- '%' of two numbers not below 0. -/
theorem remRun (x y : Operand) (ho : o.op = .binOp .rem t x y ty) (hx : a.eval x = .int .i64 A) (hy : a.eval y = .int .i64 B) (hA : 0 ≤ A) (hB : 1 ≤ B) (hC : A % B = C) : (execOp a.eval o).run P w = .ok (.value (.int .i64 C)) w := by
  have h0 : ¬ B = 0 := by omega
  have h1 : A.tmod B = C := by rw [Int.tmod_eq_emod_of_nonneg hA, hC]
  unfold execOp
  simp [ho, hx, hy, eqGuard, binOp_rem, Op.intDiv, h0, h1]
/-- len of a text. -/
theorem lenStrRun (x : Operand) (l : List UInt8) (ht : P.underlying t = some .string) (ho : o.op = .call { callee := .builtin .len, args := #[x], argTypes := #[t] }) (hx : a.eval x = .string ⟨l.toArray⟩) : (execOp a.eval o).run P w = .ok (.value (.int .i64 (l.length : Int))) w := by
  unfold execOp
  have hs : (⟨l.toArray⟩ : ByteArray).size = l.length := by simp [ByteArray.size]
  simp [ho, hx, resolve, invoke, builtin, Builtin.len_, run_underlying ht, goInt, hs]
end
end Go.Proofs.Ytpbebmbkcpdbeaa
