/-
  Arithmetic on int at an operation, for operations taken first. No statement is proved here.
-/
import Derived.Test.YtpbebmbkcpdbeaaBase
import Derived.IntWalk
import Derived.Test.YtpbebmbkcpdbeaaBits
namespace Go.Proofs.Ytpbebmbkcpdbeaa
open Go.RowKit

section
variable {P : Program} {w : World} {o : Oper} {a : Act} {t ty : TypeId} {A B C : Int}
theorem addRun (x y : Operand) (ho : o.op = .binOp .add t x y ty) (hx : a.eval x = .int .i64 A) (hy : a.eval y = .int .i64 B) (hC : A + B = C) (h : -9223372036854775808 ≤ C ∧ C ≤ 9223372036854775807) : (execOp a.eval o).run P w = .ok (.value (.int .i64 C)) w := by
  have hw := IntWalk.i64_in C h
  unfold execOp
  simp [ho, hx, hy, eqGuard, binOp_add, Op.intArith, hC, hw]
theorem subRun (x y : Operand) (ho : o.op = .binOp .sub t x y ty) (hx : a.eval x = .int .i64 A) (hy : a.eval y = .int .i64 B) (hC : A - B = C) (h : -9223372036854775808 ≤ C ∧ C ≤ 9223372036854775807) : (execOp a.eval o).run P w = .ok (.value (.int .i64 C)) w := by
  have hw := IntWalk.i64_in C h
  unfold execOp
  simp [ho, hx, hy, eqGuard, binOp_sub, Op.intArith, hC, hw]
theorem mulRun (x y : Operand) (ho : o.op = .binOp .mul t x y ty) (hx : a.eval x = .int .i64 A) (hy : a.eval y = .int .i64 B) (hC : A * B = C) (h : -9223372036854775808 ≤ C ∧ C ≤ 9223372036854775807) : (execOp a.eval o).run P w = .ok (.value (.int .i64 C)) w := by
  have hw := IntWalk.i64_in C h
  unfold execOp
  simp [ho, hx, hy, eqGuard, binOp_mul, Op.intArith, hC, hw]
theorem shrRun {n : Nat} (x y : Operand) (ho : o.op = .binOp .shr t x y ty) (hx : a.eval x = .int .i64 A) (hy : a.eval y = .int .i64 (n : Int)) (_hn : n ≤ 64) : (execOp a.eval o).run P w = .ok (.value (.int .i64 (A / 2 ^ n))) w := by
  unfold execOp
  simp [ho, hx, hy, eqGuard, binOp_shr]
theorem shrNat {m n : Nat} (x y : Operand) (ho : o.op = .binOp .shr t x y ty) (hx : a.eval x = .int .i64 (m : Int)) (hy : a.eval y = .int .i64 (n : Int)) (hn : n ≤ 64) : (execOp a.eval o).run P w = .ok (.value (.int .i64 ((m / 2 ^ n : Nat) : Int))) w := by
  rw [shrRun x y ho hx hy hn]
  have : ((m / 2 ^ n : Nat) : Int) = (m : Int) / 2 ^ n := by simp
  rw [this]
theorem xorRun {m n : Nat} (x y : Operand) (ho : o.op = .binOp .xor t x y ty) (hx : a.eval x = .int .i64 (m : Int)) (hy : a.eval y = .int .i64 (n : Int)) (hm : m < 9223372036854775808) (hn : n < 9223372036854775808) : (execOp a.eval o).run P w = .ok (.value (.int .i64 ((m ^^^ n : Nat) : Int))) w := by
  have hx2 : m ^^^ n < 2 ^ 63 := Nat.xor_lt_two_pow (by omega) (by omega)
  unfold execOp
  simp [ho, hx, hy, eqGuard, binOp_xor, Op.intBits]
  rw [show IntKind.i64.bits = 64 from rfl, Nat.mod_eq_of_lt (by omega), Nat.mod_eq_of_lt (by omega)]
  exact IntWalk.i64_in _ (by omega)
end
end Go.Proofs.Ytpbebmbkcpdbeaa
