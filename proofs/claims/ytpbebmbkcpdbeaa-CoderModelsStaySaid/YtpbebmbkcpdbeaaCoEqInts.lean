/-
  '==' on models. No statement is proved here.
-/
import Derived.Test.YtpbebmbkcpdbeaaEqInts
import Derived.Test.YtpbebmbkcpdbeaaCoSanity
namespace Go.Proofs.Ytpbebmbkcpdbeaa
open Go.RowKit

theorem eqIntsRun {P : Program} {w : World} {o : Oper} {a : Act} {t e ty : TypeId} {n : Nat} {k : IntKind} (x y : Operand) (xs ys : List Int) (b : Bool) (ht : P.underlying t = some (.array n e)) (he : P.underlying e = some (.int k)) (hs : (P.info? e).map (·.size) = some 1)
    (hq : P.eqGuardType P.depth t = false) (ho : o.op = .binOp .eql t x y ty) (hxv : a.eval x = .agg (xs.map (Value.int k)).toArray) (hyv : a.eval y = .agg (ys.map (Value.int k)).toArray) (hx : xs.length = n) (hy : ys.length = n) (hb : (xs == ys) = b) :
    (execOp a.eval o).run P w = .ok (.value (.bool b)) w := by
  obtain ⟨i, hi, hsz⟩ := Option.map_eq_some_iff.1 hs
  have hr := run_equalIn_ints w 9998 t e n k ht he (fun w => by simp [sizeOf, typeInfo, hi, hsz]) xs ys hx hy
  rw [hb] at hr
  unfold execOp
  simp only [ho, hxv, hyv]
  simp [eqGuard, hq, run_eql_struct, hr]
theorem catRun {P : Program} {w : World} {o : Oper} {a : Act} {t ty : TypeId} (x y : Operand) (s u : List UInt8) (ho : o.op = .binOp .add t x y ty) (hx : a.eval x = .string ⟨s.toArray⟩) (hy : a.eval y = .string ⟨u.toArray⟩) (h : s.length + u.length ≤ 9223372036854775807) :
    (execOp a.eval o).run P w = .ok (.value (.string ⟨(s ++ u).toArray⟩)) w := by
  have h1 : (⟨s.toArray⟩ : ByteArray).size = s.length := by simp [ByteArray.size]
  have h2 : (⟨u.toArray⟩ : ByteArray).size = u.length := by simp [ByteArray.size]
  unfold execOp
  simp [ho, hx, hy, eqGuard, binOp_string_add, Op.stringOp, h1, h2]
  rw [if_neg (by omega), cat_two]
theorem eqModels {w : World} {o : Oper} {a : Act} {ty : TypeId} (x y : Operand) (m : List Nat) (hm : m.length = 256) (ho : o.op = .binOp .eql 32 x y ty) (hx : a.eval x = .agg (mcs m).toArray) (hy : a.eval y = .agg (mcs m).toArray) :
    (execOp a.eval o).run Try.prog w = .ok (.value (.bool true)) w := by
  rw [mcs_ics] at hx hy
  exact eqIntsRun x y _ _ true Try.und_m Try.und_int Try.one_int (by kernel_rfl) ho hx hy (by rw [List.length_map]; exact hm) (by rw [List.length_map]; exact hm) (by simp)
end Go.Proofs.Ytpbebmbkcpdbeaa
