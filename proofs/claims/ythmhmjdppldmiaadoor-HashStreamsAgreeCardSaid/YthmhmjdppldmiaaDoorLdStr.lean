/-
  A text is loaded; one round of a loop that adds a text to a stream. No statement is proved here.
-/
import Derived.Test.YthmhmjdppldmiaaDoorJoined
namespace Go.Proofs.YthmhmjdppldmiaaDoor
open Go.RowKit

theorem ldStr {P : Program} {w : World} {ops : Array Oper} {rest : List Oper} {o : Oper} {a : Act} {Q : Exit → Act → World → Prop} {ty : TypeId} {p : Addr} {v : Value} (x : Operand) (hu : P.underlying ty = some .string) (hgd : Region.wanted o (yielded ops a.tmps) = true)
    (ho : o.op = .load ty x) (hx : a.eval x = .pointer (some p)) (hc : w.cell? p = some v) (hk : wpList P ops Q rest (a.put o.dst v) w) : wpList P ops Q (o :: rest) a w := by
  refine opVal (v := v) hgd ?_ hk
  have hl : (Instr.loadAt ty (.pointer (some p))).run P w = .ok v w := by
    simp [Instr.loadAt, Instr.sureAddr, loadVar, isAgg, run_underlying hu, hc]
  unfold execOp
  simp only [ho, hx, Sem.run_bind, Sem.run_pure, hl, Result.andThen_ok]
/-- What each operation of a round leaves. -/
def GAdd (m p : List UInt8) (k : Nat) (v : Value) (_w : World) : Prop :=
  match k with
  | 0 => IsStr m v
  | 4 => v = sv p
  | 5 => IsStr (m ++ p) v
  | _ => True
end Go.Proofs.YthmhmjdppldmiaaDoor
