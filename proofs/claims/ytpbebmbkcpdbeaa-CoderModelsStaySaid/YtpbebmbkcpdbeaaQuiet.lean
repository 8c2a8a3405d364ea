/-
  Laws for a region that draws its order and only reads: one operation with a known value; a struct or array loaded whole; byte arrays compared. No statement is proved here.
-/
import Derived.Test.YtpbebmbkcpdbeaaBase
import Derived.Deep.QuietTactic
import Derived.BigQuiet
import Derived.Stop.BytesEq
namespace Go.Proofs.Ytpbebmbkcpdbeaa
open Go.RowKit

section
variable {P : Program} {w : World} {ops : Array Oper} {rest : List Oper} {o : Oper} {a : Act} {Q : Act → Prop}
theorem qVal {C : World → Prop} {v : Value} (hg : o.guard = none) (h : ∀ w', C w' → (execOp a.eval o).run P w' = .ok (.value v) w') (hk : wpQuiet P ops C Q rest (a.put o.dst v)) : wpQuiet P ops C Q (o :: rest) a := by
  refine wpQuiet_step fun K hK => ?_
  rw [if_pos (by simp [Region.wanted, hg])]
  refine ⟨v, fun w' hw' => ?_, hK _ hk⟩
  unfold Oper.quietAt
  rw [h w' hw']
  exact ⟨rfl, rfl⟩
theorem qLdAgg {ty : TypeId} {z : Array Value} {n b off : Nat} (x : Operand) (cs : List Value) (T : AgTy P ty z n) (hg : o.guard = none) (ho : o.op = .load ty x)
    (hx : a.eval x = .pointer (some ⟨b, off, none⟩)) (hl : cs.length = n) (hc : ∀ j u, cs[j]? = some u → w.cell? ⟨b, off + j, none⟩ = some u)
    (hk : wpQuiet P ops (fun w' => ∃ n, w' = w.drewN n) Q rest (a.put o.dst (.agg cs.toArray))) : wpQuiet P ops (fun w' => ∃ n, w' = w.drewN n) Q (o :: rest) a := by
  refine qVal hg (fun w' hw' => ?_) hk
  obtain ⟨m, rfl⟩ := hw'
  have hr := run_loadAgg (P := P) (w := w.drewN m) T b off cs hl (fun j u hj => (hc j u hj))
  unfold execOp
  simp only [ho, hx, Instr.loadAt, Instr.sureAddr, Sem.run_bind, Sem.run_pure, Result.andThen_ok, hr]
theorem run_eqBytes {t e : TypeId} {n : Nat} (w : World) (ht : P.underlying t = some (.array n e)) (he : P.underlying e = some (.int .u8)) (hs : (P.info? e).map (·.size) = some 1) (xs ys : List UInt8) (hx : xs.length = n) (hy : ys.length = n) :
    (Op.equalIn 10000 t (.agg (bcs xs).toArray) (.agg (bcs ys).toArray)).run P w = .ok (xs == ys) w := by
  obtain ⟨i, hi, hsz⟩ := Option.map_eq_some_iff.1 hs
  exact run_equalIn_bytes w 9998 t e n ht he (fun w => by simp [sizeOf, typeInfo, hi, hsz]) xs ys hx hy
theorem qNeqBytes {t e : TypeId} {n : Nat} (x y : Operand) (xs ys : List UInt8) (ht : P.underlying t = some (.array n e)) (he : P.underlying e = some (.int .u8)) (hs : (P.info? e).map (·.size) = some 1) (hq : P.eqGuardType P.depth t = false)
    (hg : o.guard = none) (ho : o.op = .binOp .neq t x y t) (hxv : a.eval x = .agg (bcs xs).toArray) (hyv : a.eval y = .agg (bcs ys).toArray) (hx : xs.length = n) (hy : ys.length = n)
    (hk : wpQuiet P ops (fun w' => ∃ n, w' = w.drewN n) Q rest (a.put o.dst (.bool (!(xs == ys))))) : wpQuiet P ops (fun w' => ∃ n, w' = w.drewN n) Q (o :: rest) a := by
  refine qVal hg (fun w' _ => ?_) hk
  have hr := run_eqBytes (P := P) w' ht he hs xs ys hx hy
  unfold execOp
  simp only [ho, hxv, hyv]
  simp [eqGuard, hq, run_neq_struct, hr]
end
end Go.Proofs.Ytpbebmbkcpdbeaa
