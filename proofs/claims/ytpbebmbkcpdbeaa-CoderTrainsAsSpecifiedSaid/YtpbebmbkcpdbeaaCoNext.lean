/-
  next of the coder's source takes a byte into view. No statement is proved here.
-/
import Derived.Test.YtpbebmbkcpdbeaaCoNarrow
import Derived.Outline
namespace Go.Proofs.Ytpbebmbkcpdbeaa
open Go.RowKit
set_option linter.unusedVariables false

def soCells (text : List UInt8) (k V : Nat) : List Value := [.string ⟨text.toArray⟩, .int .i64 (k : Int), .int .i64 (V : Int)]
theorem co_or (a b : Nat) (ha : a < 16777216) (hb : b < 256) : bits .or .i64 ((a * 256 : Nat) : Int) (b : Int) = ((a * 256 + b : Nat) : Int) := by
  have h1 := i64_or_n (a * 256) b (by omega) (by omega)
  have h2 := Nat.two_pow_add_eq_or_of_lt (i := 8) (b := b) (by omega) a
  rw [show (2 : Nat) ^ 8 = 256 by decide, Nat.mul_comm 256] at h2
  rw [← h2] at h1
  exact h1

set_option maxRecDepth 100000 in
set_option maxHeartbeats 2000000 in
theorem next_any (text : List UInt8) (k V gs : Nat) (b : Int) (w : World) (hV : V < 4294967296) (hk : k < 1000000000000) (hl : text.length ≤ 140737488351232) (hA : Arr w gs 62 (soCells text k V)) :
    Calls Try.prog 37 #[.pointer (some ⟨gs, 0, none⟩), .int .u8 b] w fun e w' => e = .returned (.tuple #[]) ∧ Arr w' gs 62 (soCells text (k + 1) (V % 16777216 * 256 + coB text k)) ∧ w.grownBy w' (some gs) := by
  have c0 : w.cell? ⟨gs, 0, none⟩ = some (.string ⟨text.toArray⟩) := hA.cell (i := 0) rfl
  have c1 : w.cell? ⟨gs, 1, none⟩ = some (.int .i64 (k : Int)) := hA.cell (i := 1) rfl
  have c2 : w.cell? ⟨gs, 2, none⟩ = some (.int .i64 (V : Int)) := hA.cell (i := 2) rfl
  have f1 := hA.thaw 1
  have f2 := hA.thaw 2
  have hlo := co_lo V hV
  have hor := co_or (V % 16777216) (coB text k) (Nat.mod_lt _ (by decide)) (coB_lt text k)
  have hML : V % 16777216 * 256 + coB text k < 4294967296 := by have := coB_lt text k; omega
  have hz : ¬ k < text.length → V % 16777216 * 256 + coB text k = V % 16777216 * 256 := fun h => by
    unfold coB
    rw [List.getD_eq_getElem?_getD, List.getElem?_eq_none (by omega)]
    rfl
  generalize V % 16777216 * 256 + coB text k = M at *
  have hLL : V % 16777216 * 256 < 4294967296 := by omega
  generalize V % 16777216 * 256 = L at *
  have hs1 : Arr (w.setCell ⟨gs, 2, none⟩ (.int .i64 (L : Int))) gs 62 (soCells text k L) := hA.set 2 _
  have hg1 := grown_set1 w gs 2 (.int .i64 (L : Int))
  have HML := Lib.hid hML
  have HOR := Lib.hid hor
  have HZ := Lib.hid hz
  clear hz hor hML
  go_enter Try.func37, Try.ntmps37
  go_wp2_with fail
  clear c0 c1 c2 f1 f2 hA
  generalize w.setCell ⟨gs, 2, none⟩ (.int .i64 (L : Int)) = w1 at *
  have c0 : w1.cell? ⟨gs, 0, none⟩ = some (.string ⟨text.toArray⟩) := hs1.cell (i := 0) rfl
  have c1 : w1.cell? ⟨gs, 1, none⟩ = some (.int .i64 (k : Int)) := hs1.cell (i := 1) rfl
  by_cases hlt : k < text.length
  · have hgb : (⟨text.toArray⟩ : ByteArray)[k]'(by simpa [ByteArray.size] using hlt) = text[k] := by
      show text.toArray[k]'_ = _
      simp
    have hcb : ((text[k]).toNat : Int) = ((coB text k : Nat) : Int) := by
      unfold coB
      rw [List.getD_eq_getElem?_getD, List.getElem?_eq_getElem hlt]
      rfl
    go_region
    have c2 : w1.drew.cell? ⟨gs, 2, none⟩ = some (.int .i64 (L : Int)) := hs1.drew.cell (i := 2) rfl
    have c0d : w1.drew.cell? ⟨gs, 0, none⟩ = some (.string ⟨text.toArray⟩) := c0
    have c1d : w1.drew.cell? ⟨gs, 1, none⟩ = some (.int .i64 (k : Int)) := c1
    have f2 := hs1.drew.thaw 2
    have f1 := hs1.drew.thaw 1
    have e1 : bits .or .i64 (L : Int) (wrap64 ((coB text k : Nat) : Int)) = (M : Int) := by
      have := coB_lt text k
      rw [show wrap64 ((coB text k : Nat) : Int) = ((coB text k : Nat) : Int) by unfold wrap64; omega]
      exact HOR.out
    have hg2 := grown_trans hg1 (grown_to (some gs) (grown_drew w1))
    have hs2 := hs1.drew
    clear hs1 hg1 c0 c1
    generalize w1.drew = w2 at *
    go_wp2_with fail
    go_region
    go_wp2_with fail
    go_end0
    have hs3 : Arr ((w2.setCell ⟨gs, 2, none⟩ (.int .i64 (M : Int))).setCell ⟨gs, 1, none⟩ (.int .i64 ((k : Int) + 1))) gs 62 (soCells text (k + 1) M) := (hs2.set 2 _).set 1 _
    exact ⟨rfl, hs3.drew, grown_trans hg2 (grown_trans (grown_set1 _ _ _ _) (grown_trans (grown_set1 _ _ _ _) (grown_to _ (grown_drew _))))⟩
  · have f1 := hs1.thaw 1
    go_region
    have c1d : w1.drew.cell? ⟨gs, 1, none⟩ = some (.int .i64 (k : Int)) := c1
    have f1d := hs1.drew.thaw 1
    go_wp2_with fail
    go_end0
    have hML2 : M = L := HZ.out hlt
    subst hML2
    have hs3 : Arr (w1.setCell ⟨gs, 1, none⟩ (.int .i64 ((k : Int) + 1))) gs 62 (soCells text (k + 1) M) := hs1.set 1 _
    exact ⟨rfl, hs3.drew, grown_trans hg1 (grown_trans (grown_set1 _ _ _ _) (grown_to _ (grown_drew _)))⟩
end Go.Proofs.Ytpbebmbkcpdbeaa
