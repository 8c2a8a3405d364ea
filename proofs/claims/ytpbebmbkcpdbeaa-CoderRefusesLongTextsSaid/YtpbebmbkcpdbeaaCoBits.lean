/-
  The coder's bits as an iterator: its contract. No statement is proved here.
-/
import Derived.RangeFuncNested
import Derived.RangeFuncBound
import Derived.RangeFuncCalls
import Derived.RangeFuncLeaves
import Derived.Shelf.Abstract
import Derived.Shelf.RegionOpen
import Derived.WalkKit
import Derived.OwnWalkIn
import Derived.TacticsInMore
import Derived.LoopNIn
import Derived.LoopIn
import Derived.Test.YtpbebmbkcpdbeaaCoLearn
import Derived.Test.YtpbebmbkcpdbeaaBRow
namespace Go.Proofs.Ytpbebmbkcpdbeaa
open Go.RowKit Go.Shelf
set_option linter.unusedVariables false
attribute [local go_sem] Oper.semAt_some

/-- A context and a bit. -/
abbrev CoP := { p : Nat × Nat // 1 ≤ p.1 ∧ p.1 < 256 ∧ (p.2 = 0 ∨ p.2 = 1) }
def coEncs (x : CoP) : Array Value := #[.int .i64 (x.1.1 : Int), .int .i64 (x.1.2 : Int)]
/-- The pair at a place of all. -/
def coAt (l : List UInt8) (t : Nat) : CoP := ⟨(coCtx (l.getD (t / 8) 0) (t % 8), coBit (l.getD (t / 8) 0) (t % 8)), (coCtx_lt _ _ (Nat.mod_lt _ (by decide))).1, (coCtx_lt _ _ (Nat.mod_lt _ (by decide))).2, coBit_lt _ _⟩
def coUpto (l : List UInt8) (k : Nat) : List CoP := (List.range k).map (coAt l)
theorem coUpto_succ (l : List UInt8) (k : Nat) : coUpto l (k + 1) = coUpto l k ++ [coAt l k] := by simp [coUpto, List.range_succ]
theorem coUpto_length (l : List UInt8) (k : Nat) : (coUpto l k).length = k := by simp [coUpto]
theorem coUpto_all (l : List UInt8) : (coUpto l (8 * l.length)).map Subtype.val = coAll l := by
  induction l with
  | nil => rfl
  | cons x l ih =>
    have e : coAll (x :: l) = coPairs x ++ coAll l := rfl
    rw [e, ← ih]
    unfold coUpto coPairs
    rw [List.length_cons, show 8 * (l.length + 1) = 8 + 8 * l.length by omega, List.range_add, List.map_append, List.map_append, List.map_map, List.map_map, List.map_map, List.map_map]
    congr 1
    apply List.map_congr_left
    intro t ht
    simp only [Function.comp, coAt]
    rw [show (8 + t) / 8 = t / 8 + 1 by omega, show (8 + t) % 8 = t % 8 by omega]
    rfl
/-- Blocks with a frozen end are kept. -/
def FrKeep (W W' : World) : Prop := ∀ (k : Nat) (cur : Array Value) (t : TypeId) (fr : Nat × Nat), W.heap[k]? = some (Obj.cells cur t fr) → fr ≠ (0, 0) → W'.heap[k]? = some (Obj.cells cur t fr)
theorem FrKeep.refl (W : World) : FrKeep W W := fun _ _ _ _ h _ => h
theorem FrKeep.trans {A B C : World} (h : FrKeep A B) (k : FrKeep B C) : FrKeep A C := fun i c t f hi hf => k i c t f (h i c t f hi hf) hf
theorem FrKeep.putObj (W : World) (l : Nat) (o o' : Obj) (h : W.heap[l]? = some o) (ho : o.isCells = false) : FrKeep W (W.putObj l o') := fun k cur t fr hk hf => by
  have hne : l ≠ k := by
    intro e
    subst e
    rw [h] at hk
    cases hk
    cases ho
  exact (World.putObj_heap_other (fun e => hne e.symm)).trans hk
theorem FrKeep.grown {W W' : World} {g : Nat} {t : TypeId} {cur : List Value} (h : Arr W g t cur) (hg : W.grownBy W' (some g)) : FrKeep W W' := fun k c t' fr hk hf => by
  refine (hg.block k (Array.getElem?_eq_some_iff.1 hk).1 (fun e => ?_)).trans hk
  injection e with e
  subst e
  rw [show W.heap[k]? = _ from h] at hk
  injection hk with hk
  injection hk with _ _ h3
  exact hf h3.symm

/-- Block g holds the bytes l, and has a frozen end. -/
def FRow (w : World) (g : Nat) (l : List UInt8) : Prop :=
  ∃ (cur : Array Value) (t : TypeId) (fr : Nat × Nat), w.heap[g]? = some (Obj.cells cur t fr) ∧ fr ≠ (0, 0) ∧ ∀ (j : Nat) (u : Value), (bcs l)[j]? = some u → cur[j]? = some u
theorem FRow.keep {w w' : World} {g : Nat} {l : List UInt8} (h : FRow w g l) (hk : FrKeep w w') : FRow w' g l := by
  obtain ⟨cur, t, fr, h1, h2, h3⟩ := h
  exact ⟨cur, t, fr, hk _ _ _ _ h1 h2, h2, h3⟩
theorem FRow.cell {w : World} {g : Nat} {l : List UInt8} (h : FRow w g l) {j : Nat} {u : Value} (hj : (bcs l)[j]? = some u) : w.cell? ⟨g, j, none⟩ = some u := by
  obtain ⟨cur, t, fr, h1, _, h3⟩ := h
  unfold World.cell?
  rw [show w.heap[(⟨g, j, none⟩ : Addr).block]? = some (.cells cur t fr) from h1]
  simpa using h3 j u hj
/-- '[]byte(s)'. -/
theorem convBsF {P : Program} {w : World} {ops : Array Oper} {rest : List Oper} {o : Oper} {a : Act} {Q : Exit → Act → World → Prop} {src e dst : TypeId} (x : Operand) (l : List UInt8) (hs : P.underlying src = some .string) (hd : P.underlying dst = some (.slice e)) (he : P.underlying e = some (.int .u8)) (hgd : Region.wanted o (yielded ops a.tmps) = true)
    (ho : o.op = .convert src dst x) (hx : a.eval x = .string ⟨l.toArray⟩)
    (h : ∀ c w', FRow w' w.heap.size l → Below w.heap.size w w' → w.grownBy w' none → wpList P ops Q rest (a.put o.dst (.slice (some ⟨w.heap.size, 0, none⟩) l.length c)) w') : wpList P ops Q (o :: rest) a w := by
  have hsz : (⟨l.toArray⟩ : ByteArray).size = l.length := by simp [ByteArray.size]
  have hr := Lib.run_convert_string_bytes (P := P) w src dst e ⟨l.toArray⟩ hs hd he
  rw [hsz] at hr
  refine wpList_want hgd fun K hK => ?_
  unfold Oper.wp execOp
  simp only [ho, hx, Sem.run_bind, Sem.run_pure, hr, Result.andThen_ok]
  refine hK _ _ (h _ _ ?_ ?_ ?_)
  · refine ⟨_, e, _, Lib.bytesWorld_at_new w e ⟨l.toArray⟩, by simp, fun j u hu => ?_⟩
    unfold bcs at hu
    rw [List.getElem?_map] at hu
    obtain ⟨b, hb, rfl⟩ := Option.map_eq_some_iff.1 hu
    have hj := (List.getElem?_eq_some_iff.1 hb).1
    unfold Lib.bytesCells
    rw [Array.getElem?_append_left (by simpa using hj)]
    simp [hb, bc]
  · exact ⟨rfl, rfl, rfl, by rw [Lib.bytesWorld_size]; omega, fun k hk => Lib.bytesWorld_at_old w e _ k hk⟩
  · exact ⟨rfl, rfl, rfl, by rw [Lib.bytesWorld_size]; omega, fun k hk _ => Lib.bytesWorld_at_old w e _ k hk⟩

theorem bcs_get {l : List UInt8} {i : Nat} {b : UInt8} (h : l[i]? = some b) : (bcs l)[i]? = some (.int .u8 (b.toNat : Int)) := by
  unfold bcs
  rw [List.getElem?_map, h]
  rfl
theorem co_bit (x : UInt8) (t : Nat) : bits .and .i64 ((x.toNat : Int) / 2 ^ (7 - t)) 1 = ((coBit x t : Nat) : Int) := by
  have hx := x.toNat_lt
  unfold coBit
  generalize x.toNat = i at *
  have h1 : ((i : Int) / 2 ^ (7 - t)) = ((i / 2 ^ (7 - t) : Nat) : Int) := by simp
  have h2 := Nat.div_le_self i (2 ^ (7 - t))
  have h3 := i64_and_n (i / 2 ^ (7 - t)) 1 (by omega) (by omega)
  rw [h1]
  rw [Nat.and_one_is_mod] at h3
  exact h3
theorem co_next (c b : Nat) (hc : c < 1000000) (hb : b = 0 ∨ b = 1) : bits .or .i64 ((c : Int) * 2) (b : Int) = ((2 * c + b : Nat) : Int) := by
  have h3 := i64_or_n (c * 2) b (by omega) (by omega)
  have h4 := Nat.two_pow_add_eq_or_of_lt (i := 1) (b := b) (by omega) c
  rw [show ((c : Int) * 2) = ((c * 2 : Nat) : Int) by omega, h3]
  congr 1
  rw [Nat.mul_comm c 2]
  exact h4.symm

set_option maxRecDepth 100000 in
theorem bits_any (text : List UInt8) (w : World) : Calls Try.prog 30 #[.string ⟨text.toArray⟩] w fun e w' => e = .returned (.func (.func 40) #[] #[.pointer (some ⟨w.heap.size, 0, none⟩)]) ∧ w' = w.alloc (.cells #[.string ⟨text.toArray⟩] 9) := by
  go_enter Try.func30, Try.ntmps30
  go_wp2
  go_ret
  exact ⟨rfl, rfl⟩

set_option maxRecDepth 100000 in
set_option maxHeartbeats 2000000 in
/-- 'for _, x := range []byte(text) { .. yield(c, b) .. }', for every body that keeps blocks with a frozen end. -/
theorem bits1_in (n : Nat) (hn : 1 ≤ n) (l Bs : Nat) (text : List UInt8) (hl : text.length ≤ 140737488351232) (J Jx : List CoP → World → Prop) (W : World) (hJf : AbidesFrom W.heap.size J)
    (hY : ∀ pre x W1, J pre W1 → pre.length < 8 * text.length → YieldAt Fence.wide (n - 1) Try.prog l (coEncs x) W1 fun e W' =>
      (e = .returned (.bool true) ∧ J (pre ++ [x]) W' ∧ FrKeep W1 W') ∨ (e = .returned (.bool false) ∧ Jx (pre ++ [x]) W'))
    (hBs : W.cell? ⟨Bs, 0, none⟩ = some (.string ⟨text.toArray⟩)) (h0 : J [] W) :
    Calls Try.prog 40 #[.func (.yield l) #[] #[], .pointer (some ⟨Bs, 0, none⟩)] W fun e W' => (∃ v, e = .returned v) ∧
      ((∃ xs, xs = coUpto text (8 * text.length) ∧ J xs W') ∨ (∃ pre, True ∧ Jx pre W')) := by
  go_enter Try.func40, Try.ntmps40
  go_wp2_with (with_reducible refine convBsF (.tmp 8) text Try.und_str Try.sl_u8.und Try.und_u8 (wn rfl) rfl rfl ?_)
  intro c9 w1 hF hb1 hgr
  replace h0 := hJf _ _ _ none h0 hgr (fun r e => by cases e)
  generalize W.heap.size = g9 at *
  go_wp2_with fail
  refine (wpIn_wide (n := n)).1 ?_
  gi_loopw [11] (fun j wr => ∃ k : Nat, k ≤ text.length ∧ j = .int .i64 (k : Int) ∧ J (coUpto text (8 * k)) wr ∧ FRow wr g9 text) (fun j _ => text.length - (intOf j).toNat)
  case atStart => exact ⟨0, by omega, rfl, h0, hF⟩
  case round =>
    clear h0 hF hBs hgr hb1
    obtain ⟨k, hk, rfl, hJ, hF⟩ := hrel
    by_cases hlt : k < text.length
    · have hc : wr.cell? ⟨g9, k, none⟩ = some (.int .u8 ((text.getD k 0).toNat : Int)) := hF.cell (bcs_get (by rw [List.getD_eq_getElem?_getD, List.getElem?_eq_getElem hlt]; rfl))
      have hat : ∀ t, t < 8 → coEncs (coAt text (8 * k + t)) = #[.int .i64 (coCtx (text.getD k 0) t : Int), .int .i64 (coBit (text.getD k 0) t : Int)] := fun t ht => by
        unfold coEncs coAt
        simp only
        rw [show (8 * k + t) / 8 = k by omega, show (8 * k + t) % 8 = t by omega]
      have hz := coCtx_zero (text.getD k 0)
      have hx256 := (text.getD k 0).toNat_lt
      have HAT := Lib.hid hat
      clear hat
      generalize text.getD k 0 = x at *
      have HZ := Lib.hid hz
      clear hz
      gi_wp2
      gi_loopw [5, 6] (fun c i wi => ∃ (t : Nat) (C I : Int), t ≤ 8 ∧ c = .int .i64 C ∧ C = (coCtx x t : Int) ∧ i = .int .i64 I ∧ I = 7 - (t : Int) ∧ J (coUpto text (8 * k + t)) wi ∧ FRow wi g9 text) (fun _ i _ => (intOf i + 1).toNat)
      case atStart => exact ⟨0, _, _, by omega, rfl, by rw [HZ.out]; rfl, rfl, by omega, hJ, hF⟩
      case round =>
        clear hJ hF hc
        obtain ⟨t, C, I, ht, rfl, hC, rfl, hI, hJ, hF⟩ := hrel
        by_cases h8 : t < 8
        · obtain ⟨l7, h7⟩ : ∃ l7 : Nat, t + l7 = 7 := ⟨7 - t, by omega⟩
          obtain rfl : I = (l7 : Int) := by omega
          obtain ⟨fn, tmps, assign, body, hy, hR⟩ := hY _ (coAt text (8 * k + t)) _ hJ (by rw [coUpto_length]; omega)
          rw [HAT.out t h8] at hy
          subst hC
          have hbit := co_bit x t
          have hnx := coCtx_next x t h8
          have hcl := coCtx_lt x t h8
          have hb01 := coBit_lt x t
          gi_wp2
          refine hR.mono ?_
          rintro e W3 (⟨rfl, hJ3, hk3⟩ | ⟨rfl, hJx3⟩)
          · have hnx2 := co_next (coCtx x t) (coBit x t) (by omega) hb01
            gi_wp2
            go_roundw
            case rel => exact ⟨t + 1, _, _, by omega, rfl, by rw [hnx]; omega, rfl, by omega, by rw [show 8 * k + (t + 1) = 8 * k + t + 1 by omega, coUpto_succ]; exact hJ3, hF.keep hk3⟩
            case measure => simp [intOf]; omega
          · gi_wp2
            refine bodyPost_ret (results_none rfl _ _ _) rfl ?_
            exact ⟨⟨_, rfl⟩, .inr ⟨_, trivial, hJx3⟩⟩
        · obtain rfl : t = 8 := by omega
          obtain rfl : I = -1 := by omega
          gi_wp2
          go_roundw
          case rel => exact ⟨k + 1, by omega, by simp, by rw [show 8 * (k + 1) = 8 * k + 8 by omega]; exact hJ, hF⟩
          case measure => simp [intOf]; omega
    · obtain rfl : k = text.length := by omega
      gi_wp2
      go_end0
      exact ⟨⟨_, rfl⟩, .inl ⟨_, rfl, hJ⟩⟩
end Go.Proofs.Ytpbebmbkcpdbeaa
