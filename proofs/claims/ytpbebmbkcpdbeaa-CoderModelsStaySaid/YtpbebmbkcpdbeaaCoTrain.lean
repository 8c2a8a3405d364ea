/-
  Train returns the model that has learnt a text. No statement is proved here.
-/
import Derived.Test.YtpbebmbkcpdbeaaCoBits
namespace Go.Proofs.Ytpbebmbkcpdbeaa
open Go.RowKit Go.Shelf
set_option linter.unusedVariables false
attribute [local go_sem] Oper.semAt_some

theorem bits_stops (n : Nat) (hn : 1 ≤ n) (Bs : Nat) (text : List UInt8) (hl : text.length ≤ 140737488351232) (w : World) (hB : Bs < w.heap.size) (hc : w.cell? ⟨Bs, 0, none⟩ = some (.string ⟨text.toArray⟩)) :
    SeqStopsK Fence.wide n Try.prog 40 #[.pointer (some ⟨Bs, 0, none⟩)] coEncs FrKeep (fun xs => xs = coUpto text (8 * text.length)) (fun _ => True) (8 * text.length) w :=
  fun l J Jx W hW hJ hJx hY h0 => callsIn_wide.2 (bits1_in n hn l Bs text hl J Jx W hJ hY ((hW.cell (p := ⟨Bs, 0, none⟩) hB).trans hc) h0)
theorem arr_own {β : Type} (b : Nat) (t : TypeId) (f : β → List Value) : Own (fun s W => Arr W b t (f s)) := fun s X Y row hs hg hrow =>
  (grownBy_keeps_cells hg hrow hs rfl).trans hs
def coVals (l : List CoP) : List (Nat × Nat) := l.map Subtype.val
theorem coTrain_snoc (m : List Nat) (l : List CoP) (x : CoP) : coTrain m (coVals (l ++ [x])) = coLearnAt (coTrain m (coVals l)) x.1.1 x.1.2 := by
  unfold coVals
  rw [List.map_append, coTrain_append]
  rfl
theorem coVals_ok (l : List CoP) : CoOK (coVals l) := by
  intro p hp
  obtain ⟨x, _, rfl⟩ := List.mem_map.1 hp
  exact x.2

set_option maxRecDepth 100000 in
set_option maxHeartbeats 2000000 in
theorem train_any (m : List Nat) (hm : CoGood m) (text : List UInt8) (hl : text.length ≤ 140737488351232) (w : World) :
    Calls Try.prog 20 #[.agg (mcs m).toArray, .string ⟨text.toArray⟩] w (RetM w (coTrain m (coAll text))) := by
  refine (callsIn_wide (n := 6)).1 ?_
  refine callsIn_of_wp_marks Try.func20 rfl trivial ?_ rfl
  simp only [Try.ntmps20, List.size_toArray, List.length_cons, List.length_nil, Nat.reduceAdd, Nat.reduceSub, Array.replicate_succ, Array.replicate_zero, List.push_toArray, List.append_toArray, List.nil_append, List.cons_append]
  refine wpIn_wide.2 ?_
  go_wp2_with (with_reducible refine bxArr (cs := mcs m) (.tmp 0) (wn rfl) rfl rfl ?_)
  intro w1 h2 b1
  go_wp2_with (with_reducible refine alArr (z := mcs coZero) Try.ag_m (wn rfl) rfl ?_)
  intro w2 h4 b2
  have l2 := h2.lt
  have hne4 : w.heap.size ≠ w1.heap.size := by omega
  replace h2 := h2.below b2 h2.lt
  have hb := b1.trans (b2.mono b1.size)
  have hs1 : w.heap.size ≤ w1.heap.size := b1.size
  have hl4 : w.heap.size ≤ w1.heap.size := b1.size
  generalize w1.heap.size = g4 at *
  clear b1 b2
  go_wp2_with fail
  refine (bits_any text w2).mono ?_
  rintro e w3 ⟨rfl, rfl⟩
  go_wp2_with fail
  refine (wpIn_wide (n := 6)).1 ?_
  have h2' : Arr (w2.alloc (.cells #[.string ⟨text.toArray⟩] 9)) w.heap.size 32 (mcs m) := h2.alloc _
  have h4' : Arr (w2.alloc (.cells #[.string ⟨text.toArray⟩] 9)) g4 32 (mcs coZero) := h4.alloc _
  have hb' : Below w.heap.size w (w2.alloc (.cells #[.string ⟨text.toArray⟩] 9)) := hb.alloc hb.size _
  have hc : (w2.alloc (.cells #[.string ⟨text.toArray⟩] 9)).cell? ⟨w2.heap.size, 0, none⟩ = some (.string ⟨text.toArray⟩) := (Boxed.new w2 9 (.string ⟨text.toArray⟩)).cell
  have hlt : w2.heap.size < (w2.alloc (.cells #[.string ⟨text.toArray⟩] 9)).heap.size := by simp
  generalize w2.alloc (.cells #[.string ⟨text.toArray⟩] 9) = w3 at *
  clear h2 h4 hb
  generalize w2.heap.size = gb at *
  refine wpIn_rangeFunc_ownF rfl (by decide) (gf := 40) (lb := #[.pointer (some ⟨gb, 0, none⟩)]) rfl trivial (enters_of Try.func40 (by kernel_rfl) rfl)
    (bits_stops 5 (by decide) gb text hl w3 hlt hc) FrKeep.trans (fun W l o o' _ h ho _ => FrKeep.putObj W l o o' h ho) (Below.refl _ _) (fun _ => rfl)
    (fun pre W => (Arr W w.heap.size 32 (mcs (coTrain m (coVals pre))) ∧ Arr W g4 32 (mcs coZero)) ∧ Below w.heap.size w W)
    (fun _ _ _ => False)
    (OwnFrom.and (OwnFrom.and (Own.from (arr_own _ _ _) _) (Own.from (arr_own _ _ _) _)) (ownFrom_below (Nat.le_refl _) hb'.size))
    (fun _ _ _ _ _ hs _ _ => hs)
    ⟨⟨h2', h4'⟩, hb'⟩
    (fun x => { tmps := #[.agg (mcs m).toArray, .string ⟨text.toArray⟩, .pointer (some ⟨w.heap.size, 0, none⟩), undef, .pointer (some ⟨g4, 0, none⟩), .int .i64 (x.1.1 : Int), .int .i64 (x.1.2 : Int), .string ⟨text.toArray⟩, .func (.func 40) #[] #[.pointer (some ⟨gb, 0, none⟩)], .int .i64 (x.1.1 : Int), .int .i64 (x.1.2 : Int), undef, undef, undef, undef], defers := [] }) ?assign ?body ?done ?stop
  case assign =>
    intro l x W K hK
    unfold coEncs
    gi_wp2
    exact hK
  case body =>
    rintro l pre x W ⟨⟨hA2, hA4⟩, hB⟩ _
    have hg := coTrain_good hm (coVals_ok pre)
    gi_wp2_with (refine ⟨trivial, ?_⟩; gi_at_call 31; refine (CallsIn.inRound l (callsIn_wide.2 (learn_any (coTrain m (coVals pre)) w.heap.size x.1.1 x.1.2 W hg x.2.1 x.2.2.1 x.2.2.2 hA2))).mono ?_; rintro e w5 ⟨rfl, ha, hgr⟩)
    refine ⟨KeepsOthers.of_grownBy hgr ?_, FrKeep.grown hA2 hgr, ⟨?_, ?_⟩, ?_⟩
    · intro j o ej hj
      cases ej
      rw [show W.heap[w.heap.size]? = _ from hA2] at hj
      cases hj
      rfl
    · rw [coTrain_snoc]; exact ha
    · exact (hgr.block g4 hA4.lt (fun e => hne4 (by injection e with e; exact e.symm))).trans hA4
    · exact hB.grown hgr hB.size (fun k e => by cases e; exact Nat.le_refl _)
  case done =>
    rintro D xs W hD rfl ⟨⟨hA2, hA4⟩, hB⟩ hK
    have e : coTrain m (coVals (coUpto text (8 * text.length))) = coTrain m (coAll text) := by unfold coVals; rw [coUpto_all]
    rw [e] at hA2
    have HL := Lib.hid (show (mcs (coTrain m (coAll text))).length = 256 by rw [mcs_length]; exact (coTrain_good hm (coAll_ok text)).len)
    have hD4 : g4 ≠ D := by have := h4'.lt; omega
    clear e
    generalize coTrain m (coAll text) = m2 at *
    go_wp2_with (first | (with_reducible refine ldArr (.tmp 2) Try.ag_m (wn rfl) rfl rfl HL.out hA2 ?_) | (with_reducible refine stArrG (cs := mcs m2) (.tmp 4) (.tmp 14) Try.ag_m (wn rfl) rfl rfl rfl hA4 (by kernel_rfl) HL.out (mcs_one _) ?_))
    intro w7 h7 hgr
    have hlD := (Array.getElem?_eq_some_iff.1 hK).1
    replace hK := (hgr.block D hlD (fun e => hD4 (by injection e with e; exact e.symm))).trans hK
    replace hB := hB.grown hgr hB.size (fun k e => by cases e; exact hl4)
    clear hgr hA2 hA4
    go_wp2_with fail
    refine ⟨by simp, .inl ⟨_, _, rfl, run_takeDeferred hK, ?_⟩⟩
    have h8 : Arr (w7.putObj D (.deferred none)) g4 32 (mcs m2) := (World.putObj_heap_other hD4).trans h7
    refine ⟨.agg (mcs m2).toArray, ?_, rfl, ?_⟩
    · exact res_cell1 _ Try.results20 Try.ag_m _ rfl HL.out (fun j u hu => by rw [Nat.zero_add]; exact h8.cell hu)
    · exact hB.grown (grownBy_putObj' w7 D (.deferred none)) hB.size (fun k e => by cases e; have := hb'.size; omega)
  case stop =>
    rintro D c pre W _ _ h _
    exact h.elim
end Go.Proofs.Ytpbebmbkcpdbeaa
