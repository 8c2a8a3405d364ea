/-
  The closure of code that keeps a settled byte. No statement is proved here.
-/
import Derived.Test.YtpbebmbkcpdbeaaCoNarrow
namespace Go.Proofs.Ytpbebmbkcpdbeaa
open Go.RowKit
set_option linter.unusedVariables false

/-- What a coder's step keeps: all but its own blocks. -/
structure KpC (n0 go gv : Nat) (W W' : World) : Prop where
  below : Below n0 W W'
  fr : FrKeep W W'
  others : KeepsOthers W W'
  arrs : ∀ (b : Nat) (t : TypeId) (cur : List Value), t ≠ 5 → b ≠ go → b ≠ gv → Arr W b t cur → Arr W' b t cur
theorem KpC.trans {n0 go gv : Nat} {A B C : World} (h : KpC n0 go gv A B) (k : KpC n0 go gv B C) : KpC n0 go gv A C :=
  ⟨h.below.trans k.below, h.fr.trans k.fr, h.others.trans k.others, fun b t cur h1 h2 h3 hA => k.arrs b t cur h1 h2 h3 (h.arrs b t cur h1 h2 h3 hA)⟩
theorem KpC.own {n0 go gv : Nat} {A B : World} {t : TypeId} {cur : List Value} (hn : n0 ≤ gv) (hA : Arr A gv t cur) (hg : A.grownBy B (some gv)) : KpC n0 go gv A B :=
  ⟨(Below.refl n0 A).grown hg (by have := hA.lt; omega) (fun k e => by cases e; exact hn), FrKeep.grown hA hg, KeepsOthers.of_grownBy hg (fun j o ej hj => by
    cases ej
    rw [show A.heap[gv]? = _ from hA] at hj
    cases hj
    rfl), fun b t cur _ _ h3 hb => hb.grown hg (fun e => h3 (by injection e))⟩
/-- The bytes settled so far lie in a row of their own, the box go holds it. -/
def CoOut (n0 go : Nat) (out : List UInt8) (W : World) : Prop :=
  ∃ v, Boxed W go 29 v ∧ W.ownsRow n0 5 1 v out.length (bcs out) ∧ n0 ≤ W.heap.size
theorem CoOut.grown {n0 go gv : Nat} {out : List UInt8} {A B : World} {t : TypeId} {cur : List Value} (h : CoOut n0 go out A) (hne : go ≠ gv) (hA : Arr A gv t cur) (ht : 5 ≠ t) (hg : A.grownBy B (some gv)) : CoOut n0 go out B := by
  obtain ⟨v, h1, h2, h3⟩ := h
  exact ⟨v, h1.kept hg (fun e => hne (by injection e)), own_row h2 hA ht hg, Nat.le_trans h3 hg.size⟩

set_option maxRecDepth 100000 in
set_option maxHeartbeats 1000000 in
theorem code1_any (n0 go gv : Nat) (out : List UInt8) (x : UInt8) (W : World) (h : CoOut n0 go out W) (hn : n0 ≤ go) (hl : out.length ≤ 1000000000) {t : TypeId} {cur : List Value} (hgv : Arr W gv t cur) (ht : t ≠ 5) (hne : gv ≠ go) :
    Calls Try.prog 34 #[.int .u8 (x.toNat : Int), .pointer (some ⟨go, 0, none⟩)] W fun e W' => e = .returned (.tuple #[]) ∧ CoOut n0 go (out ++ [x]) W' ∧ W'.heap[gv]? = W.heap[gv]? ∧ KpC n0 go gv W W' := by
  obtain ⟨v, hv, hrow, hbase⟩ := h
  have hc := hv.cell
  have hfz := hv.frozen
  go_enter Try.func34, Try.ntmps34
  go_wp2_with (at_builtin; with_reducible refine app1 _ _ Try.sl_u8 (wn rfl) rfl rfl rfl hrow (Below.refl _ _) hbase ?_ (by omega) (by omega) ?_)
  · rfl
  · intro v' w' h3 h4 h5
    obtain ⟨g', cap', rfl⟩ := ownsRow_succ h3
    obtain ⟨hv1, hv2, hr2, hk2, hb2⟩ := hv.appended (by decide) hrow hbase hn h3 h5
    have hc1 := hv1.cell
    have hf1 := hv1.frozen
    have hrowA := hrow.alloc (.cells #[.int .u8 (x.toNat : Int)] 5)
    have harr : ∀ (b : Nat) (t : TypeId) (cur : List Value), t ≠ 5 → b ≠ go → Arr W b t cur → Arr (w'.setCell ⟨go, 0, none⟩ (.slice (some ⟨g', 0, none⟩) (out.length + 1) cap')) b t cur := fun b t cur h1 h2 hA =>
      ((hA.alloc _).grown h5 (fun e => own_arr_ne hrowA (hA.alloc _) (fun e => h1 e.symm) b e.symm rfl)).other (fun e => h2 e.symm) 0 _
    have hfr : FrKeep W (w'.setCell ⟨go, 0, none⟩ (.slice (some ⟨g', 0, none⟩) (out.length + 1) cap')) := fun k cur t fr hk hf => by
      have hkl := (Array.getElem?_eq_some_iff.1 hk).1
      have h6 := (Below.heap_alloc W (.cells #[.int .u8 (x.toNat : Int)] 5) k hkl).trans hk
      have hk1 : some k ≠ v.ownBlock := fun e => by
        rcases hrowA.2 with ⟨rfl, _⟩ | ⟨g, cap, cur2, rfl, _, hh, _⟩
        · simp [Value.ownBlock] at e
        · have : k = g := by simpa [Value.ownBlock] using e
          subst this
          rw [hh] at h6
          injection h6 with h6
          injection h6 with _ _ h7
          exact hf h7.symm
      have h7 := (h5.block k (by simp; omega) hk1).trans h6
      refine (Below.heap_setCell w' ⟨go, 0, none⟩ _ k (fun e => ?_)).trans h7
      have e2 : k = go := e
      subst e2
      rw [show W.heap[k]? = _ from hv] at hk
      injection hk with hk
      injection hk with _ _ h8
      exact hf h8.symm
    go_wp2_with fail
    go_end0
    refine ⟨rfl, ⟨_, hv2, ?_, ?_⟩, (harr gv t cur ht hne hgv).trans hgv.symm, ⟨hb2, hfr, hk2, fun b t cur h1 h2 _ hA => harr b t cur h1 h2 hA⟩⟩
    · have e : bcs out ++ [Value.int .u8 (x.toNat : Int)] = bcs (out ++ [x]) := bcs_snoc out x
      rw [e] at hr2
      exact ownsRow_count hr2 (by simp) rfl
    · exact Nat.le_trans hbase hb2.size
end Go.Proofs.Ytpbebmbkcpdbeaa
