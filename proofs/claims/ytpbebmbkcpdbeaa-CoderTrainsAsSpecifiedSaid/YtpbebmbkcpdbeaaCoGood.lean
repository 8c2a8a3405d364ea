/-
  The reference's Good: what it returns. No statement is proved here.
-/
import Derived.Test.YtpbebmbkcpdbeaaCoSmall
import Derived.Outline
namespace Go.Proofs.Ytpbebmbkcpdbeaa
open Go.RowKit
set_option linter.unusedVariables false

def ics (l : List Int) : List Value := l.map fun n => Value.int .i64 n
theorem ics_length (l : List Int) : (ics l).length = l.length := by unfold ics; rw [List.length_map]
theorem ics_get {l : List Int} {c : Nat} (h : c < l.length) : (ics l)[c]? = some (.int .i64 (l.getD c 0)) := by
  unfold ics
  rw [List.getElem?_map, List.getElem?_eq_getElem h, List.getD_eq_getElem?_getD, List.getElem?_eq_getElem h]
  rfl
structure GoodI (l : List Int) : Prop where
  mid : ∀ c, 1 ≤ c → c < 256 → 31 ≤ l.getD c 0 ∧ l.getD c 0 ≤ 4065
  zero : l.getD 0 0 = 0
theorem GoodI.nat {l : List Int} (h : GoodI l) (hl : l.length = 256) : ∃ m : List Nat, CoGood m ∧ ics l = mcs m := by
  have hn : ∀ c, c < 256 → 0 ≤ l.getD c 0 := fun c hc => by
    by_cases h0 : c = 0
    · subst h0; rw [h.zero]; omega
    · have := h.mid c (by omega) hc; omega
  refine ⟨l.map Int.toNat, ⟨by rw [List.length_map]; exact hl, ?_, fun c h1 h2 => ?_⟩, ?_⟩
  · have h0 := h.zero
    rw [List.getD_eq_getElem?_getD, List.getElem?_map]
    rw [List.getD_eq_getElem?_getD] at h0
    rw [List.getElem?_eq_getElem (by omega)] at h0 ⊢
    simp only [Option.map_some, Option.getD_some] at h0 ⊢
    rw [h0]; rfl
  · have h0 := h.mid c h1 h2
    rw [List.getD_eq_getElem?_getD, List.getElem?_map]
    rw [List.getD_eq_getElem?_getD] at h0
    rw [List.getElem?_eq_getElem (by omega)] at h0 ⊢
    simp only [Option.map_some, Option.getD_some] at h0 ⊢
    omega
  · unfold ics mcs
    rw [List.map_map]
    apply List.ext_getElem?
    intro c
    rw [List.getElem?_map, List.getElem?_map]
    by_cases hc : c < 256
    · have h0 := hn c hc
      rw [List.getD_eq_getElem?_getD] at h0
      rw [List.getElem?_eq_getElem (by omega)] at h0 ⊢
      simp only [Option.map_some, Option.getD_some, Function.comp] at h0 ⊢
      rw [Int.toNat_of_nonneg h0]
    · rw [List.getElem?_eq_none (by omega)]
      rfl
theorem GoodI.of_good {m : List Nat} (h : CoGood m) : GoodI (m.map fun (n : Nat) => (n : Int)) := by
  refine ⟨fun c h1 h2 => ?_, ?_⟩
  · have h0 := h.mid c h1 h2
    have hl := h.len
    rw [List.getD_eq_getElem?_getD, List.getElem?_map]
    rw [List.getD_eq_getElem?_getD] at h0
    rw [List.getElem?_eq_getElem (by omega)] at h0 ⊢
    simp only [Option.map_some, Option.getD_some] at h0 ⊢
    omega
  · have h0 := h.zero
    have hl := h.len
    rw [List.getD_eq_getElem?_getD, List.getElem?_map]
    rw [List.getD_eq_getElem?_getD] at h0
    rw [List.getElem?_eq_getElem (by omega)] at h0 ⊢
    simp only [Option.map_some, Option.getD_some] at h0 ⊢
    omega
theorem mcs_ics (m : List Nat) : mcs m = ics (m.map fun (n : Nat) => (n : Int)) := by unfold mcs ics; rw [List.map_map]; rfl

def RetGood (l : List Int) (w : World) (e : Ending) (w' : World) : Prop := ∃ b : Bool, e = .returned (.bool b) ∧ (b = true ↔ GoodI l) ∧ Below w.heap.size w w'
set_option maxRecDepth 100000 in
set_option maxHeartbeats 1000000 in
theorem refGood_any (l : List Int) (hl : l.length = 256) (w : World) : Calls Try.prog 17 #[.agg (ics l).toArray] w (RetGood l w) := by
  go_enter Try.func17, Try.ntmps17
  go_wp2_with (with_reducible refine bxArr (cs := ics l) (.tmp 0) (wn rfl) rfl rfl ?_)
  intro w1 h1 hb
  go_wp2_with fail
  go_loopw [3] (fun c wr => ∃ k : Nat, k ≤ 255 ∧ c = .int .i64 ((k + 1 : Nat) : Int) ∧ Hid (∀ c, 1 ≤ c → c < k + 1 → 31 ≤ l.getD c 0 ∧ l.getD c 0 ≤ 4065) ∧ wr = w1) (fun c _ => 256 - (intOf c).toNat)
  case atStart => exact ⟨0, by omega, rfl, Lib.hid (fun c h1 h2 => by omega), rfl⟩
  case round =>
    obtain ⟨k, hk, rfl, HK, rfl⟩ := hrel
    by_cases hlt : k < 255
    · have hc := h1.cell (ics_get (l := l) (c := k + 1) (by omega))
      have HX : Hid (31 ≤ l.getD (k + 1) 0 → l.getD (k + 1) 0 ≤ 4065 → ∀ c, 1 ≤ c → c < k + 1 + 1 → 31 ≤ l.getD c 0 ∧ l.getD c 0 ≤ 4065) := Lib.hid (fun e1 e2 c h1 h2 => by
        by_cases hck : c = k + 1
        · subst hck; exact ⟨e1, e2⟩
        · exact HK.out c h1 (by omega))
      have HB : Hid (¬ (31 ≤ l.getD (k + 1) 0 ∧ l.getD (k + 1) 0 ≤ 4065) → ¬ GoodI l) := Lib.hid (fun h hg => h (hg.mid (k + 1) (by omega) (by omega)))
      clear HK
      generalize l.getD (k + 1) 0 = v at *
      by_cases h31 : v < 31
      · go_wp2_with fail
        go_ret
        exact ⟨false, rfl, ⟨fun h => (by cases h), fun h => absurd h (HB.out (by omega))⟩, hb⟩
      · by_cases h40 : 4065 < v
        · go_wp2_with fail
          go_ret
          exact ⟨false, rfl, ⟨fun h => (by cases h), fun h => absurd h (HB.out (by omega))⟩, hb⟩
        · have HX2 := Lib.hid (HX.out (by omega) (by omega))
          go_wp2_with fail
          refine ⟨⟨k + 1, by omega, by simp, HX2, trivial⟩, ?_⟩
          simp [intOf]; omega
    · obtain rfl : k = 255 := by omega
      have hc := h1.cell (ics_get (l := l) (c := 0) (by omega))
      have HZ := Lib.hid (show l.getD 0 0 = 0 ↔ GoodI l from ⟨fun h => ⟨fun c h1 h2 => HK.out c h1 (by omega), h⟩, fun h => h.zero⟩)
      clear HK
      generalize l.getD 0 0 = v at *
      go_wp2_with fail
      go_ret
      exact ⟨decide (v = 0), rfl, ⟨fun h => HZ.out.1 (by simpa using h), fun h => by simpa using HZ.out.2 h⟩, hb⟩
end Go.Proofs.Ytpbebmbkcpdbeaa
