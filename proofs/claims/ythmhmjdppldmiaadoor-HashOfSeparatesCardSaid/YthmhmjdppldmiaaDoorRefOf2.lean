/-
  Of and Few of the specification.
-/
import Derived.Test.YthmhmjdppldmiaaDoorRefOf
namespace Go.Proofs.YthmhmjdppldmiaaDoor
open Go.RowKit

set_option maxRecDepth 100000 in
set_option maxHeartbeats 1000000 in
theorem refOf_any (tag : Int) (l : List (List UInt8)) (A : Option Addr) (n c B : Nat) (w : World) (ht : TabsR w) (hr : Rd w B 1 A n c (l.map sv)) (hB : B ≤ w.heap.size) (hlen : (inputOf tag l).length ≤ 1000000000) (hlp : l.length ≤ 1000000000) :
    Calls Tryd.prog 22 #[.int .i64 tag, .slice A n c] w fun e w' => e = .returned (.agg (bcs (ofDig tag l)).toArray) ∧ Below w.heap.size w w' := by
  have hod : (sha (inputOf tag l)).take 16 = ofDig tag l := rfl
  have HOD := Lib.hid hod
  have HD := Lib.hid (show (bcs (ofDig tag l)).length = 16 by rw [bcs_length]; exact ofDig_len tag l)
  clear hod
  generalize ofDig tag l = dig at *
  go_enter Tryd.func22, Tryd.ntmps22
  go_wp2_with (with_reducible refine alArr (z := zerosB 16) Tryd.ag_b16 (wn rfl) rfl ?_)
  intro w1 h4 hb
  go_wp2_with fail
  refine (input_any tag l A n c B w1 (hr.below (hb.mono hB)) (Nat.le_trans hB hb.size) hlen hlp).mono ?_
  rintro e w2 hret
  obtain ⟨A2, c2, rfl, _, hrd, hb2⟩ := hret.open
  replace h4 := h4.below hb2 h4.lt
  replace hb := hb.trans (hb2.mono hb.size)
  clear hb2 hret
  go_wp2_with fail
  refine (short_any (inputOf tag l) A2 _ c2 _ w2 (ht.below hb ht.size) hrd (Nat.le_refl _) hlen).mono ?_
  rintro e w3 ⟨rfl, hb3⟩
  replace h4 := h4.below hb3 h4.lt
  replace hb := hb.trans (hb3.mono hb.size)
  rw [HOD.out]
  clear hb3 hrd
  go_wp2_with (with_reducible refine stArr (cs := bcs dig) (.tmp 4) (.tmp 8) Tryd.ag_b16 (wn rfl) rfl rfl rfl h4 (zerosB_len _) HD.out (bcs_one _) ?_)
  intro w4 h4 hkeep hbel
  go_wp2_with fail
  refine bodyPost_ret (v := .agg (bcs dig).toArray) ?_ rfl ⟨rfl, hb.trans (hbel _ (Nat.le_refl _))⟩
  exact res_cell1 (bcs dig) Tryd.results22 Tryd.ag_b16 _ rfl HD.out (fun j u hu => by rw [Nat.zero_add]; exact h4.cell hu)

def few12 (l : List (List UInt8)) : Bool := decide (l.length ≤ 12) && l.all fun x => decide (x.length ≤ 400)
theorem few12_take {l : List (List UInt8)} {i : Nat} {x : List UInt8} (h : l[i]? = some x) (hx : x.length ≤ 400) (hi : ∀ y ∈ l.take i, y.length ≤ 400) : ∀ y ∈ l.take (i + 1), y.length ≤ 400 := by
  have hlt := (List.getElem?_eq_some_iff.1 h).1
  have e : l[i] = x := by rw [List.getElem?_eq_getElem hlt] at h; exact Option.some.inj h
  rw [List.take_succ_eq_append_getElem hlt, e]
  intro y hy
  rw [List.mem_append, List.mem_singleton] at hy
  rcases hy with hy | rfl
  · exact hi y hy
  · exact hx
theorem few12_no {l : List (List UInt8)} {i : Nat} {x : List UInt8} (h : l[i]? = some x) (hx : ¬ x.length ≤ 400) : few12 l = false := by
  unfold few12
  rw [Bool.and_eq_false_iff]
  right
  rw [List.all_eq_false]
  exact ⟨x, List.mem_of_getElem? h, by simpa using hx⟩
theorem few12_long {l : List (List UInt8)} (h : ¬ l.length ≤ 12) : few12 l = false := by
  unfold few12
  rw [decide_eq_false h, Bool.false_and]
theorem few12_all {l : List (List UInt8)} (h : l.length ≤ 12) (hi : ∀ y ∈ l.take l.length, y.length ≤ 400) : few12 l = true := by
  unfold few12
  rw [List.take_length] at hi
  rw [decide_eq_true h, Bool.true_and, List.all_eq_true]
  intro x hx
  exact decide_eq_true (hi x hx)
theorem few12_parts {l : List (List UInt8)} (h : few12 l = true) : l.length ≤ 12 ∧ ∀ x ∈ l, x.length ≤ 400 := by
  unfold few12 at h
  rw [Bool.and_eq_true, decide_eq_true_eq, List.all_eq_true] at h
  exact ⟨h.1, fun x hx => of_decide_eq_true (h.2 x hx)⟩
set_option maxRecDepth 100000 in
set_option maxHeartbeats 1000000 in
theorem few_any (l : List (List UInt8)) (A : Option Addr) (n c B : Nat) (w : World) (hr : Rd w B 1 A n c (l.map sv)) (hB : B ≤ w.heap.size) (hlp : n ≤ 140737488351232) :
    Calls Tryd.prog 13 #[.slice A n c] w fun e w' => e = .returned (.bool (few12 l)) ∧ Below w.heap.size w w' := by
  obtain rfl : l.length = n := by have := hr.len; simpa using this
  by_cases h12 : l.length ≤ 12
  · go_enter Tryd.func13, Tryd.ntmps13
    go_wp2_with fail
    go_loopw [3] (fun iv_ wr => ∃ i : Nat, i ≤ l.length ∧ iv_ = .int .i64 i ∧ Hid (∀ y ∈ l.take i, y.length ≤ 400) ∧ Below w.heap.size w wr) (fun iv_ _ => l.length - (intOf iv_).toNat)
    case atStart => exact ⟨0, by omega, rfl, (by show ∀ _, _; simp), Below.refl _ _⟩
    case round =>
      obtain ⟨i, hi, rfl, hfew, hb⟩ := hrel
      by_cases hlt : i < l.length
      · obtain ⟨b, off, u, rfl, hbB, hu, hcell⟩ := (hr.below (hb.mono hB)).at1 hlt
        obtain ⟨p, hp, rfl⟩ : ∃ p : List UInt8, l[i]? = some p ∧ u = .string ⟨p.toArray⟩ := by
          rw [List.getElem?_map] at hu
          obtain ⟨x, hx, hxu⟩ := Option.map_eq_some_iff.1 hu
          exact ⟨x, hx, hxu.symm⟩
        by_cases hp4 : p.length ≤ 400
        · have HF : Hid (∀ y ∈ l.take (i + 1), y.length ≤ 400) := few12_take hp hp4 hfew.out
          clear hp hu hfew
          go_wp2_with fail
          go_roundw
          case rel => exact ⟨i + 1, by omega, by go_num, HF, hb⟩
          case measure => (simp [intOf]; try omega)
        · have hno := few12_no hp hp4
          have HNO := Lib.hid hno
          clear hp hu hfew hno
          go_wp2_with fail
          go_ret
          exact ⟨by rw [HNO.out]; rfl, hb⟩
      · obtain rfl : i = l.length := by omega
        have hyes := few12_all h12 hfew.out
        have HYES := Lib.hid hyes
        clear hfew hyes
        go_wp2_with fail
        go_ret
        exact ⟨by rw [HYES.out]; rfl, hb⟩
  · rw [few12_long h12]
    go_enter Tryd.func13, Tryd.ntmps13
    go_wp2_with fail
    go_ret
    exact ⟨rfl, Below.refl _ _⟩
end Go.Proofs.YthmhmjdppldmiaaDoor
