/-
  Joined of the specification.
-/
import Derived.Test.YthmhmjdppldmiaaDoorRefOf2
namespace Go.Proofs.YthmhmjdppldmiaaDoor
open Go.RowKit

theorem cat_two (a b : List UInt8) : (⟨a.toArray⟩ : ByteArray) ++ ⟨b.toArray⟩ = ⟨(a ++ b).toArray⟩ := by
  apply ByteArray.ext
  simp
theorem flat_next {l : List (List UInt8)} {i : Nat} {p : List UInt8} (h : l[i]? = some p) : (l.take i).flatten ++ p = (l.take (i + 1)).flatten := by
  have hi := (List.getElem?_eq_some_iff.1 h).1
  have e : l[i] = p := by rw [List.getElem?_eq_getElem hi] at h; exact Option.some.inj h
  rw [List.take_succ_eq_append_getElem hi, e]
  simp
theorem flat_le (l : List (List UInt8)) (i : Nat) : (l.take i).flatten.length ≤ l.flatten.length := by
  have e : l.flatten = (l.take i).flatten ++ (l.drop i).flatten := by rw [← List.flatten_append, List.take_append_drop]
  rw [e, List.length_append]; omega
theorem flat_bound (l : List (List UInt8)) (h : ∀ x ∈ l, x.length ≤ 400) : l.flatten.length ≤ 400 * l.length := by
  induction l with
  | nil => simp
  | cons a l ih =>
    have h1 := h a (by simp)
    have h2 := ih fun x hx => h x (List.mem_cons_of_mem _ hx)
    rw [List.flatten_cons, List.length_append, List.length_cons]
    omega
set_option maxRecDepth 100000 in
set_option maxHeartbeats 1000000 in
theorem joined_any (l : List (List UInt8)) (A : Option Addr) (n c B : Nat) (w : World) (hr : Rd w B 1 A n c (l.map sv)) (hB : B ≤ w.heap.size) (hlp : n ≤ 1000000) (hlen : l.flatten.length ≤ 1000000) :
    Calls Tryd.prog 16 #[.slice A n c] w fun e w' => e = .returned (sv l.flatten) ∧ Below w.heap.size w w' := by
  obtain rfl : l.length = n := by have := hr.len; simpa using this
  have HLEN := Lib.hid hlen
  clear hlen
  go_enter Tryd.func16, Tryd.ntmps16
  go_wp2_with fail
  go_loopw [3, 4] (fun s iv_ wr => ∃ i : Nat, i ≤ l.length ∧ iv_ = .int .i64 i ∧ s = .string ⟨((l.take i).flatten).toArray⟩ ∧ Below w.heap.size w wr) (fun _ iv_ _ => l.length - (intOf iv_).toNat)
  case atStart => exact ⟨0, by omega, rfl, rfl, Below.refl _ _⟩
  case round =>
    obtain ⟨i, hi, rfl, rfl, hb⟩ := hrel
    by_cases hlt : i < l.length
    · obtain ⟨b, off, u, rfl, hbB, hu, hcell⟩ := (hr.below (hb.mono hB)).at1 hlt
      obtain ⟨p, hp, rfl⟩ : ∃ p : List UInt8, l[i]? = some p ∧ u = .string ⟨p.toArray⟩ := by
        rw [List.getElem?_map] at hu
        obtain ⟨x, hx, hxu⟩ := Option.map_eq_some_iff.1 hu
        exact ⟨x, hx, hxu.symm⟩
      have hnx := flat_next hp
      have HNX := Lib.hid hnx
      have hle := flat_le l (i + 1)
      have hsum : (l.take i).flatten.length + p.length ≤ 1000000 := by have := HLEN.out; rw [← hnx, List.length_append] at hle; omega
      clear hnx hp hu hle
      generalize hm : (l.take i).flatten = m at *
      clear hm
      go_wp2_with fail
      go_roundw
      case rel => exact ⟨i + 1, by omega, by go_num, by rw [cat_two, HNX.out], hb⟩
      case measure => (simp [intOf]; try omega)
    · obtain rfl : i = l.length := by omega
      rw [List.take_length]
      go_wp2_with fail
      go_ret
      exact ⟨rfl, hb⟩
end Go.Proofs.YthmhmjdppldmiaaDoor
