/-
  few answers whether the texts have at most 2000 bytes and elements in all.
-/
import Derived.Test.YtelphmfdpnmncaaSame
namespace Go.Proofs.Ytelphmfdpnmncaa
open Go.RowKit

def total (l : List (List UInt8)) : Nat := (l.map List.length).sum
theorem total_take_le (l : List (List UInt8)) (k : Nat) : total (l.take k) ≤ total l := by
  unfold total
  have e : l = l.take k ++ l.drop k := (List.take_append_drop k l).symm
  have h : (l.map List.length).sum = ((l.take k ++ l.drop k).map List.length).sum := by rw [← e]
  rw [h, List.map_append, List.sum_append]; omega
theorem total_take (l : List (List UInt8)) (k : Nat) (x : List UInt8) (h : l[k]? = some x) : total (l.take (k + 1)) = total (l.take k) + x.length := by
  have hk : k < l.length := by
    rcases Nat.lt_or_ge k l.length with hh | hh
    · exact hh
    · rw [List.getElem?_eq_none hh] at h; cases h
  have hx : l[k] = x := by rw [List.getElem?_eq_getElem hk] at h; exact Option.some.inj h
  unfold total
  rw [List.take_succ_eq_append_getElem hk, List.map_append, List.sum_append, hx]
  simp

set_option maxRecDepth 100000 in
set_option maxHeartbeats 400000 in
theorem few_any (l : List (List UInt8)) (A : Option Addr) (n c B : Nat) (w : World) (hr : Rd w B 1 A n c (l.map sv)) (hs : l.length + total l ≤ 1099511627776) :
    Calls Try.prog 11 #[.slice A n c] w fun e w' => e = .returned (.bool (decide (l.length + total l ≤ 2000))) ∧ w = w' := by
  obtain rfl : l.length = n := by have := hr.len; simpa using this
  have hcap := hr.cap
  have hle := hr.le
  unfold maxLen at hcap
  go_enter Try.func11, Try.ntmps11
  go_wp2
  go_loop [3, 10] (fun nv i => ∃ k m : Nat, k ≤ l.length ∧ i = .int .i64 k ∧ nv = .int .i64 m ∧ Hid (m = l.length + total (l.take k)) ∧ m ≤ 1099511627776) (fun _ i => l.length - (intOf i).toNat)
  case atStart => exact ⟨0, l.length, Nat.zero_le _, rfl, rfl, (by show _ = _; simp [total]), by omega⟩
  case round =>
    obtain ⟨k, m, hk, rfl, rfl, hm, hmb⟩ := hrel
    by_cases hlt : k < l.length
    · obtain ⟨b, off, u, rfl, hbB, hu, hcell⟩ := hr.at1 hlt
      obtain ⟨x, hx, rfl⟩ : ∃ x : List UInt8, l[k]? = some x ∧ u = .string ⟨x.toArray⟩ := by
        rw [List.getElem?_map] at hu
        obtain ⟨x, hx, hxu⟩ := Option.map_eq_some_iff.1 hu
        exact ⟨x, hx, hxu.symm⟩
      have ht := total_take l k x hx
      have hle2 := total_take_le l (k + 1)
      have hmm := hm.out
      have hb2 : m + x.length ≤ 1099511627776 := by omega
      have HM : Hid (m + x.length = l.length + total (l.take (k + 1))) := by show _ = _; omega
      clear hx hu ht hle2 hmm hm
      go_wp2
      go_round
      case rel => exact ⟨k + 1, m + x.length, by omega, by go_num, by first | rfl | go_num | (congr 1; simp [ByteArray.size]), HM, hb2⟩
      case measure => (simp [intOf]; try omega)
    · obtain rfl : k = l.length := by omega
      have HM : Hid (m = l.length + total l) := by have := hm.out; rwa [List.take_length] at this
      clear hm hlt
      go_wp2
      go_ret
      refine ⟨?_, rfl⟩
      rw [← HM.out]
      simp
      omega
end Go.Proofs.Ytelphmfdpnmncaa
