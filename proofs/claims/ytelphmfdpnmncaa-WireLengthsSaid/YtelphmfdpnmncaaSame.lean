/-
  Same, SameInts, SameTexts, SameDigests answer true of equal sequences; few.
-/
import Derived.Test.YtelphmfdpnmncaaGetDigsRef
import Derived.Test.YtelphmfdpnmncaaQuiet
namespace Go.Proofs.Ytelphmfdpnmncaa
open Go.RowKit

set_option maxRecDepth 100000 in
set_option maxHeartbeats 400000 in
theorem same_true (l : List UInt8) (A A' : Option Addr) (n n' c c' B B' : Nat) (w : World) (hr : Rd w B 1 A n c (bcs l)) (hr' : Rd w B' 1 A' n' c' (bcs l)) :
    Calls Try.prog 13 #[.slice A n c, .slice A' n' c'] w fun e w' => e = .returned (.bool true) ∧ w = w' := by
  have h1 := conv_bs (P := Try.prog) Try.sl_u8.und Try.und_u8 Try.und_str hr
  have h2 := conv_bs (P := Try.prog) Try.sl_u8.und Try.und_u8 Try.und_str hr'
  go_enter Try.func13, Try.ntmps13
  go_wp2
  go_ret
  exact ⟨by simp, rfl⟩

/-- The reads of two slices side by side draw an order; the world turns in nothing else. -/
def Quiet (w : World) (b : Bool) (e : Ending) (w' : World) : Prop := e = .returned (.bool b) ∧ ∃ k, w' = w.drewN k
theorem drewN_zero (w : World) : w.drewN 0 = w := rfl
theorem below_drewN {B : Nat} (w : World) (n : Nat) : Below B w (w.drewN n) := ⟨rfl, rfl, rfl, Nat.le_refl _, fun _ _ => rfl⟩

set_option maxRecDepth 100000 in
set_option maxHeartbeats 400000 in
theorem sameInts_true (l : List Int) (A A' : Option Addr) (n n' c c' B B' : Nat) (w : World) (hr : Rd w B 1 A n c (l.map iv)) (hr' : Rd w B' 1 A' n' c' (l.map iv)) :
    Calls Try.prog 30 #[.slice A n c, .slice A' n' c'] w (Quiet w true) := by
  obtain rfl : l.length = n := by have := hr.len; simpa using this
  obtain rfl : l.length = n' := by have := hr'.len; simpa using this
  have hcap := hr.cap
  have hle := hr.le
  unfold maxLen at hcap
  go_enter Try.func30, Try.ntmps30
  go_wp2
  go_loopw [5] (fun i wr => ∃ k q : Nat, k ≤ l.length ∧ i = .int .i64 k ∧ wr = w.drewN q) (fun i _ => l.length - (intOf i).toNat)
  case atStart => exact ⟨0, 0, Nat.zero_le _, rfl, rfl⟩
  case round =>
    obtain ⟨k, q, hk, rfl, rfl⟩ := hrel
    by_cases hlt : k < l.length
    · obtain ⟨b, off, u, rfl, hbB, hu, hcell⟩ := hr.at1 hlt
      obtain ⟨b', off', u', rfl, hbB', hu', hcell'⟩ := hr'.at1 hlt
      obtain rfl : u = u' := by rw [hu] at hu'; exact Option.some.inj hu'
      obtain ⟨x, rfl⟩ : ∃ x : Int, u = .int .i64 x := by
        rw [List.getElem?_map] at hu
        obtain ⟨x, _, hxu⟩ := Option.map_eq_some_iff.1 hu
        exact ⟨x, hxu.symm⟩
      clear hu hu'
      go_wp2
      go_quiet (fail)
      go_wp2
      go_roundw
      case rel => exact ⟨k + 1, q + nq, by omega, by go_num, rfl⟩
      case measure => (simp [intOf]; try omega)
    · obtain rfl : k = l.length := by omega
      clear hlt
      go_wp2
      go_ret
      exact ⟨rfl, q, rfl⟩

set_option maxRecDepth 100000 in
set_option maxHeartbeats 400000 in
theorem sameTexts_true (l : List (List UInt8)) (A A' : Option Addr) (n n' c c' B B' : Nat) (w : World) (hr : Rd w B 1 A n c (l.map sv)) (hr' : Rd w B' 1 A' n' c' (l.map sv)) :
    Calls Try.prog 33 #[.slice A n c, .slice A' n' c'] w (Quiet w true) := by
  obtain rfl : l.length = n := by have := hr.len; simpa using this
  obtain rfl : l.length = n' := by have := hr'.len; simpa using this
  have hcap := hr.cap
  have hle := hr.le
  unfold maxLen at hcap
  go_enter Try.func33, Try.ntmps33
  go_wp2
  go_loopw [5] (fun i wr => ∃ k q : Nat, k ≤ l.length ∧ i = .int .i64 k ∧ wr = w.drewN q) (fun i _ => l.length - (intOf i).toNat)
  case atStart => exact ⟨0, 0, Nat.zero_le _, rfl, rfl⟩
  case round =>
    obtain ⟨k, q, hk, rfl, rfl⟩ := hrel
    by_cases hlt : k < l.length
    · obtain ⟨b, off, u, rfl, hbB, hu, hcell⟩ := hr.at1 hlt
      obtain ⟨b', off', u', rfl, hbB', hu', hcell'⟩ := hr'.at1 hlt
      obtain rfl : u = u' := by rw [hu] at hu'; exact Option.some.inj hu'
      obtain ⟨x, rfl⟩ : ∃ x : (List UInt8), u = .string ⟨x.toArray⟩ := by
        rw [List.getElem?_map] at hu
        obtain ⟨x, _, hxu⟩ := Option.map_eq_some_iff.1 hu
        exact ⟨x, hxu.symm⟩
      clear hu hu'
      go_wp2
      go_quiet (fail)
      go_wp2
      go_roundw
      case rel => exact ⟨k + 1, q + nq, by omega, by go_num, rfl⟩
      case measure => (simp [intOf]; try omega)
    · obtain rfl : k = l.length := by omega
      clear hlt
      go_wp2
      go_ret
      exact ⟨rfl, q, rfl⟩

set_option maxRecDepth 100000 in
set_option maxHeartbeats 400000 in
theorem sameDigs_true (D : List UInt8) (A A' : Option Addr) (n n' c c' B B' : Nat) (w : World) (hr : Rd w B 16 A n c (bcs D)) (hr' : Rd w B' 16 A' n' c' (bcs D)) :
    Calls Try.prog 36 #[.slice A n c, .slice A' n' c'] w (Quiet w true) := by
  have hl := hr.len
  obtain rfl : n = n' := by have := hr'.len; omega
  have hcap := hr.cap
  have hle := hr.le
  unfold maxLen at hcap
  have HLD := Lib.hid hl
  clear hl
  go_enter Try.func36, Try.ntmps36
  go_wp2
  go_loopw [5] (fun i wr => ∃ k q : Nat, k ≤ n ∧ i = .int .i64 k ∧ wr = w.drewN q) (fun i _ => n - (intOf i).toNat)
  case atStart => exact ⟨0, 0, Nat.zero_le _, rfl, rfl⟩
  case round =>
    obtain ⟨k, q, hk, rfl, rfl⟩ := hrel
    by_cases hlt : k < n
    · obtain ⟨b, off, rfl, hbB, hcell⟩ := hr.cells (by omega)
      obtain ⟨b', off', rfl, hbB', hcell'⟩ := hr'.cells (by omega)
      obtain ⟨E, hE⟩ : ∃ E, E = (D.drop (k * 16)).take 16 := ⟨_, rfl⟩
      have hDl : D.length = n * 16 := by have := HLD.out; rwa [bcs_length] at this
      have hE16 : E.length = 16 := by rw [hE, List.length_take, List.length_drop]; omega
      have hb16 : (bcs E).length = 16 := by rw [bcs_length, hE16]
      have hcs : ∀ j u, (bcs E)[j]? = some u → (bcs D)[k * 16 + j]? = some u := by
        intro j u hj
        rw [← hj, hE, bcs, bcs, List.getElem?_map, List.getElem?_map, List.getElem?_take, List.getElem?_drop]
        have hjl := (List.getElem?_eq_some_iff.1 hj).1
        rw [if_pos (by omega)]
      have h1 : ∀ j u, (bcs E)[j]? = some u → (w.drewN q).cell? ⟨b, off + k * 16 + j, none⟩ = some u := fun j u hj => by rw [Nat.add_assoc]; exact (hcell _ _ (hcs j u hj) : w.cell? _ = _)
      have h2 : ∀ j u, (bcs E)[j]? = some u → (w.drewN q).cell? ⟨b', off' + k * 16 + j, none⟩ = some u := fun j u hj => by rw [Nat.add_assoc]; exact (hcell' _ _ (hcs j u hj) : w.cell? _ = _)
      have H1 := Lib.hid h1
      have H2 := Lib.hid h2
      have HE := Lib.hid hE16
      have HB := Lib.hid hb16
      clear h1 h2 hE16 hcs hE hcell hcell' hb16 hDl
      go_wp2
      refine wp_region_quiet_lit (by kernel_rfl) (by kernel_rfl) ?_
      repeat (first | (with_reducible refine qLdAgg (.tmp 19) (bcs E) Try.ag_dig rfl rfl rfl HB.out H1.out ?_; simp only [Act.put, List.setIfInBounds_toArray, List.set_cons_zero, List.set_cons_succ]) | (with_reducible refine qLdAgg (.tmp 23) (bcs E) Try.ag_dig rfl rfl rfl HB.out H2.out ?_; simp only [Act.put, List.setIfInBounds_toArray, List.set_cons_zero, List.set_cons_succ]) | (with_reducible refine qNeqBytes (.tmp 20) (.tmp 24) E E (n := 16) (e := 5) (by kernel_rfl) Try.und_u8 (by kernel_rfl) (by kernel_rfl) rfl rfl rfl rfl HE.out HE.out ?_; simp only [Act.put, List.setIfInBounds_toArray, List.set_cons_zero, List.set_cons_succ, beq_self_eq_true, Bool.not_true]) | go_big_quiet_step (fail))
      refine wpQuiet_nil ?_
      intro _ hw'
      obtain ⟨nq, hw''⟩ := hw'
      subst hw''
      go_wp2
      go_roundw
      case rel => exact ⟨k + 1, q + nq, by omega, by go_num, rfl⟩
      case measure => (simp [intOf]; try omega)
    · obtain rfl : k = n := by omega
      clear hlt
      go_wp2
      go_ret
      exact ⟨rfl, q, rfl⟩

end Go.Proofs.Ytelphmfdpnmncaa
