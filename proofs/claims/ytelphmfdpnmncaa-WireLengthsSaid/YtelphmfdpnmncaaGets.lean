/-
  GetInts and GetStrings of both sides return what decI and decT give, the list in a new row.
-/
import Derived.Test.YtelphmfdpnmncaaGetBytes
namespace Go.Proofs.Ytelphmfdpnmncaa
open Go.RowKit

theorem Try.sl_int : SlTy Try.prog 22 3 (.int .i64 0) 1 8 := ⟨by kernel_rfl, by kernel_rfl, rfl, by decide⟩
theorem Try.sl_str : SlTy Try.prog 23 9 (.string ByteArray.empty) 1 16 := ⟨by kernel_rfl, by kernel_rfl, rfl, by decide⟩

/-- A list and two numbers are returned, the list in a new row. -/
def RetL (w : World) (e : TypeId) (size : Nat) (xs : List Value) (u err : Int) (en : Ending) (w' : World) : Prop :=
  ∃ v n, en = .returned (.tuple #[v, .int .i64 u, .int .i64 err]) ∧ w'.ownsRow w.heap.size e size v n xs ∧ Below w.heap.size w w'

section
variable {α : Type} {one : List UInt8 → α × Int × Int} {l : List UInt8}
theorem many_step {k at_ : Nat} {acc : List α} {x : α} {u : Int} {r : List α × Int × Int} (h : one (l.drop at_) = (x, u, 0)) (hd : many one l (k + 1) at_ acc = r) : many one l k (at_ + u.toNat) (acc ++ [x]) = r := by
  rw [many, h] at hd; simpa using hd
theorem many_err {k at_ : Nat} {acc : List α} {x : α} {u e : Int} {r : List α × Int × Int} (h : one (l.drop at_) = (x, u, e)) (he : e ≠ 0) (hd : many one l (k + 1) at_ acc = r) : r = ([], 0, e) := by
  rw [many, h] at hd; simp [he] at hd; exact hd.symm
theorem many_end {at_ : Nat} {acc : List α} {r : List α × Int × Int} (hd : many one l 0 at_ acc = r) : r = (acc, (at_ : Int), 0) := by
  rw [many] at hd; exact hd.symm
end
theorem decS_facts {l : List UInt8} {s : List UInt8} {u e : Int} (h : decS l = (s, u, e)) : (e = 0 ∧ 1 ≤ u ∧ u ≤ l.length) ∨ (s = [] ∧ u = 0 ∧ (e = 5 ∨ e = 6)) := by
  obtain ⟨a, b, c, hd⟩ : ∃ a b c, lenDec l 1 = (a, b, c) := ⟨_, _, _, rfl⟩
  have hf := lenDec_facts (by omega) hd
  unfold decS at h
  rw [hd] at h
  by_cases h1 : c = 0
  · subst h1
    simp at h
    exact Or.inl (by omega)
  · simp [h1] at h
    refine Or.inr ⟨h.1, by omega, by omega⟩
theorem dec_facts' {l : List UInt8} {n u e : Int} (h : dec l = (n, u, e)) : (e = 0 ∧ 1 ≤ u ∧ u ≤ l.length) ∨ (n = 0 ∧ u = 0 ∧ (e = 5 ∨ e = 6)) := by
  rcases dec_facts h with ⟨a, b, c, d, _⟩ | h
  · exact Or.inl ⟨a, b, d⟩
  · exact Or.inr h
theorem drop_bcs (l : List UInt8) (U : Nat) : ((bcs l).drop U).take (l.length - U) = bcs (l.drop U) := by
  rw [bcs, bcs, List.map_drop]
  exact List.take_of_length_le (by simp)

set_option maxRecDepth 100000 in
set_option maxHeartbeats 1000000 in
theorem getInt_list (l : List UInt8) (A : Option Addr) (n c B : Nat) (w : World) (hr : Rd w B 1 A n c (bcs l)) (hB : B ≤ w.heap.size) (hlen : l.length ≤ 1099511627776) :
    Calls Try.prog 43 #[.slice A n c, .int .i64 1, .func (.func 24) #[] #[]] w (RetL w 3 1 ((decI l).1.map iv) (decI l).2.1 (decI l).2.2) := by
  obtain rfl : l.length = n := by have := hr.len; simpa [bcs] using this
  have hcap := hr.cap
  have hle := hr.le
  unfold maxLen at hcap
  obtain ⟨a, b, e, hd⟩ : ∃ a b e, lenDec l 1 = (a, b, e) := ⟨_, _, _, rfl⟩
  have hf := lenDec_facts (by omega) hd
  have HL : Hid (decI l = if e ≠ 0 then ([], 0, e) else many dec l a.toNat b.toNat []) := by
    show _ = _
    unfold decI decList; rw [hd]
  have HD := Lib.hid hd
  clear hd
  rcases hf with ⟨rfl, f2, f3, f4, f5, f6, f7, f8⟩ | ⟨rfl, rfl, f3⟩
  · obtain ⟨N, rfl⟩ := Int.eq_ofNat_of_zero_le f5
    obtain ⟨U, rfl⟩ := Int.eq_ofNat_of_zero_le (show 0 ≤ b by omega)
    have HM : Hid (many dec l N U [] = decI l) := by
      show _ = _
      rw [HL.out, if_neg (by omega)]; rfl
    clear HL
    go_enter Try.func43, Try.ntmps43
    go_wp2_with (go_at_call 42; refine (length_any l _ _ _ _ 1 _ hr (by omega) (by omega)).mono ?_; rintro e w1 ⟨rfl, rfl⟩; rw [HD.out])
    go_loopw [10, 12, 27] (fun atv v iv_ wr => ∃ (k j : Nat) (acc : List Int), k ≤ N ∧ iv_ = .int .i64 k ∧ atv = .int .i64 j ∧ j ≤ l.length ∧ acc.length = k ∧ wr.ownsRow w.heap.size 3 1 v acc.length (acc.map iv) ∧ Hid (many dec l (N - k) j acc = decI l) ∧ Below w.heap.size w wr)
      (fun _ _ iv_ _ => N - (intOf iv_).toNat)
    case atStart => exact ⟨0, U, [], Nat.zero_le _, rfl, rfl, by omega, rfl, World.ownsRow_nil _ _ _ _, HM, Below.refl _ _⟩
    case round =>
      clear HM
      obtain ⟨k, j, acc, hk, rfl, rfl, hj, hacc, hown, hm, hb⟩ := hrel
      have HA := Lib.hid hacc
      clear hacc
      have hrw := hr.below (hb.mono hB)
      by_cases hlt : k < N
      · obtain ⟨x, u, e, ho⟩ : ∃ x u e, dec (l.drop j) = (x, u, e) := ⟨_, _, _, rfl⟩
        have hof := dec_facts' ho
        rw [List.length_drop] at hof
        have hm2 : many dec l (N - (k + 1) + 1) j acc = decI l := by rw [show N - (k + 1) + 1 = N - k from by omega]; exact hm.out
        have HO := Lib.hid ho
        rcases hof with ⟨rfl, g2, g3⟩ | ⟨g1, rfl, g3⟩
        · have hst := many_step ho hm2
          obtain ⟨V, rfl⟩ := Int.eq_ofNat_of_zero_le (show 0 ≤ u by omega)
          have HST := Lib.hid hst
          clear ho hm hm2 hst
          go_wp2_with (with_reducible refine slL (.tmp 31) (.tmp 32) j Try.sl_u8 (wn rfl) rfl rfl rfl hrw (by omega) (by omega) ?_)
          intro A' hcut
          rw [drop_bcs] at hcut
          go_wp2_with fail
          refine (getInt_any (l.drop j) _ _ _ _ _ hcut).mono ?_
          rintro e w1 ⟨rfl, rfl⟩
          rw [HO.out]
          clear hcut hrw
          go_wp2_with (at_builtin; with_reducible refine app1 _ _ Try.sl_int (wn rfl) rfl rfl rfl hown hb (Nat.le_refl _) rfl (by have := HA.out; omega) (by have := HA.out; omega) ?_)
          intro v' w' h3 h4 _
          clear hown hb
          go_wp2
          go_roundw
          case rel => exact ⟨k + 1, j + V, acc ++ [x], by omega, by go_num, by go_num, by omega, by have := HA.out; simp; omega, ownsRow_count h3 (by simp) (by simp [iv]), by have := HST.out; rwa [Int.toNat_natCast] at this, h4⟩
          case measure => (simp [intOf]; try omega)
        · have hst := many_err ho (by omega) hm2
          have HST := Lib.hid hst
          clear ho hm hm2 hst
          rcases g3 with rfl | rfl
          all_goals
            go_wp2_with (with_reducible refine slL (.tmp 31) (.tmp 32) j Try.sl_u8 (wn rfl) rfl rfl rfl hrw (by omega) (by omega) ?_)
            intro A' hcut
            rw [drop_bcs] at hcut
            go_wp2_with fail
            refine (getInt_any (l.drop j) _ _ _ _ _ hcut).mono ?_
            rintro e w1 ⟨rfl, rfl⟩
            rw [HO.out]
            clear hcut hrw
            go_wp2
            go_ret3
            exact ⟨.slice none 0 0, 0, by rw [HST.out]; rfl, by rw [HST.out]; exact World.ownsRow_nil _ _ _ _, hb⟩
      · obtain rfl : k = N := by omega
        have hm0 := hm.out
        rw [Nat.sub_self] at hm0
        have hst := many_end hm0
        have HST := Lib.hid hst
        clear hm hst hlt hm0
        go_wp2
        go_ret3
        exact ⟨u12, acc.length, by rw [HST.out]; rfl, by rw [HST.out]; exact hown, hb⟩
  · rcases f3 with rfl | rfl
    all_goals
      go_enter Try.func43, Try.ntmps43
      go_wp2_with (go_at_call 42; refine (length_any l _ _ _ _ 1 _ hr (by omega) (by omega)).mono ?_; rintro e w1 ⟨rfl, rfl⟩; rw [HD.out])
      go_ret3
      exact ⟨.slice none 0 0, 0, by rw [HL.out, if_pos (by omega)]; rfl, by rw [HL.out, if_pos (by omega)]; exact World.ownsRow_nil _ _ _ _, Below.refl _ _⟩

set_option maxRecDepth 100000 in
set_option maxHeartbeats 1000000 in
theorem getStr_list (l : List UInt8) (A : Option Addr) (n c B : Nat) (w : World) (hr : Rd w B 1 A n c (bcs l)) (hB : B ≤ w.heap.size) (hlen : l.length ≤ 1099511627776) :
    Calls Try.prog 45 #[.slice A n c, .int .i64 1, .func (.func 26) #[] #[]] w (RetL w 9 1 ((decT l).1.map sv) (decT l).2.1 (decT l).2.2) := by
  obtain rfl : l.length = n := by have := hr.len; simpa [bcs] using this
  have hcap := hr.cap
  have hle := hr.le
  unfold maxLen at hcap
  obtain ⟨a, b, e, hd⟩ : ∃ a b e, lenDec l 1 = (a, b, e) := ⟨_, _, _, rfl⟩
  have hf := lenDec_facts (by omega) hd
  have HL : Hid (decT l = if e ≠ 0 then ([], 0, e) else many decS l a.toNat b.toNat []) := by
    show _ = _
    unfold decT decList; rw [hd]
  have HD := Lib.hid hd
  clear hd
  rcases hf with ⟨rfl, f2, f3, f4, f5, f6, f7, f8⟩ | ⟨rfl, rfl, f3⟩
  · obtain ⟨N, rfl⟩ := Int.eq_ofNat_of_zero_le f5
    obtain ⟨U, rfl⟩ := Int.eq_ofNat_of_zero_le (show 0 ≤ b by omega)
    have HM : Hid (many decS l N U [] = decT l) := by
      show _ = _
      rw [HL.out, if_neg (by omega)]; rfl
    clear HL
    go_enter Try.func45, Try.ntmps45
    go_wp2_with (go_at_call 42; refine (length_any l _ _ _ _ 1 _ hr (by omega) (by omega)).mono ?_; rintro e w1 ⟨rfl, rfl⟩; rw [HD.out])
    go_loopw [10, 12, 27] (fun atv v iv_ wr => ∃ (k j : Nat) (acc : List (List UInt8)), k ≤ N ∧ iv_ = .int .i64 k ∧ atv = .int .i64 j ∧ j ≤ l.length ∧ acc.length = k ∧ wr.ownsRow w.heap.size 9 1 v acc.length (acc.map sv) ∧ Hid (many decS l (N - k) j acc = decT l) ∧ Below w.heap.size w wr)
      (fun _ _ iv_ _ => N - (intOf iv_).toNat)
    case atStart => exact ⟨0, U, [], Nat.zero_le _, rfl, rfl, by omega, rfl, World.ownsRow_nil _ _ _ _, HM, Below.refl _ _⟩
    case round =>
      clear HM
      obtain ⟨k, j, acc, hk, rfl, rfl, hj, hacc, hown, hm, hb⟩ := hrel
      have HA := Lib.hid hacc
      clear hacc
      have hrw := hr.below (hb.mono hB)
      by_cases hlt : k < N
      · obtain ⟨x, u, e, ho⟩ : ∃ x u e, decS (l.drop j) = (x, u, e) := ⟨_, _, _, rfl⟩
        have hof := decS_facts ho
        rw [List.length_drop] at hof
        have hm2 : many decS l (N - (k + 1) + 1) j acc = decT l := by rw [show N - (k + 1) + 1 = N - k from by omega]; exact hm.out
        have HO := Lib.hid ho
        rcases hof with ⟨rfl, g2, g3⟩ | ⟨g1, rfl, g3⟩
        · have hst := many_step ho hm2
          obtain ⟨V, rfl⟩ := Int.eq_ofNat_of_zero_le (show 0 ≤ u by omega)
          have HST := Lib.hid hst
          clear ho hm hm2 hst
          go_wp2_with (with_reducible refine slL (.tmp 31) (.tmp 32) j Try.sl_u8 (wn rfl) rfl rfl rfl hrw (by omega) (by omega) ?_)
          intro A' hcut
          rw [drop_bcs] at hcut
          go_wp2_with fail
          refine (getBytes_any (l.drop j) _ _ _ _ _ hcut).mono ?_
          rintro e w1 ⟨rfl, rfl⟩
          rw [HO.out]; unfold sv
          clear hcut hrw
          go_wp2_with (at_builtin; with_reducible refine app1 _ _ Try.sl_str (wn rfl) rfl rfl rfl hown hb (Nat.le_refl _) rfl (by have := HA.out; omega) (by have := HA.out; omega) ?_)
          intro v' w' h3 h4 _
          clear hown hb
          go_wp2
          go_roundw
          case rel => exact ⟨k + 1, j + V, acc ++ [x], by omega, by go_num, by go_num, by omega, by have := HA.out; simp; omega, ownsRow_count h3 (by simp) (by simp [sv]), by have := HST.out; rwa [Int.toNat_natCast] at this, h4⟩
          case measure => (simp [intOf]; try omega)
        · have hst := many_err ho (by omega) hm2
          have HST := Lib.hid hst
          clear ho hm hm2 hst
          rcases g3 with rfl | rfl
          all_goals
            go_wp2_with (with_reducible refine slL (.tmp 31) (.tmp 32) j Try.sl_u8 (wn rfl) rfl rfl rfl hrw (by omega) (by omega) ?_)
            intro A' hcut
            rw [drop_bcs] at hcut
            go_wp2_with fail
            refine (getBytes_any (l.drop j) _ _ _ _ _ hcut).mono ?_
            rintro e w1 ⟨rfl, rfl⟩
            rw [HO.out]; unfold sv
            clear hcut hrw
            go_wp2
            go_ret3
            exact ⟨.slice none 0 0, 0, by rw [HST.out]; rfl, by rw [HST.out]; exact World.ownsRow_nil _ _ _ _, hb⟩
      · obtain rfl : k = N := by omega
        have hm0 := hm.out
        rw [Nat.sub_self] at hm0
        have hst := many_end hm0
        have HST := Lib.hid hst
        clear hm hst hlt hm0
        go_wp2
        go_ret3
        exact ⟨u12, acc.length, by rw [HST.out]; rfl, by rw [HST.out]; exact hown, hb⟩
  · rcases f3 with rfl | rfl
    all_goals
      go_enter Try.func45, Try.ntmps45
      go_wp2_with (go_at_call 42; refine (length_any l _ _ _ _ 1 _ hr (by omega) (by omega)).mono ?_; rintro e w1 ⟨rfl, rfl⟩; rw [HD.out])
      go_ret3
      exact ⟨.slice none 0 0, 0, by rw [HL.out, if_pos (by omega)]; rfl, by rw [HL.out, if_pos (by omega)]; exact World.ownsRow_nil _ _ _ _, Below.refl _ _⟩

set_option maxRecDepth 100000 in
set_option maxHeartbeats 1000000 in
theorem refGetInts_any (l : List UInt8) (A : Option Addr) (n c B : Nat) (w : World) (hr : Rd w B 1 A n c (bcs l)) (hB : B ≤ w.heap.size) (hlen : l.length ≤ 1099511627776) :
    Calls Try.prog 29 #[.slice A n c] w (RetL w 3 1 ((decI l).1.map iv) (decI l).2.1 (decI l).2.2) := by
  obtain rfl : l.length = n := by have := hr.len; simpa [bcs] using this
  have hcap := hr.cap
  have hle := hr.le
  unfold maxLen at hcap
  obtain ⟨a, b, e, hd⟩ : ∃ a b e, lenDec l 1 = (a, b, e) := ⟨_, _, _, rfl⟩
  have hf := lenDec_facts (by omega) hd
  have HL : Hid (decI l = if e ≠ 0 then ([], 0, e) else many dec l a.toNat b.toNat []) := by
    show _ = _
    unfold decI decList; rw [hd]
  have HD := Lib.hid hd
  clear hd
  rcases hf with ⟨rfl, f2, f3, f4, f5, f6, f7, f8⟩ | ⟨rfl, rfl, f3⟩
  · obtain ⟨N, rfl⟩ := Int.eq_ofNat_of_zero_le f5
    obtain ⟨U, rfl⟩ := Int.eq_ofNat_of_zero_le (show 0 ≤ b by omega)
    have HM : Hid (many dec l N U [] = decI l) := by
      show _ = _
      rw [HL.out, if_neg (by omega)]; rfl
    clear HL
    go_enter Try.func29, Try.ntmps29
    go_wp2_with (go_at_call 44; refine (refLength_any l _ _ _ _ 1 _ hr (by omega) (by omega)).mono ?_; rintro e w1 ⟨rfl, rfl⟩; rw [HD.out])
    go_loopw [6, 8, 9] (fun atv v iv_ wr => ∃ (k j : Nat) (acc : List Int), k ≤ N ∧ iv_ = .int .i64 k ∧ atv = .int .i64 j ∧ j ≤ l.length ∧ acc.length = k ∧ wr.ownsRow w.heap.size 3 1 v acc.length (acc.map iv) ∧ Hid (many dec l (N - k) j acc = decI l) ∧ Below w.heap.size w wr)
      (fun _ _ iv_ _ => N - (intOf iv_).toNat)
    case atStart => exact ⟨0, U, [], Nat.zero_le _, rfl, rfl, by omega, rfl, World.ownsRow_nil _ _ _ _, HM, Below.refl _ _⟩
    case round =>
      clear HM
      obtain ⟨k, j, acc, hk, rfl, rfl, hj, hacc, hown, hm, hb⟩ := hrel
      have HA := Lib.hid hacc
      clear hacc
      have hrw := hr.below (hb.mono hB)
      by_cases hlt : k < N
      · obtain ⟨x, u, e, ho⟩ : ∃ x u e, dec (l.drop j) = (x, u, e) := ⟨_, _, _, rfl⟩
        have hof := dec_facts' ho
        rw [List.length_drop] at hof
        have hm2 : many dec l (N - (k + 1) + 1) j acc = decI l := by rw [show N - (k + 1) + 1 = N - k from by omega]; exact hm.out
        have HO := Lib.hid ho
        rcases hof with ⟨rfl, g2, g3⟩ | ⟨g1, rfl, g3⟩
        · have hst := many_step ho hm2
          obtain ⟨V, rfl⟩ := Int.eq_ofNat_of_zero_le (show 0 ≤ u by omega)
          have HST := Lib.hid hst
          clear ho hm hm2 hst
          go_wp2_with (with_reducible refine slL (.tmp 28) (.tmp 29) j Try.sl_u8 (wn rfl) rfl rfl rfl hrw (by omega) (by omega) ?_)
          intro A' hcut
          rw [drop_bcs] at hcut
          go_wp2_with fail
          refine (refGetInt_any (l.drop j) _ _ _ _ _ hcut).mono ?_
          rintro e w1 ⟨rfl, rfl⟩
          rw [HO.out]
          clear hcut hrw
          go_wp2_with (at_builtin; with_reducible refine app1 _ _ Try.sl_int (wn rfl) rfl rfl rfl hown hb (Nat.le_refl _) rfl (by have := HA.out; omega) (by have := HA.out; omega) ?_)
          intro v' w' h3 h4 _
          clear hown hb
          go_wp2
          go_roundw
          case rel => exact ⟨k + 1, j + V, acc ++ [x], by omega, by go_num, by go_num, by omega, by have := HA.out; simp; omega, ownsRow_count h3 (by simp) (by simp [iv]), by have := HST.out; rwa [Int.toNat_natCast] at this, h4⟩
          case measure => (simp [intOf]; try omega)
        · have hst := many_err ho (by omega) hm2
          have HST := Lib.hid hst
          clear ho hm hm2 hst
          rcases g3 with rfl | rfl
          all_goals
            go_wp2_with (with_reducible refine slL (.tmp 28) (.tmp 29) j Try.sl_u8 (wn rfl) rfl rfl rfl hrw (by omega) (by omega) ?_)
            intro A' hcut
            rw [drop_bcs] at hcut
            go_wp2_with fail
            refine (refGetInt_any (l.drop j) _ _ _ _ _ hcut).mono ?_
            rintro e w1 ⟨rfl, rfl⟩
            rw [HO.out]
            clear hcut hrw
            go_wp2
            go_ret3
            exact ⟨.slice none 0 0, 0, by rw [HST.out]; rfl, by rw [HST.out]; exact World.ownsRow_nil _ _ _ _, hb⟩
      · obtain rfl : k = N := by omega
        have hm0 := hm.out
        rw [Nat.sub_self] at hm0
        have hst := many_end hm0
        have HST := Lib.hid hst
        clear hm hst hlt hm0
        go_wp2
        go_ret3
        exact ⟨u8, acc.length, by rw [HST.out]; rfl, by rw [HST.out]; exact hown, hb⟩
  · rcases f3 with rfl | rfl
    all_goals
      go_enter Try.func29, Try.ntmps29
      go_wp2_with (go_at_call 44; refine (refLength_any l _ _ _ _ 1 _ hr (by omega) (by omega)).mono ?_; rintro e w1 ⟨rfl, rfl⟩; rw [HD.out])
      go_ret3
      exact ⟨.slice none 0 0, 0, by rw [HL.out, if_pos (by omega)]; rfl, by rw [HL.out, if_pos (by omega)]; exact World.ownsRow_nil _ _ _ _, Below.refl _ _⟩

set_option maxRecDepth 100000 in
set_option maxHeartbeats 1000000 in
theorem refGetStrs_any (l : List UInt8) (A : Option Addr) (n c B : Nat) (w : World) (hr : Rd w B 1 A n c (bcs l)) (hB : B ≤ w.heap.size) (hlen : l.length ≤ 1099511627776) :
    Calls Try.prog 32 #[.slice A n c] w (RetL w 9 1 ((decT l).1.map sv) (decT l).2.1 (decT l).2.2) := by
  obtain rfl : l.length = n := by have := hr.len; simpa [bcs] using this
  have hcap := hr.cap
  have hle := hr.le
  unfold maxLen at hcap
  obtain ⟨a, b, e, hd⟩ : ∃ a b e, lenDec l 1 = (a, b, e) := ⟨_, _, _, rfl⟩
  have hf := lenDec_facts (by omega) hd
  have HL : Hid (decT l = if e ≠ 0 then ([], 0, e) else many decS l a.toNat b.toNat []) := by
    show _ = _
    unfold decT decList; rw [hd]
  have HD := Lib.hid hd
  clear hd
  rcases hf with ⟨rfl, f2, f3, f4, f5, f6, f7, f8⟩ | ⟨rfl, rfl, f3⟩
  · obtain ⟨N, rfl⟩ := Int.eq_ofNat_of_zero_le f5
    obtain ⟨U, rfl⟩ := Int.eq_ofNat_of_zero_le (show 0 ≤ b by omega)
    have HM : Hid (many decS l N U [] = decT l) := by
      show _ = _
      rw [HL.out, if_neg (by omega)]; rfl
    clear HL
    go_enter Try.func32, Try.ntmps32
    go_wp2_with (go_at_call 44; refine (refLength_any l _ _ _ _ 1 _ hr (by omega) (by omega)).mono ?_; rintro e w1 ⟨rfl, rfl⟩; rw [HD.out])
    go_loopw [6, 8, 9] (fun atv v iv_ wr => ∃ (k j : Nat) (acc : List (List UInt8)), k ≤ N ∧ iv_ = .int .i64 k ∧ atv = .int .i64 j ∧ j ≤ l.length ∧ acc.length = k ∧ wr.ownsRow w.heap.size 9 1 v acc.length (acc.map sv) ∧ Hid (many decS l (N - k) j acc = decT l) ∧ Below w.heap.size w wr)
      (fun _ _ iv_ _ => N - (intOf iv_).toNat)
    case atStart => exact ⟨0, U, [], Nat.zero_le _, rfl, rfl, by omega, rfl, World.ownsRow_nil _ _ _ _, HM, Below.refl _ _⟩
    case round =>
      clear HM
      obtain ⟨k, j, acc, hk, rfl, rfl, hj, hacc, hown, hm, hb⟩ := hrel
      have HA := Lib.hid hacc
      clear hacc
      have hrw := hr.below (hb.mono hB)
      by_cases hlt : k < N
      · obtain ⟨x, u, e, ho⟩ : ∃ x u e, decS (l.drop j) = (x, u, e) := ⟨_, _, _, rfl⟩
        have hof := decS_facts ho
        rw [List.length_drop] at hof
        have hm2 : many decS l (N - (k + 1) + 1) j acc = decT l := by rw [show N - (k + 1) + 1 = N - k from by omega]; exact hm.out
        have HO := Lib.hid ho
        rcases hof with ⟨rfl, g2, g3⟩ | ⟨g1, rfl, g3⟩
        · have hst := many_step ho hm2
          obtain ⟨V, rfl⟩ := Int.eq_ofNat_of_zero_le (show 0 ≤ u by omega)
          have HST := Lib.hid hst
          clear ho hm hm2 hst
          go_wp2_with (with_reducible refine slL (.tmp 28) (.tmp 29) j Try.sl_u8 (wn rfl) rfl rfl rfl hrw (by omega) (by omega) ?_)
          intro A' hcut
          rw [drop_bcs] at hcut
          go_wp2_with fail
          refine (refGetBytes_any (l.drop j) _ _ _ _ _ hcut).mono ?_
          rintro e w1 ⟨rfl, rfl⟩
          rw [HO.out]; unfold sv
          clear hcut hrw
          go_wp2_with (at_builtin; with_reducible refine app1 _ _ Try.sl_str (wn rfl) rfl rfl rfl hown hb (Nat.le_refl _) rfl (by have := HA.out; omega) (by have := HA.out; omega) ?_)
          intro v' w' h3 h4 _
          clear hown hb
          go_wp2
          go_roundw
          case rel => exact ⟨k + 1, j + V, acc ++ [x], by omega, by go_num, by go_num, by omega, by have := HA.out; simp; omega, ownsRow_count h3 (by simp) (by simp [sv]), by have := HST.out; rwa [Int.toNat_natCast] at this, h4⟩
          case measure => (simp [intOf]; try omega)
        · have hst := many_err ho (by omega) hm2
          have HST := Lib.hid hst
          clear ho hm hm2 hst
          rcases g3 with rfl | rfl
          all_goals
            go_wp2_with (with_reducible refine slL (.tmp 28) (.tmp 29) j Try.sl_u8 (wn rfl) rfl rfl rfl hrw (by omega) (by omega) ?_)
            intro A' hcut
            rw [drop_bcs] at hcut
            go_wp2_with fail
            refine (refGetBytes_any (l.drop j) _ _ _ _ _ hcut).mono ?_
            rintro e w1 ⟨rfl, rfl⟩
            rw [HO.out]; unfold sv
            clear hcut hrw
            go_wp2
            go_ret3
            exact ⟨.slice none 0 0, 0, by rw [HST.out]; rfl, by rw [HST.out]; exact World.ownsRow_nil _ _ _ _, hb⟩
      · obtain rfl : k = N := by omega
        have hm0 := hm.out
        rw [Nat.sub_self] at hm0
        have hst := many_end hm0
        have HST := Lib.hid hst
        clear hm hst hlt hm0
        go_wp2
        go_ret3
        exact ⟨u8, acc.length, by rw [HST.out]; rfl, by rw [HST.out]; exact hown, hb⟩
  · rcases f3 with rfl | rfl
    all_goals
      go_enter Try.func32, Try.ntmps32
      go_wp2_with (go_at_call 44; refine (refLength_any l _ _ _ _ 1 _ hr (by omega) (by omega)).mono ?_; rintro e w1 ⟨rfl, rfl⟩; rw [HD.out])
      go_ret3
      exact ⟨.slice none 0 0, 0, by rw [HL.out, if_pos (by omega)]; rfl, by rw [HL.out, if_pos (by omega)]; exact World.ownsRow_nil _ _ _ _, Below.refl _ _⟩

set_option maxRecDepth 100000 in
set_option maxHeartbeats 400000 in
theorem getInts_any (l : List UInt8) (A : Option Addr) (n c B : Nat) (w : World) (hr : Rd w B 1 A n c (bcs l)) (hB : B ≤ w.heap.size) (hlen : l.length ≤ 1099511627776) :
    Calls Try.prog 28 #[.slice A n c] w (RetL w 3 1 ((decI l).1.map iv) (decI l).2.1 (decI l).2.2) := by
  have H := getInt_list l A n c B w hr hB hlen
  go_enter Try.func28, Try.ntmps28
  go_wp2_with fail
  refine H.mono ?_
  clear H
  rintro e w1 ⟨v, m, rfl, hown, hb⟩
  go_wp2_with fail
  go_ret3
  exact ⟨_, _, rfl, hown, hb⟩

set_option maxRecDepth 100000 in
set_option maxHeartbeats 400000 in
theorem getStrs_any (l : List UInt8) (A : Option Addr) (n c B : Nat) (w : World) (hr : Rd w B 1 A n c (bcs l)) (hB : B ≤ w.heap.size) (hlen : l.length ≤ 1099511627776) :
    Calls Try.prog 31 #[.slice A n c] w (RetL w 9 1 ((decT l).1.map sv) (decT l).2.1 (decT l).2.2) := by
  have H := getStr_list l A n c B w hr hB hlen
  go_enter Try.func31, Try.ntmps31
  go_wp2_with fail
  refine H.mono ?_
  clear H
  rintro e w1 ⟨v, m, rfl, hown, hb⟩
  go_wp2_with fail
  go_ret3
  exact ⟨_, _, rfl, hown, hb⟩

end Go.Proofs.Ytelphmfdpnmncaa
