/-
  wire.GetDigests returns what decD gives, the list in a new row.
-/
import Derived.Test.YtelphmfdpnmncaaGetDig
namespace Go.Proofs.Ytelphmfdpnmncaa
open Go.RowKit

theorem Try.sl_dig : SlTy Try.prog 24 57 (.agg digZero) 16 16 := ⟨by kernel_rfl, by kernel_rfl, by simp [digZero, Value.cells], by decide⟩
theorem rd_aggN (w : World) (cs : List Value) (t : TypeId) (size n : Nat) (hs : cs.length = n * size) (h : n ≤ maxLen) : Rd (w.alloc (.cells cs.toArray t)) (w.heap.size + 1) size (some ⟨w.heap.size, 0, none⟩) n n cs := by
  refine ⟨hs, Nat.le_refl _, h, fun _ => ⟨w.heap.size, 0, rfl, by omega, cells_new w cs t⟩⟩
theorem dig_cut (l : List UInt8) (U k : Nat) : (l.drop U).take ((k + 1) * 16) = (l.drop U).take (k * 16) ++ (l.drop (U + k * 16)).take 16 := by
  rw [show (k + 1) * 16 = k * 16 + 16 from by omega, List.take_add, List.drop_drop]

set_option maxRecDepth 100000 in
set_option maxHeartbeats 1000000 in
theorem getDig_list (l : List UInt8) (A : Option Addr) (n c B : Nat) (w : World) (hr : Rd w B 1 A n c (bcs l)) (hB : B ≤ w.heap.size) (hlen : l.length ≤ 1099511627776) :
    Calls Try.prog 46 #[.slice A n c, .int .i64 16, .func (.func 47) #[] #[]] w (RetL w 57 16 (bcs (decD l).1) (decD l).2.1 (decD l).2.2) := by
  obtain rfl : l.length = n := by have := hr.len; simpa [bcs] using this
  have hcap := hr.cap
  have hle := hr.le
  unfold maxLen at hcap
  obtain ⟨a, b, e, hd⟩ : ∃ a b e, lenDec l 16 = (a, b, e) := ⟨_, _, _, rfl⟩
  have hf := lenDec_facts (by omega) hd
  have HL : Hid (decD l = if e ≠ 0 then ([], 0, e) else ((l.drop b.toNat).take (a.toNat * 16), b + a * 16, 0)) := by
    show _ = _
    unfold decD; rw [hd]
  have HD := Lib.hid hd
  clear hd
  rcases hf with ⟨rfl, f2, f3, f4, f5, f6, f7, f8⟩ | ⟨rfl, rfl, f3⟩
  · obtain ⟨N, rfl⟩ := Int.eq_ofNat_of_zero_le f5
    obtain ⟨U, rfl⟩ := Int.eq_ofNat_of_zero_le (show 0 ≤ b by omega)
    go_enter Try.func46, Try.ntmps46
    go_wp2_with (go_at_call 42; refine (length_any l _ _ _ _ 16 _ hr (by omega) (by omega)).mono ?_; rintro e w1 ⟨rfl, rfl⟩; rw [HD.out])
    go_loopw [10, 12, 27] (fun atv v iv_ wr => ∃ k : Nat, k ≤ N ∧ iv_ = .int .i64 k ∧ atv = .int .i64 ((U : Int) + k * 16) ∧ wr.ownsRow w.heap.size 57 16 v k (bcs ((l.drop U).take (k * 16))) ∧ Below w.heap.size w wr)
      (fun _ _ iv_ _ => N - (intOf iv_).toNat)
    case atStart => exact ⟨0, Nat.zero_le _, rfl, by go_num, World.ownsRow_nil _ _ _ _, Below.refl _ _⟩
    case round =>
      obtain ⟨k, hk, rfl, rfl, hown, hb⟩ := hrel
      have hrw := hr.below (hb.mono hB)
      by_cases hlt : k < N
      · have HT := Lib.hid (dig_cut l U k)
        go_wp2_with (with_reducible refine slL (.tmp 31) (.tmp 32) (U + k * 16) Try.sl_u8 (wn rfl) rfl rfl rfl hrw (by omega) (by omega) ?_)
        intro A' hcut
        rw [drop_bcs] at hcut
        go_wp2_with fail
        refine (getDigest_any (l.drop (U + k * 16)) _ _ _ _ _ hcut (by have := hb.size; omega) (by omega)).mono ?_
        rintro e w1 ⟨rfl, hb1⟩
        have hd16 : (bcs ((l.drop (U + k * 16)).take 16)).length = 16 := by rw [bcs_length, List.length_take, List.length_drop]; omega
        obtain ⟨D, hD⟩ : ∃ D, D = (l.drop (U + k * 16)).take 16 := ⟨_, rfl⟩
        rw [← hD] at hd16 ⊢
        have hownw := ownsRow_below hown hb1 (Nat.le_refl _)
        have hbw := hb.trans (hb1.mono hb.size)
        have H16 := Lib.hid hd16
        have HDD := Lib.hid hD
        clear hcut hrw hown hb hb1 hd16 hD
        go_wp2_with (first | (with_reducible refine alAgg Try.ag_dig (wn rfl) rfl ?_) | (with_reducible refine stNew (.tmp 13) (.tmp 35) Try.ag_dig (wn rfl) rfl rfl rfl Try.ag_dig.zs (by rw [List.size_toArray]; exact H16.out) (by simpa using bcs_one D) ?_) | (with_reducible refine ldAgg (.tmp 13) (bcs D) Try.ag_dig (wn rfl) rfl rfl H16.out (by intro j u hu; rw [World.cell?_alloc_at _ _ _ _ rfl]; simpa using hu) ?_) | (with_reducible refine bsAgg1 (.tmp 42) Try.sl_dig (wn rfl) rfl rfl (by rw [List.size_toArray]; exact H16.out) (by decide) ?_) | (at_builtin; with_reducible refine appR _ _ Try.sl_dig (wn rfl) rfl rfl rfl ((hownw.alloc _).alloc _) (rd_aggN _ (bcs D) _ 16 1 H16.out (by decide)) (bcs_one D) ((hbw.alloc hbw.size _).alloc (by have := hbw.size; simp; omega) _) (Nat.le_refl _) (by omega) (by omega) ?_))
        intro v' w' h3 h4 _
        clear hownw hbw
        go_wp2
        go_roundw
        case rel =>
          refine ⟨k + 1, by omega, by go_num, by go_num, ownsRow_count h3 rfl ?_, h4⟩
          rw [HT.out, bcs_append, HDD.out]
        case measure => (simp [intOf]; try omega)
      · obtain rfl : k = N := by omega
        clear hlt hrw
        go_wp2
        go_ret3
        exact ⟨u12, k, by rw [HL.out, if_neg (by omega)]; rfl, by rw [HL.out, if_neg (by omega)]; exact hown, hb⟩
  · rcases f3 with rfl | rfl
    all_goals
      go_enter Try.func46, Try.ntmps46
      go_wp2_with (go_at_call 42; refine (length_any l _ _ _ _ 16 _ hr (by omega) (by omega)).mono ?_; rintro e w1 ⟨rfl, rfl⟩; rw [HD.out])
      go_ret3
      exact ⟨.slice none 0 0, 0, by rw [HL.out, if_pos (by omega)]; rfl, by rw [HL.out, if_pos (by omega)]; exact World.ownsRow_nil _ _ _ _, Below.refl _ _⟩

set_option maxRecDepth 100000 in
set_option maxHeartbeats 400000 in
theorem getDigs_any (l : List UInt8) (A : Option Addr) (n c B : Nat) (w : World) (hr : Rd w B 1 A n c (bcs l)) (hB : B ≤ w.heap.size) (hlen : l.length ≤ 1099511627776) :
    Calls Try.prog 34 #[.slice A n c] w (RetL w 57 16 (bcs (decD l).1) (decD l).2.1 (decD l).2.2) := by
  have H := getDig_list l A n c B w hr hB hlen
  go_enter Try.func34, Try.ntmps34
  go_wp2_with fail
  refine H.mono ?_
  clear H
  rintro e w1 ⟨v, m, rfl, hown, hb⟩
  go_wp2_with fail
  go_ret3
  exact ⟨_, _, rfl, hown, hb⟩
end Go.Proofs.Ytelphmfdpnmncaa
