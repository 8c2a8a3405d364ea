/-
  The reference's GetDigests returns what decD gives, the list in a new row.
-/
import Derived.Test.YtelphmfdpnmncaaGetDigs
namespace Go.Proofs.Ytelphmfdpnmncaa
open Go.RowKit

set_option maxRecDepth 100000 in
set_option maxHeartbeats 1000000 in
theorem refGetDigs_any (l : List UInt8) (A : Option Addr) (n c B : Nat) (w : World) (hr : Rd w B 1 A n c (bcs l)) (hB : B ≤ w.heap.size) (hlen : l.length ≤ 1099511627776) :
    Calls Try.prog 35 #[.slice A n c] w (RetL w 57 16 (bcs (decD l).1) (decD l).2.1 (decD l).2.2) := by
  obtain rfl : l.length = n := by have := hr.len; simpa [bcs] using this
  have hcap := hr.cap
  have hle := hr.le
  unfold maxLen at hcap
  obtain ⟨a, b, e, hd⟩ : ∃ a b e, lenDec l 16 = (a, b, e) := ⟨_, _, _, rfl⟩
  have hf := lenDec_facts (by omega) hd
  have HL : Hid (decD l = if e ≠ 0 then ([], 0, e) else ((l.drop b.toNat).take (a.toNat * 16), b + a * 16, 0)) := by
    show _ = _
    unfold decD; rw [hd]
  have HD := Lib.hid hd
  clear hd
  rcases hf with ⟨rfl, f2, f3, f4, f5, f6, f7, f8⟩ | ⟨rfl, rfl, f3⟩
  · obtain ⟨N, rfl⟩ := Int.eq_ofNat_of_zero_le f5
    obtain ⟨U, rfl⟩ := Int.eq_ofNat_of_zero_le (show 0 ≤ b by omega)
    go_enter Try.func35, Try.ntmps35
    go_wp2_with (go_at_call 44; refine (refLength_any l _ _ _ _ 16 _ hr (by omega) (by omega)).mono ?_; rintro e w1 ⟨rfl, rfl⟩; rw [HD.out])
    go_loopw [6, 8, 9] (fun atv v iv_ wr => ∃ k : Nat, k ≤ N ∧ iv_ = .int .i64 k ∧ atv = .int .i64 ((U : Int) + k * 16) ∧ wr.ownsRow w.heap.size 57 16 v k (bcs ((l.drop U).take (k * 16))) ∧ Below w.heap.size w wr)
      (fun _ _ iv_ _ => N - (intOf iv_).toNat)
    case atStart => exact ⟨0, Nat.zero_le _, rfl, by go_num, World.ownsRow_nil _ _ _ _, Below.refl _ _⟩
    case round =>
      obtain ⟨k, hk, rfl, rfl, hown, hb⟩ := hrel
      have hrw := hr.below (hb.mono hB)
      by_cases hlt : k < N
      · have HT := Lib.hid (dig_cut l U k)
        obtain ⟨wo, rfl⟩ : ∃ wo : World, wo = wr := ⟨_, rfl⟩
        go_wp2_with (with_reducible refine alAgg Try.ag_dig (wn rfl) rfl ?_)
        go_loopw [11] (fun iv_ w2 => ∃ (i : Nat) (cur : Array Value), i ≤ 16 ∧ iv_ = .int .i64 i ∧ w2 = wo.alloc (.cells cur 57) ∧ cur.size = 16 ∧ Hid (∀ m, m < i → cur[m]? = (bcs (l.drop (U + k * 16)))[m]?)) (fun iv_ _ => 16 - (intOf iv_).toNat)
        case atStart => exact ⟨0, digZero, by omega, rfl, rfl, Try.ag_dig.zs, (by intro m hm; omega)⟩
        case round =>
          obtain ⟨i, cur, hi, rfl, rfl, hcur, hpre⟩ := hrel
          by_cases hi16 : i < 16
          · obtain ⟨y, hy, hyc⟩ : ∃ y, l[U + k * 16 + i]? = some y ∧ ∃ b off, A = some ⟨b, off, none⟩ ∧ b < B ∧ (wo.alloc (.cells cur 57)).cell? ⟨b, off + (U + k * 16 + i), none⟩ = some (.int .u8 (y.toNat : Int)) := by
              obtain ⟨b, off, u, e, hbB, hu, hc⟩ := (hrw.alloc (by have := hb.size; omega) (.cells cur 57)).at1 (show U + k * 16 + i < l.length by omega)
              rw [bcs, List.getElem?_map] at hu
              obtain ⟨y, hy, hyu⟩ := Option.map_eq_some_iff.1 hu
              exact ⟨y, hy, b, off, e, hbB, by rw [hc, ← hyu]; rfl⟩
            obtain ⟨b, off, rfl, hbB, hyc⟩ := hyc
            have hblt : b < wo.heap.size := by have := hb.size; omega
            have HC2 := Lib.hid hcur
            have HY := Lib.hid hy
            obtain ⟨old, hci⟩ : ∃ old, (wo.alloc (.cells cur 57)).cell? ⟨wo.heap.size, i, none⟩ = some old :=
              ⟨cur[i]'(by omega), by rw [World.cell?_alloc_at _ _ _ _ rfl]; simp [hcur, hi16]⟩
            clear hcur hy
            go_wp2
            go_roundw
            case rel =>
              refine ⟨i + 1, cur.setIfInBounds i (.int .u8 (y.toNat : Int)), by omega, by go_num, rfl, by rw [Array.size_setIfInBounds]; exact HC2.out, ?_⟩
              intro m hm
              rw [Array.getElem?_setIfInBounds, bcs, List.getElem?_map, List.getElem?_drop]
              by_cases hmi : i = m
              · subst hmi
                rw [if_pos rfl, if_pos (by rw [HC2.out]; omega), HY.out]; rfl
              · rw [if_neg hmi, hpre.out m (by omega), bcs, List.getElem?_map, List.getElem?_drop]
            case measure => (simp [intOf]; try omega)
          · obtain rfl : i = 16 := by omega
            have hdl : 16 ≤ (l.drop (U + k * 16)).length := by rw [List.length_drop]; omega
            obtain ⟨D, hD⟩ : ∃ D, D = (l.drop (U + k * 16)).take 16 := ⟨_, rfl⟩
            have hd16 : (bcs D).length = 16 := by rw [bcs_length, hD, List.length_take]; omega
            have hcd : cur = (bcs D).toArray := by
              apply Array.ext_getElem?
              intro m
              by_cases hm : m < 16
              · rw [hpre.out m hm, hD, ← take_bcs]
                simp [List.getElem?_take, hm]
              · rw [Array.getElem?_eq_none (by omega), Array.getElem?_eq_none (by rw [List.size_toArray, hd16]; omega)]
            subst hcd
            have H16 := Lib.hid hd16
            have HDD := Lib.hid hD
            clear hd16 hD hdl hcur hpre hi16 hrw
            go_wp2_with (first | (with_reducible refine ldAgg (.tmp 10) (bcs D) Try.ag_dig (wn rfl) rfl rfl H16.out (by intro j u hu; rw [World.cell?_alloc_at _ _ _ _ rfl]; simpa using hu) ?_) | (with_reducible refine bsAgg1 (.tmp 39) Try.sl_dig (wn rfl) rfl rfl (by rw [List.size_toArray]; exact H16.out) (by decide) ?_) | (at_builtin; with_reducible refine appR _ _ Try.sl_dig (wn rfl) rfl rfl rfl ((hown.alloc _).alloc _) (rd_aggN _ (bcs D) _ 16 1 H16.out (by decide)) (bcs_one D) ((hb.alloc hb.size _).alloc (by have := hb.size; simp; omega) _) (Nat.le_refl _) (by omega) (by omega) ?_))
            intro v' w' h3 h4 _
            clear hown hb
            go_wp2
            go_roundw
            case rel =>
              refine ⟨k + 1, by omega, by go_num, by go_num, ownsRow_count h3 rfl ?_, h4⟩
              rw [HT.out, bcs_append, HDD.out]
            case measure => (simp [intOf]; try omega)
      · obtain rfl : k = N := by omega
        clear hlt hrw
        go_wp2
        go_ret3
        exact ⟨u8, k, by rw [HL.out, if_neg (by omega)]; rfl, by rw [HL.out, if_neg (by omega)]; exact hown, hb⟩
  · rcases f3 with rfl | rfl
    all_goals
      go_enter Try.func35, Try.ntmps35
      go_wp2_with (go_at_call 44; refine (refLength_any l _ _ _ _ 16 _ hr (by omega) (by omega)).mono ?_; rintro e w1 ⟨rfl, rfl⟩; rw [HD.out])
      go_ret3
      exact ⟨.slice none 0 0, 0, by rw [HL.out, if_pos (by omega)]; rfl, by rw [HL.out, if_pos (by omega)]; exact World.ownsRow_nil _ _ _ _, Below.refl _ _⟩

end Go.Proofs.Ytelphmfdpnmncaa
