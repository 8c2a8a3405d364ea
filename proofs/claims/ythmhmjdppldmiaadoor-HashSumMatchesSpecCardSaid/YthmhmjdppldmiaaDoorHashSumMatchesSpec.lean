/-
  HashSumMatchesSpec answers true, for any bytes.
-/
import Derived.Test.YthmhmjdppldmiaaDoorHSanity
import Derived.Test.YthmhmjdppldmiaaDoorReg2
namespace Go.Proofs.YthmhmjdppldmiaaDoor
open Go.RowKit

set_option maxRecDepth 100000 in
set_option maxHeartbeats 1000000 in
theorem walk_HashSumMatchesSpec (l : List UInt8) (A : Option Addr) (n c : Nat) (w : World) (ht : Tabs w) (htr : TabsR w) (hr : Rd w w.heap.size 1 A n c (bcs l)) (_hn : n ≤ 140737488351232) :
    Calls Tryd.prog 3 #[.slice A n c] w (RetB w true) := by
  have hs := sanity_any w ht
  have hl : l.length = n := by have := hr.len; simpa [bcs] using this
  have HL := Lib.hid hl
  clear hl
  by_cases hle : n ≤ 1000
  · have hsl := sha_len l
    have HS := Lib.hid (bcs32 l)
    go_enter Tryd.func3, Tryd.ntmps3
    go_wp2_with fail
    refine hs.mono ?_
    rintro e w1 ⟨rfl, hb⟩
    have hr1 := hr.below hb
    go_wp2_with (with_reducible refine convStr (.tmp 11) l Tryd.sl_u8.und Tryd.und_u8 Tryd.und_str (wn rfl) rfl rfl hr1 ?_)
    have hsz := hb.size
    go_wp2_with fail
    refine (sum_any l A n c _ w1 (ht.below hb ht.size) hr1 hsz (by omega)).mono ?_
    rintro e w2 ⟨rfl, hb2⟩
    replace hb := hb.trans (hb2.mono hb.size)
    clear hb2 hr1
    go_wp2_with (with_reducible refine alArr (z := zerosB 32) Tryd.ag_b32 (wn rfl) rfl ?_)
    intro w3 h5 hb3
    have hsz2 := hb.size
    replace hb := hb.trans (hb3.mono hb.size)
    clear hb3
    generalize w2.heap.size = g5 at *
    go_wp2_with (with_reducible refine stArr (cs := bcs (sha l)) (.tmp 5) (.tmp 14) Tryd.ag_b32 (wn rfl) rfl rfl rfl h5 (zerosB_len _) HS.out (bcs_one _) ?_)
    intro w4 h5 hkeep hbel
    replace hb := hb.trans (hbel _ hsz2)
    clear hkeep hbel hsz
    have hrs : ∀ w' : World, Below w4.heap.size w4 w' → Rd w' w.heap.size 1 A n c (bcs l) := fun w' h => hr.below (hb.trans (h.mono hb.size))
    go_wp2_with fail
    refine rgStart (fun w' => Below w4.heap.size w4 w') (by kernel_rfl) ?_
    have hq : Below w4.heap.size w4 w4.drew := (Below.refl _ _).drew
    refine rgTake (i := 0) (v := .bool true) rfl (by kernel_rfl) (wn rfl) (fun _ _ _ h => h) (fun w _ => by kernel_rfl) hq ?_
    refine rgTake (i := 1) (v := .bool true) rfl (by kernel_rfl) (wn rfl) (fun _ _ _ h => h) (fun w _ => by kernel_rfl) hq ?_
    refine rgLoad (i := 2) (b := g5) (off := 0) (.tmp 5) (bcs (sha l)) Tryd.ag_b32 rfl (by kernel_rfl) (by with_unfolding_all rfl) (fun _ _ _ h => h) rfl (by kernel_rfl) HS.out (fun w' h j u hu => by rw [Nat.zero_add]; exact (h5.below h h5.lt).cell hu) hq ?_
    refine rgTake (i := 3) (v := .string ⟨l.toArray⟩) rfl (by kernel_rfl) (by with_unfolding_all rfl) (fun _ _ _ h => h) (fun w _ => by kernel_rfl) hq ?_
    refine rgNext (i := 4) (by kernel_rfl) rfl ?_
    refine convBs (.tmp 18) l Tryd.und_str Tryd.sl_u8.und Tryd.und_u8 (by with_unfolding_all rfl) rfl (by kernel_rfl) (by rw [HL.out]; omega) ?_
    intro A5 c5 w5 hrd hb5
    replace hq := hq.trans (hb5.mono hq.size)
    clear hb5
    refine rgBack hq ?_
    refine rgNext (S := fun w' => Below w4.heap.size w4 w') (i := 5) (by kernel_rfl) rfl ?_
    simp only [Act.put, List.setIfInBounds_toArray, List.set_cons_succ, List.set_cons_zero]
    go_wp2_with fail
    refine (refSum_any l A5 _ c5 _ w5 (htr.below (hb.trans (hq.mono hb.size)) htr.size) hrd (Nat.le_refl _) (by rw [HL.out]; omega)).mono ?_
    rintro e w6 ⟨rfl, hb6⟩
    replace hq := hq.trans (hb6.mono hq.size)
    clear hb6 hrd
    go_wp2_with fail
    refine ⟨hq, ?_⟩
    refine rgNext (S := fun w' => Below w4.heap.size w4 w') (i := 6) (by kernel_rfl) rfl ?_
    refine eqBytes (.tmp 17) (.tmp 20) (sha l) (sha l) true Tryd.arr_b32 Tryd.und_u8 Tryd.one_u8 (by kernel_rfl) (by with_unfolding_all rfl) rfl (by kernel_rfl) (by kernel_rfl) (sha_len _) (sha_len _) (by rw [beq_self_eq_true]) ?_
    refine rgBack hq ?_
    refine rgTake (S := fun w' => Below w4.heap.size w4 w') (i := 7) (v := .bool true) rfl (by kernel_rfl) (wn rfl) (fun _ _ _ h => h) (fun w _ => by kernel_rfl) hq ?_
    refine rgTake (i := 8) (v := .bool true) rfl (by kernel_rfl) (wn rfl) (fun _ _ _ h => h) (fun w _ => by kernel_rfl) hq ?_
    refine rgTake (i := 9) (v := .slice A n c) rfl (by kernel_rfl) (by with_unfolding_all rfl) (fun _ _ _ h => h) (fun w _ => by kernel_rfl) hq ?_
    refine rgConvStr (i := 10) (.tmp 24) l Tryd.sl_u8.und Tryd.und_u8 Tryd.und_str rfl (by kernel_rfl) (by with_unfolding_all rfl) (fun _ _ _ h => h) rfl (by kernel_rfl) hrs hq ?_
    refine rgTake (i := 11) (v := .string ⟨l.toArray⟩) rfl (by kernel_rfl) (by with_unfolding_all rfl) (fun _ _ _ h => h) (fun w _ => by kernel_rfl) hq ?_
    refine rgEqStr (i := 12) (.tmp 25) (.tmp 26) l l true (by rw [beq_self_eq_true]) rfl (by kernel_rfl) (by with_unfolding_all rfl) (fun _ _ _ h => h) rfl (by kernel_rfl) (by kernel_rfl) hq ?_
    refine rgTake (i := 13) (v := .bool true) rfl (by kernel_rfl) (wn rfl) (fun _ _ _ h => h) (fun w _ => by kernel_rfl) hq ?_
    refine rgNext (i := 14) (by kernel_rfl) rfl ?_
    simp only [Act.put, List.setIfInBounds_toArray, List.set_cons_succ, List.set_cons_zero]
    go_wp2_with fail
    refine ⟨hq, ?_⟩
    refine rgDone (by kernel_rfl) ?_
    go_wp2_with fail
    go_ret
    exact ⟨rfl, hb.trans (hq.mono hb.size)⟩
  · go_enter Tryd.func3, Tryd.ntmps3
    go_wp2_with fail
    refine hs.mono ?_
    rintro e w1 ⟨rfl, hb⟩
    go_wp2_with fail
    go_ret
    exact ⟨rfl, hb⟩
end Go.Proofs.YthmhmjdppldmiaaDoor
