/-
  HashOfMatchesSpec answers true, for any tag and parts.
-/
import Derived.Test.YthmhmjdppldmiaaDoorHSanity
import Derived.Test.YthmhmjdppldmiaaDoorRefOf2
import Derived.Test.YthmhmjdppldmiaaDoorReg2
namespace Go.Proofs.YthmhmjdppldmiaaDoor
open Go.RowKit

theorem i64_and255 (tag : Int) : bits .and .i64 tag 255 = tag % 256 := by
  have e2 : (BitVec.ofInt 64 255).toNat = 255 := by decide
  have hx : ∀ a : Nat, a &&& 255 = a % 256 := fun a => Nat.and_two_pow_sub_one_eq_mod a 8
  have e3 : (((2 : Nat) ^ 64 : Nat) : Int) = 18446744073709551616 := by decide
  show IntKind.i64.wrap ((BitVec.ofInt 64 tag &&& BitVec.ofInt 64 255).toNat : Int) = _
  rw [BitVec.toNat_and, e2, hx, BitVec.toNat_ofInt, e3, IntWalk.i64_in _ (by omega)]
  omega
theorem ofDig_mod (tag : Int) (l : List (List UInt8)) : ofDig (tag % 256) l = ofDig tag l := by
  unfold ofDig inputOf tagByte
  rw [Int.emod_emod_of_dvd tag (by decide)]
theorem partsOf_bound (l : List (List UInt8)) (h : ∀ x ∈ l, x.length ≤ 400) : (partsOf l).length ≤ 410 * l.length := by
  induction l with
  | nil => simp [partsOf]
  | cons a l ih =>
    have h1 := h a (by simp)
    have h2 := ih fun x hx => h x (List.mem_cons_of_mem _ hx)
    have h3 := enc_len a.length
    unfold partsOf at *
    rw [List.map_cons, List.flatten_cons, List.length_append, List.length_cons]
    unfold encS
    rw [List.length_append]
    unfold encS at h2
    omega
theorem few12_input {l : List (List UInt8)} (tag : Int) (h : few12 l = true) : (inputOf tag l).length ≤ 10000 ∧ l.length ≤ 12 := by
  obtain ⟨h1, h2⟩ := few12_parts h
  have h3 := partsOf_bound l h2
  unfold inputOf
  rw [List.length_cons]
  omega
set_option maxRecDepth 100000 in
set_option maxHeartbeats 1000000 in
theorem walk_HashOfMatchesSpec (tag : Int) (l : List (List UInt8)) (A : Option Addr) (n c : Nat) (w : World) (ht : Tabs w) (htr : TabsR w) (_htag : -9223372036854775808 ≤ tag ∧ tag ≤ 9223372036854775807) (hr : Rd w w.heap.size 1 A n c (l.map sv)) (hn : n ≤ 140737488351232) (_hg : ∀ y ∈ l, y.length ≤ 140737488351232) :
    Calls Tryd.prog 7 #[.int .i64 tag, .slice A n c] w (RetB w true) := by
  have hs := sanity_any w ht
  by_cases hf : few12 l = true
  · obtain ⟨hin, hl12⟩ := few12_input tag hf
    obtain ⟨hin2, _⟩ := few12_input (tag % 256) hf
    have HMOD := Lib.hid (ofDig_mod tag l)
    have HD := Lib.hid (show (bcs (ofDig tag l)).length = 16 by rw [bcs_length]; exact ofDig_len tag l)
    have hdl := ofDig_len tag l
    go_enter Tryd.func7, Tryd.ntmps7
    go_wp2_with fail
    refine hs.mono ?_
    rintro e w1 ⟨rfl, hb⟩
    have hfew := few_any l A n c _ w1 (hr.below hb) hb.size hn
    rw [hf] at hfew
    go_wp2_with fail
    refine hfew.mono ?_
    rintro e w2 ⟨rfl, hb2⟩
    replace hb := hb.trans (hb2.mono hb.size)
    clear hb2 hfew
    go_wp2_with fail
    refine (of_any tag l A n c _ w2 (ht.below hb ht.size) (hr.below hb) hb.size (by omega) (by omega)).mono ?_
    rintro e w3 ⟨rfl, hb3⟩
    replace hb := hb.trans (hb3.mono hb.size)
    clear hb3
    go_wp2_with (with_reducible refine alArr (z := zerosB 16) Tryd.ag_b16 (wn rfl) rfl ?_)
    intro w5 h6 hb5
    have hsz := hb.size
    replace hb := hb.trans (hb5.mono hb.size)
    clear hb5
    generalize w3.heap.size = g6 at *
    go_wp2_with (with_reducible refine stArr (cs := bcs (ofDig tag l)) (.tmp 6) (.tmp 14) Tryd.ag_b16 (wn rfl) rfl rfl rfl h6 (zerosB_len _) HD.out (bcs_one _) ?_)
    intro w4 h6 hkeep hbel
    replace hb := hb.trans (hbel _ hsz)
    clear hkeep hbel hsz
    have hrs : ∀ w' : World, Below w4.heap.size w4 w' → Rd w' w.heap.size 1 A n c (l.map sv) := fun w' h => hr.below (hb.trans (h.mono hb.size))
    go_wp2_with fail
    refine rgStart (fun w' => Below w4.heap.size w4 w') (by kernel_rfl) ?_
    have hq : Below w4.heap.size w4 w4.drew := (Below.refl _ _).drew
    refine rgTake (i := 0) (v := .bool true) rfl (by kernel_rfl) (wn rfl) (fun _ _ _ h => h) (fun w _ => by kernel_rfl) hq ?_
    refine rgTake (i := 1) (v := .bool true) rfl (by kernel_rfl) (wn rfl) (fun _ _ _ h => h) (fun w _ => by kernel_rfl) hq ?_
    refine rgLoad (i := 2) (b := g6) (off := 0) (.tmp 6) (bcs (ofDig tag l)) Tryd.ag_b16 rfl (by kernel_rfl) (by kernel_rfl) (fun _ _ _ h => h) rfl (by kernel_rfl) HD.out (fun w' h j u hu => by rw [Nat.zero_add]; exact (h6.below h h6.lt).cell hu) hq ?_
    refine rgTake (i := 3) (v := .int .i64 tag) rfl (by kernel_rfl) (by kernel_rfl) (fun _ _ _ h => h) (fun w _ => by kernel_rfl) hq ?_
    refine rgTake (i := 4) (v := .slice A n c) rfl (by kernel_rfl) (by kernel_rfl) (fun _ _ _ h => h) (fun w _ => by kernel_rfl) hq ?_
    refine rgNext (i := 5) (by kernel_rfl) rfl ?_
    simp only [Act.put, List.setIfInBounds_toArray, List.set_cons_succ, List.set_cons_zero]
    go_wp2_with fail
    refine (refOf_any tag l A n c _ _ (htr.below (hb.trans (hq.mono hb.size)) htr.size) (hrs _ hq) (Nat.le_trans hb.size hq.size) (by omega) (by omega)).mono ?_
    rintro e w6 ⟨rfl, hb6⟩
    replace hq := hq.trans (hb6.mono hq.size)
    clear hb6
    go_wp2_with fail
    refine ⟨hq, ?_⟩
    refine rgNext (S := fun w' => Below w4.heap.size w4 w') (i := 6) (by kernel_rfl) rfl ?_
    refine eqBytes (.tmp 17) (.tmp 20) (ofDig tag l) (ofDig tag l) true Tryd.arr_b16 Tryd.und_u8 Tryd.one_u8 (by kernel_rfl) (by kernel_rfl) rfl (by kernel_rfl) (by kernel_rfl) hdl hdl (by rw [beq_self_eq_true]) ?_
    refine rgBack hq ?_
    refine rgTake (S := fun w' => Below w4.heap.size w4 w')  (i := 7) (v := .bool true) rfl (by kernel_rfl) (wn rfl) (fun _ _ _ h => h) (fun w _ => by kernel_rfl) hq ?_
    refine rgTake (i := 8) (v := .bool true) rfl (by kernel_rfl) (wn rfl) (fun _ _ _ h => h) (fun w _ => by kernel_rfl) hq ?_
    refine rgLoad (S := fun w' => Below w4.heap.size w4 w') (i := 9) (b := g6) (off := 0) (.tmp 6) (bcs (ofDig tag l)) Tryd.ag_b16 rfl (by kernel_rfl) (by kernel_rfl) (fun _ _ _ h => h) rfl (by kernel_rfl) HD.out (fun w' h j u hu => by rw [Nat.zero_add]; exact (h6.below h h6.lt).cell hu) hq ?_
    refine rgTake (i := 10) (v := .int .i64 tag) rfl (by kernel_rfl) (by kernel_rfl) (fun _ _ _ h => h) (fun w _ => by kernel_rfl) hq ?_
    refine rgTake (i := 11) (v := .int .i64 (bits .and .i64 tag 255)) rfl (by kernel_rfl) (by kernel_rfl) (fun _ _ _ h => h) (fun w _ => by kernel_rfl) hq ?_
    rw [i64_and255]
    refine rgTake (i := 12) (v := .slice A n c) rfl (by kernel_rfl) (by kernel_rfl) (fun _ _ _ h => h) (fun w _ => by kernel_rfl) hq ?_
    refine rgNext (i := 13) (by kernel_rfl) rfl ?_
    simp only [Act.put, List.setIfInBounds_toArray, List.set_cons_succ, List.set_cons_zero]
    go_wp2_with fail
    have q2 := of_any (tag % 256) l A n c _ _ (ht.below (hb.trans (hq.mono hb.size)) ht.size) (hrs _ hq) (Nat.le_trans hb.size hq.size) (by omega) (by omega)
    rw [HMOD.out] at q2
    refine q2.mono ?_
    rintro e w7 ⟨rfl, hb7⟩
    replace hq := hq.trans (hb7.mono hq.size)
    clear hb7 q2
    go_wp2_with fail
    refine ⟨hq, ?_⟩
    refine rgNext (S := fun w' => Below w4.heap.size w4 w') (i := 14) (by kernel_rfl) rfl ?_
    refine eqBytes (.tmp 24) (.tmp 28) (ofDig tag l) (ofDig tag l) true Tryd.arr_b16 Tryd.und_u8 Tryd.one_u8 (by kernel_rfl) (by kernel_rfl) rfl (by kernel_rfl) (by kernel_rfl) hdl hdl (by rw [beq_self_eq_true]) ?_
    refine rgBack hq ?_
    refine rgTake (S := fun w' => Below w4.heap.size w4 w')  (i := 15) (v := .bool true) rfl (by kernel_rfl) (wn rfl) (fun _ _ _ h => h) (fun w _ => by kernel_rfl) hq ?_
    refine rgNext (i := 16) (by kernel_rfl) rfl ?_
    simp only [Act.put, List.setIfInBounds_toArray, List.set_cons_succ, List.set_cons_zero]
    go_wp2_with fail
    refine ⟨hq, ?_⟩
    refine rgDone (by kernel_rfl) ?_
    go_wp2_with fail
    go_ret
    exact ⟨rfl, hb.trans (hq.mono hb.size)⟩
  · go_enter Tryd.func7, Tryd.ntmps7
    go_wp2_with fail
    refine hs.mono ?_
    rintro e w1 ⟨rfl, hb⟩
    have hfew := few_any l A n c _ w1 (hr.below hb) hb.size hn
    rw [Bool.not_eq_true] at hf
    rw [hf] at hfew
    go_wp2_with fail
    refine hfew.mono ?_
    rintro e w2 ⟨rfl, hb2⟩
    replace hb := hb.trans (hb2.mono hb.size)
    clear hb2 hfew
    go_wp2_with fail
    go_ret
    exact ⟨rfl, hb⟩
end Go.Proofs.YthmhmjdppldmiaaDoor
