/-
  hash.Sum returns the hash of its argument.
-/
import Derived.Test.YthmhmjdppldmiaaDoorStrSum
namespace Go.Proofs.YthmhmjdppldmiaaDoor
open Go.RowKit

set_option maxRecDepth 100000 in
set_option maxHeartbeats 1000000 in
theorem sum_any (l : List UInt8) (A : Option Addr) (n c B : Nat) (w : World) (ht : Tabs w) (hr : Rd w B 1 A n c (bcs l)) (hB : B ≤ w.heap.size) (hn : n ≤ 1000000000000) :
    Calls Tryd.prog 11 #[.slice A n c] w fun e w' => e = .returned (.agg (bcs (sha l)).toArray) ∧ Below w.heap.size w w' := by
  have hl : l.length = n := by have := hr.len; simpa [bcs] using this
  have hl32 : (bcs (sha l)).length = 32 := by rw [bcs_length]; exact outOf_len _
  have HL := Lib.hid hl
  have HL32 := Lib.hid hl32
  clear hl hl32
  go_enter Tryd.func11, Tryd.ntmps11
  go_wp2_with (first | (with_reducible refine alArr (z := zerosB 32) Tryd.ag_b32 (wn rfl) rfl ?_))
  intro w1 h2 hb
  have hs1 : ∀ w', Below w.heap.size w w' → Rd w' B 1 A n c (bcs l) := fun w' h => hr.below (h.mono hB)
  go_wp2_with fail
  refine rgStart (fun w' => Below w.heap.size w w') (by kernel_rfl) ?_
  refine rgTake (i := 1) (v := .slice A n c) rfl (by kernel_rfl) (wn rfl) (fun _ _ _ h => h) (fun w _ => by kernel_rfl) hb.drew ?_
  refine rgConvStr (i := 2) (.tmp 4) l Tryd.sl_u8.und Tryd.und_u8 Tryd.und_str rfl (by kernel_rfl) (wn rfl) (fun _ _ _ h => h) rfl (by kernel_rfl) hs1 hb.drew ?_
  refine rgNext (i := 0) (by kernel_rfl) rfl ?_
  replace hb := hb.drew
  replace h2 := h2.drew
  go_wp2_with fail
  refine (begin_any _).mono ?_
  rintro e w2 ⟨v1, rfl, hv1, hb2⟩
  replace h2 := h2.below hb2 h2.lt
  replace hb := hb.trans (hb2.mono hb.size)
  clear hb2
  go_wp2_with fail
  refine ⟨hb, ?_⟩
  refine rgNext (S := fun w' => Below w.heap.size w w') (i := 3) (by kernel_rfl) rfl ?_
  go_wp2_with fail
  have hadd := add_any [] l v1 w2 (ht.below hb ht.size) hv1 (by rw [HL.out]; simp; omega)
  unfold sv at hadd
  rw [List.nil_append] at hadd
  refine hadd.mono ?_
  rintro e w3 ⟨v2, rfl, hv2, hb3⟩
  replace h2 := h2.below hb3 h2.lt
  replace hb := hb.trans (hb3.mono hb.size)
  clear hb3 hadd
  go_wp2_with fail
  refine ⟨hb, ?_⟩
  refine rgNext (S := fun w' => Below w.heap.size w w') (i := 4) (by kernel_rfl) rfl ?_
  go_wp2_with fail
  refine (strSum_any l v2 w3 (ht.below hb ht.size) hv2 (by rw [HL.out]; exact hn)).mono ?_
  rintro e w4 ⟨rfl, hb4⟩
  replace h2 := h2.below hb4 h2.lt
  replace hb := hb.trans (hb4.mono hb.size)
  clear hb4
  go_wp2_with fail
  refine ⟨hb, ?_⟩
  refine rgNext (S := fun w' => Below w.heap.size w w') (i := 5) (by kernel_rfl) rfl ?_
  refine stArr (cs := bcs (sha l)) (b := w.heap.size) (.tmp 2) (.tmp 7) Tryd.ag_b32 (wn rfl) rfl (by kernel_rfl) (by kernel_rfl) h2 (zerosB_len _) HL32.out (bcs_one _) ?_
  intro w5 h2 hkeep hbel
  replace hb := hb.trans (hbel _ (Nat.le_refl _))
  refine rgBack hb ?_
  refine rgDone (by kernel_rfl) ?_
  go_wp2_with fail
  refine bodyPost_ret (v := .agg (bcs (sha l)).toArray) ?_ rfl ⟨rfl, hb⟩
  exact res_cell1 (bcs (sha l)) Tryd.results11 Tryd.ag_b32 _ rfl HL32.out (fun j u hu => by rw [Nat.zero_add]; exact h2.cell hu)
end Go.Proofs.YthmhmjdppldmiaaDoor
