/-
  Input, Short, Of and Few of the specification.
-/
import Derived.Test.YthmhmjdppldmiaaDoorOf
namespace Go.Proofs.YthmhmjdppldmiaaDoor
open Go.RowKit

set_option maxRecDepth 100000 in
set_option maxHeartbeats 1000000 in
theorem input_any (tag : Int) (l : List (List UInt8)) (A : Option Addr) (n c B : Nat) (w : World) (hr : Rd w B 1 A n c (l.map sv)) (hB : B ≤ w.heap.size) (hlen : (inputOf tag l).length ≤ 1000000000) (hlp : l.length ≤ 1000000000) :
    Calls Tryd.prog 23 #[.int .i64 tag, .slice A n c] w (RetRow w 5 1 (inputOf tag l).length (bcs (inputOf tag l))) := by
  obtain rfl : l.length = n := by have := hr.len; simpa using this
  have htb := tagByte_int tag
  have hin : inputOf tag l = [tagByte tag] ++ partsOf l := rfl
  have HIN := Lib.hid hin
  have HTB : Hid (bcs [tagByte tag] = [.int .u8 (tag % 256)]) := by show _ = _; rw [← htb]; rfl
  have HLEN := Lib.hid hlen
  clear htb hin hlen
  generalize tagByte tag = tb at *
  generalize inputOf tag l = inp at *
  have hown0 := World.ownsRow_lit (base := w.heap.size) (e := 5) (size := 1) w #[.int .u8 (tag % 256)] 1 (Nat.le_refl _) (by unfold maxLen; omega) rfl
  have hb0 : Below w.heap.size w (w.alloc (.cells #[.int .u8 (tag % 256)] 5)) := (Below.refl _ _).alloc (Nat.le_refl _) _
  replace hown0 := ownsRow_count (xs' := bcs ([tb] ++ partsOf (l.take 0))) (n' := ([tb] ++ partsOf (l.take 0)).length) hown0 rfl (by rw [show [tb] ++ partsOf (l.take 0) = [tb] from rfl, HTB.out])
  go_enter Tryd.func23, Tryd.ntmps23
  go_wp2_with fail
  go_loopw [5, 6] (fun v iv_ wr => ∃ i : Nat, i ≤ l.length ∧ iv_ = .int .i64 i ∧ wr.ownsRow w.heap.size 5 1 v ([tb] ++ partsOf (l.take i)).length (bcs ([tb] ++ partsOf (l.take i))) ∧ Below w.heap.size w wr) (fun _ iv_ _ => l.length - (intOf iv_).toNat)
  case atStart => exact ⟨0, by omega, rfl, hown0, hb0⟩
  case round =>
    clear hown0 hb0
    obtain ⟨i, hi, rfl, hown, hb⟩ := hrel
    by_cases hlt : i < l.length
    · obtain ⟨b, off, u, rfl, hbB, hu, hcell⟩ := (hr.below (hb.mono hB)).at1 hlt
      obtain ⟨p, hp, rfl⟩ : ∃ p : List UInt8, l[i]? = some p ∧ u = .string ⟨p.toArray⟩ := by
        rw [List.getElem?_map] at hu
        obtain ⟨x, hx, hxu⟩ := Option.map_eq_some_iff.1 hu
        exact ⟨x, hx, hxu.symm⟩
      have hnx := partsOf_next hp
      have hpl2 : ([tb] ++ partsOf (l.take i)).length + (encS p).length ≤ 1000000000 := by
        have h1 := partsOf_le l (i + 1)
        rw [hnx, List.length_append] at h1
        have h2 := HLEN.out
        rw [HIN.out, List.length_append] at h2
        rw [List.length_append]
        omega
      have hpp : p.length ≤ 1000000000 := by
        have : p.length ≤ (encS p).length := by unfold encS; rw [List.length_append]; omega
        omega
      have HNX : Hid (([tb] ++ partsOf (l.take i)) ++ encS p = [tb] ++ partsOf (l.take (i + 1))) := by show _ = _; rw [hnx, List.append_assoc]
      clear hnx hp hu
      generalize hmi : [tb] ++ partsOf (l.take i) = m at *
      clear hmi
      have q1 := refBytes_any p wr (by omega)
      unfold sv at q1
      go_wp2_with fail
      refine q1.mono ?_
      rintro e w2 hret
      obtain ⟨A5, c5, rfl, _, hrd, hb2⟩ := hret.open
      have hown2 := ownsRow_below hown hb2 (Nat.le_refl _)
      replace hb := hb.trans (hb2.mono hb.size)
      clear hown hb2 hret q1 hcell
      go_wp2_with (at_builtin; with_reducible refine appR _ _ Tryd.sl_u8 (wn rfl) rfl rfl rfl hown2 hrd (bcs_one _) hb (Nat.le_refl _) (by omega) (by omega) ?_)
      intro v3 w3 hown3 hb3 _
      clear hown2 hb hrd
      replace hown3 := ownsRow_count (xs' := bcs ([tb] ++ partsOf (l.take (i + 1)))) (n' := ([tb] ++ partsOf (l.take (i + 1))).length) hown3 (by rw [← HNX.out, List.length_append]) (by rw [← HNX.out, bcs_append])
      go_wp2_with fail
      go_roundw
      case rel => exact ⟨i + 1, by omega, by go_num, hown3, hb3⟩
      case measure => (simp [intOf]; try omega)
    · obtain rfl : i = l.length := by omega
      rw [List.take_of_length_le (Nat.le_refl _), ← HIN.out] at hown
      go_wp2_with fail
      go_ret
      exact ⟨_, rfl, hown, hb⟩
theorem set_pad {d : List UInt8} {n i : Nat} {b : UInt8} (hb : d[i]? = some b) (hn : i < n) : (bcs (d.take i ++ List.replicate (n - i) 0)).set i (bc b) = bcs (d.take (i + 1) ++ List.replicate (n - (i + 1)) 0) := by
  have hi := (List.getElem?_eq_some_iff.1 hb).1
  have e5 : ∀ (p q : List Value) (x y : Value), (p ++ x :: q).set p.length y = p ++ y :: q := by
    intro p q x y
    induction p with
    | nil => rfl
    | cons a p ih => simp
  have hl : (bcs (d.take i)).length = i := by rw [bcs_length, List.length_take]; omega
  have h3 := e5 (bcs (d.take i)) (bcs (List.replicate (n - (i + 1)) 0)) (bc 0) (bc b)
  rw [hl] at h3
  rw [show n - i = (n - (i + 1)) + 1 from by omega, List.replicate_succ, ← take_next hb, bcs_append, bcs_append, bcs_append, List.append_assoc]
  exact h3
theorem pad_at (d : List UInt8) (i n : Nat) (h1 : i ≤ d.length) (h2 : i < n) : (bcs (d.take i ++ List.replicate (n - i) 0))[i]? = some (.int .u8 0) := by
  have hl : (d.take i).length = i := by rw [List.length_take]; omega
  have h : (d.take i ++ List.replicate (n - i) 0)[i]? = some (0 : UInt8) := by
    rw [List.getElem?_append_right (by omega), hl, List.getElem?_replicate, if_pos (by omega)]
  unfold bcs
  rw [List.getElem?_map, h]
  rfl
theorem zeros_pad (d : List UInt8) : zerosB 16 = bcs (d.take 0 ++ List.replicate (16 - 0) 0) := rfl
set_option maxRecDepth 100000 in
set_option maxHeartbeats 1000000 in
theorem short_any (l : List UInt8) (A : Option Addr) (n c B : Nat) (w : World) (ht : TabsR w) (hr : Rd w B 1 A n c (bcs l)) (hB : B ≤ w.heap.size) (hn : n ≤ 1000000000) :
    Calls Tryd.prog 34 #[.slice A n c] w fun e w' => e = .returned (.agg (bcs ((sha l).take 16)).toArray) ∧ Below w.heap.size w w' := by
  have HS := Lib.hid (show (bcs (sha l)).length = 32 by rw [bcs_length]; exact sha_len l)
  have HD := Lib.hid (show (bcs ((sha l).take 16)).length = 16 by rw [bcs_length, List.length_take, sha_len]; rfl)
  go_enter Tryd.func34, Tryd.ntmps34
  go_wp2_with (with_reducible refine alArr (z := zerosB 16) Tryd.ag_b16 (wn rfl) rfl ?_)
  intro w1 h2 hb
  replace hr := hr.below (hb.mono hB)
  have hB1 := Nat.le_trans hB hb.size
  go_wp2_with fail
  refine (refSum_any l A n c B w1 (ht.below hb ht.size) hr hB1 (by omega)).mono ?_
  rintro e w2 ⟨rfl, hb2⟩
  replace h2 := h2.below hb2 h2.lt
  replace hb := hb.trans (hb2.mono hb.size)
  clear hb2 hr
  go_wp2_with (with_reducible refine alArr (z := zerosB 32) Tryd.ag_b32 (wn rfl) rfl ?_)
  intro w3 h3 hb3
  have n23 := h2.lt
  have n2 : w.heap.size ≤ w2.heap.size := hb.size
  replace h2 := h2.below hb3 h2.lt
  replace hb := hb.trans (hb3.mono hb.size)
  clear hb3
  generalize w2.heap.size = g3 at *
  go_wp2_with (with_reducible refine stArr (cs := bcs (sha l)) (.tmp 3) (.tmp 7) Tryd.ag_b32 (wn rfl) rfl rfl rfl h3 (zerosB_len _) HS.out (bcs_one _) ?_)
  intro w4 h3 hkeep hbel
  replace h2 := hkeep _ _ _ (by omega) h2
  replace hb := hb.trans (hbel _ (by omega))
  clear hkeep hbel
  have h4 : Arr (w4.alloc (.cells (zerosB 16).toArray 44)) w4.heap.size 44 (zerosB 16) := Arr.new w4 _ _
  have hb5 : Below w4.heap.size w4 (w4.alloc (.cells (zerosB 16).toArray 44)) := (Below.refl _ _).alloc (Nat.le_refl _) _
  have n34 := h3.lt
  replace h2 := h2.below hb5 h2.lt
  replace h3 := h3.below hb5 h3.lt
  have n4 : w.heap.size ≤ w4.heap.size := hb.size
  replace hb := hb.trans (hb5.mono hb.size)
  rw [zeros_pad (sha l)] at h4
  clear hb5
  go_wp2_with fail
  generalize w4.heap.size = g4 at *
  go_loopw [5] (fun iv_ wr => ∃ i : Nat, i ≤ 16 ∧ iv_ = .int .i64 i ∧ Arr wr w.heap.size 44 (zerosB 16) ∧ Arr wr g3 24 (bcs (sha l)) ∧ Arr wr g4 44 (bcs ((sha l).take i ++ List.replicate (16 - i) 0)) ∧ Below w.heap.size w wr) (fun iv_ _ => 16 - (intOf iv_).toNat)
  case atStart => exact ⟨0, by omega, rfl, h2, h3, h4, hb⟩
  case round =>
    clear h2 h3 h4 hb
    obtain ⟨i, hi, rfl, h2, h3, h4, hb⟩ := hrel
    by_cases hlt : i < 16
    · obtain ⟨b, hb1, hb2⟩ := bcs_at (l := sha l) (i := i) (by rw [sha_len]; omega)
      have hc : wr.cell? ⟨g3, i, none⟩ = some (.int .u8 (b.toNat : Int)) := h3.cell hb2
      have hc4 : wr.cell? ⟨g4, i, none⟩ = some (.int .u8 0) := h4.cell (pad_at (sha l) i 16 (by rw [sha_len]; omega) hlt)
      have hf := h4.thaw i
      have hnx := set_pad hb1 hlt
      have HNX := Lib.hid hnx
      clear hnx hb1 hb2
      go_wp2_with fail
      go_roundw
      case rel => exact ⟨i + 1, by omega, by go_num, h2.other (by omega) i _, h3.other (by omega) i _, by rw [← HNX.out]; exact h4.set i _, hb.setCell (p := ⟨g4, i, none⟩) (by show w.heap.size ≤ g4; omega) _⟩
      case measure => (simp [intOf]; try omega)
    · obtain rfl : i = 16 := by omega
      rw [show (sha l).take 16 ++ List.replicate (16 - 16) 0 = (sha l).take 16 from by simp] at h4
      go_wp2_with (first | (with_reducible refine ldArr (.tmp 4) Tryd.ag_b16 (wn rfl) rfl rfl HD.out h4 ?_) | (with_reducible refine stArr (cs := bcs ((sha l).take 16)) (.tmp 2) (.tmp 18) Tryd.ag_b16 (wn rfl) rfl rfl rfl h2 (zerosB_len _) HD.out (bcs_one _) ?_))
      intro w5 h2 hkeep hbel
      go_wp2_with fail
      refine bodyPost_ret (v := .agg (bcs ((sha l).take 16)).toArray) ?_ rfl ⟨rfl, hb.trans (hbel _ (Nat.le_refl _))⟩
      exact res_cell1 (bcs ((sha l).take 16)) Tryd.results34 Tryd.ag_b16 _ rfl HD.out (fun j u hu => by rw [Nat.zero_add]; exact h2.cell hu)
end Go.Proofs.YthmhmjdppldmiaaDoor
