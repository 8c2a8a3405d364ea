/-
  sanity of the statements on the hash answers true.
-/
import Derived.Test.YthmhmjdppldmiaaDoorOf
import Derived.Lib.SlBytesConst
namespace Go.Proofs.YthmhmjdppldmiaaDoor
open Go.RowKit

/-- A call that answers b and leaves what was there as it was. -/
def RetB (w : World) (b : Bool) (e : Ending) (w' : World) : Prop := e = .returned (.bool b) ∧ Below w.heap.size w w'
theorem Tryd.sl_str : SlTy Tryd.prog 27 9 (.string ⟨#[]⟩) 1 16 := ⟨by kernel_rfl, by kernel_rfl, rfl, by decide⟩
theorem san_sha : hexOf (sha [97, 98, 99]) = [98, 97, 55, 56, 49, 54, 98, 102, 56, 102, 48, 49, 99, 102, 101, 97, 52, 49, 52, 49, 52, 48, 100, 101, 53, 100, 97, 101, 50, 50, 50, 51, 98, 48, 48, 51, 54, 49, 97, 51, 57, 54, 49, 55, 55, 97, 57, 99, 98, 52, 49, 48, 102, 102, 54, 49, 102, 50, 48, 48, 49, 53, 97, 100] := by decide +kernel
/-- The key and the text of the example. -/
def sanK : List UInt8 := [74, 101, 102, 101]
def sanT : List UInt8 := [119, 104, 97, 116, 32, 100, 111, 32, 121, 97, 32, 119, 97, 110, 116, 32, 102, 111, 114, 32, 110, 111, 116, 104, 105, 110, 103, 63]
theorem san_mac : hexOf (mac sanK sanT) = [53, 98, 100, 99, 99, 49, 52, 54, 98, 102, 54, 48, 55, 53, 52, 101, 54, 97, 48, 52, 50, 52, 50, 54, 48, 56, 57, 53, 55, 53, 99, 55, 53, 97, 48, 48, 51, 102, 48, 56, 57, 100, 50, 55, 51, 57, 56, 51, 57, 100, 101, 99, 53, 56, 98, 57, 54, 52, 101, 99, 51, 56, 52, 51] := by decide +kernel
theorem san_of : hexOf (ofDig 8 [[97], []]) = [102, 97, 49, 53, 52, 98, 97, 53, 97, 52, 100, 50, 54, 54, 102, 49, 98, 54, 52, 99, 56, 50, 54, 99, 101, 101, 100, 99, 97, 99, 98, 55] := by decide +kernel
theorem bcs_cells (l : List UInt8) : ∀ v ∈ bcs l, v.cells = #[v] := by
  intro v hv
  obtain ⟨b, _, rfl⟩ := List.mem_map.1 hv
  rfl
theorem svs_cells (l : List (List UInt8)) : ∀ v ∈ l.map sv, v.cells = #[v] := by
  intro v hv
  obtain ⟨b, _, rfl⟩ := List.mem_map.1 hv
  rfl
theorem rd_const (w : World) (l : List UInt8) (e : TypeId) (fr : Nat × Nat) (hl : l.length ≤ 1000000) : Rd (w.alloc (.cells (bcs l).toArray e fr)) (w.heap.size + 1) 1 (some ⟨w.heap.size, 0, none⟩) l.length l.length (bcs l) :=
  ⟨by rw [bcs_length, Nat.mul_one], Nat.le_refl _, by unfold maxLen; omega, fun _ => ⟨w.heap.size, 0, rfl, by omega, fun j u hu => by
    rw [Nat.zero_add, World.cell?_alloc_mark]
    simpa using hu⟩⟩
theorem bcs32 (l : List UInt8) : (bcs (sha l)).length = 32 := by rw [bcs_length]; exact sha_len l

set_option maxRecDepth 100000 in
set_option maxHeartbeats 2000000 in
theorem sanity_any (w : World) (ht : Tabs w) : Calls Tryd.prog 10 #[] w (RetB w true) := by
  have hb := Below.refl w.heap.size w
  have HS := Lib.hid san_sha
  have HM := Lib.hid san_mac
  have HO := Lib.hid san_of
  have HL := Lib.hid (bcs32 [97, 98, 99])
  have HD := Lib.hid (show (bcs (ofDig 8 [[97], []])).length = 16 by rw [bcs_length]; exact ofDig_len _ _)
  go_enter Tryd.func10, Tryd.ntmps10
  have kc := fun (C : Array Value) (n c : Nat) => Lib.run_convert_bytes_const (P := Tryd.prog) w 22 5 C n c Tryd.sl_u8.und Tryd.und_u8
  go_wp2_with fail
  clear kc
  have hrd := rd_const w [97, 98, 99] 5 (3, 4) (by decide)
  replace hb := hb.alloc (Nat.le_refl _) (.cells (bcs [97, 98, 99]).toArray 5 (3, 4))
  have hsz : (w.alloc (.cells (bcs [97, 98, 99]).toArray 5 (3, 4))).heap.size = w.heap.size + 1 := by simp
  obtain ⟨w1, hw1⟩ : ∃ w1, w1 = w.alloc (.cells (bcs [97, 98, 99]).toArray 5 (3, 4)) := ⟨_, rfl⟩
  have hw1' : w.alloc (.cells #[.int .u8 97, .int .u8 98, .int .u8 99] 5 (3, 4)) = w1 := hw1.symm
  rw [← hw1] at hrd hb hsz
  rw [hw1']
  clear hw1 hw1'
  refine (sum_any [97, 98, 99] _ 3 3 _ w1 (ht.below hb ht.size) hrd (by omega) (by omega)).mono ?_
  rintro e w2 ⟨rfl, hb2⟩
  replace hb := hb.trans (hb2.mono hb.size)
  clear hb2 hrd hsz
  go_wp2_with (with_reducible refine alArr (z := zerosB 32) Tryd.ag_b32 (wn rfl) rfl ?_)
  intro w3 h1 hb3
  have g0 := hb.size
  replace hb := hb.trans (hb3.mono hb.size)
  clear hb3
  generalize w2.heap.size = g1 at *
  go_wp2_with (with_reducible refine stArr (cs := bcs (sha [97, 98, 99])) (.tmp 1) (.tmp 9) Tryd.ag_b32 (wn rfl) rfl rfl rfl h1 (zerosB_len _) HL.out (bcs_one _) ?_)
  intro w4 h1 hkeep hbel
  replace hb := hb.trans (hbel _ g0)
  clear hkeep hbel
  go_wp2_with fail
  refine (begin_any _).mono ?_
  rintro e w5 ⟨v1, rfl, hv1, hb5⟩
  replace h1 := h1.below hb5 h1.lt
  replace hb := hb.trans (hb5.mono hb.size)
  clear hb5
  go_wp2_with fail
  refine (add_any [] [97] v1 w5 (ht.below hb ht.size) hv1 (by simp)).mono ?_
  rintro e w6 ⟨v2, rfl, hv2, hb6⟩
  replace h1 := h1.below hb6 h1.lt
  replace hb := hb.trans (hb6.mono hb.size)
  clear hb6 hv1
  go_wp2_with fail
  refine (add_any ([] ++ [97]) [98, 99] v2 w6 (ht.below hb ht.size) hv2 (by simp)).mono ?_
  rintro e w7 ⟨v3, rfl, hv3, hb7⟩
  replace h1 := h1.below hb7 h1.lt
  replace hb := hb.trans (hb7.mono hb.size)
  clear hb7 hv2
  have hv3 : IsStr [97, 98, 99] v3 := hv3
  go_wp2_with fail
  refine (strSum_any _ v3 w7 (ht.below hb ht.size) hv3 (by simp)).mono ?_
  rintro e w8 ⟨rfl, hb8⟩
  replace h1 := h1.below hb8 h1.lt
  replace hb := hb.trans (hb8.mono hb.size)
  clear hb8 hv3
  go_wp2_with (with_reducible refine alArr (z := zerosB 32) Tryd.ag_b32 (wn rfl) rfl ?_)
  intro w9 h2 hb9
  have g12 := h1.lt
  replace h1 := h1.below hb9 h1.lt
  replace hb := hb.trans (hb9.mono hb.size)
  clear hb9
  generalize w8.heap.size = g2 at *
  go_wp2_with (with_reducible refine stArr (cs := bcs (sha [97, 98, 99])) (.tmp 2) (.tmp 13) Tryd.ag_b32 (wn rfl) rfl rfl rfl h2 (zerosB_len _) HL.out (bcs_one _) ?_)
  intro w10 h2 hkeep hbel
  replace h1 := hkeep _ _ _ (by omega) h1
  replace hb := hb.trans (hbel _ (by omega))
  clear hkeep hbel
  go_wp2_with (with_reducible refine bsRow (List.map sv [[97], []]) Tryd.sl_str (wn rfl) rfl ?_ rfl (by omega) (by omega) (svs_cells _) ?_)
  exact ⟨rfl, rfl⟩
  intro A8 w11 hrd hb11
  have hrd : Rd w11 w11.heap.size 1 A8 2 2 (([[97], []] : List (List UInt8)).map sv) := hrd
  replace h1 := h1.below hb11 h1.lt
  replace h2 := h2.below hb11 h2.lt
  replace hb := hb.trans (hb11.mono hb.size)
  clear hb11
  go_wp2_with fail
  refine (of_any 8 [[97], []] A8 2 2 _ w11 (ht.below hb ht.size) hrd (Nat.le_refl _) (by decide +kernel) (by decide)).mono ?_
  rintro e w12 ⟨rfl, hb12⟩
  replace h1 := h1.below hb12 h1.lt
  replace h2 := h2.below hb12 h2.lt
  replace hb := hb.trans (hb12.mono hb.size)
  clear hb12 hrd
  generalize hdig : ofDig 8 [[97], []] = dig at *
  clear hdig
  go_wp2_with (with_reducible refine alArr (z := zerosB 16) Tryd.ag_b16 (wn rfl) rfl ?_)
  intro w13 h3 hb13
  have g23 := h2.lt
  have g13 := h1.lt
  replace h1 := h1.below hb13 h1.lt
  replace h2 := h2.below hb13 h2.lt
  replace hb := hb.trans (hb13.mono hb.size)
  clear hb13
  generalize w12.heap.size = g3 at *
  go_wp2_with (with_reducible refine stArr (cs := bcs dig) (.tmp 3) (.tmp 15) Tryd.ag_b16 (wn rfl) rfl rfl rfl h3 (zerosB_len _) HD.out (bcs_one _) ?_)
  intro w14 h3 hkeep hbel
  replace h1 := hkeep _ _ _ (by omega) h1
  replace h2 := hkeep _ _ _ (by omega) h2
  replace hb := hb.trans (hbel _ (by omega))
  clear hkeep hbel
  have hm := mac_any sanK sanT w14 (ht.below hb ht.size) (by decide) (by decide)
  go_wp2_with fail
  refine hm.mono ?_
  rintro e w15 ⟨rfl, hb15⟩
  replace h1 := h1.below hb15 h1.lt
  replace h2 := h2.below hb15 h2.lt
  replace h3 := h3.below hb15 h3.lt
  replace hb := hb.trans (hb15.mono hb.size)
  clear hb15 hm
  have hmcl : (mac sanK sanT).length ≤ 1000000 := by unfold mac; rw [sha_len]; omega
  generalize mac sanK sanT = mc at *
  generalize hsh : sha [97, 98, 99] = sh at *
  clear hsh
  have hsl : sh.length = 32 := by have := HL.out; rwa [bcs_length] at this
  have hdl : dig.length = 16 := by have := HD.out; rwa [bcs_length] at this
  have q20 := equal_any [97, 98] [97, 98] w15 (by simp) (by simp)
  rw [show decide (([97, 98] : List UInt8) = [97, 98]) = true from by decide] at q20
  unfold sv at q20
  go_wp2_with fail
  refine q20.mono ?_
  rintro e w16 ⟨rfl, hb20⟩
  replace h1 := h1.below hb20 h1.lt
  replace h2 := h2.below hb20 h2.lt
  replace h3 := h3.below hb20 h3.lt
  replace hb := hb.trans (hb20.mono hb.size)
  clear hb20 q20
  have q21 := equal_any [97, 98] [97, 99] w16 (by simp) (by simp)
  rw [show decide (([97, 98] : List UInt8) = [97, 99]) = false from by decide] at q21
  unfold sv at q21
  go_wp2_with fail
  refine q21.mono ?_
  rintro e w17 ⟨rfl, hb21⟩
  replace h1 := h1.below hb21 h1.lt
  replace h2 := h2.below hb21 h2.lt
  replace h3 := h3.below hb21 h3.lt
  replace hb := hb.trans (hb21.mono hb.size)
  clear hb21 q21
  have q22 := equal_any [] [97] w17 (by simp) (by simp)
  rw [show decide (([] : List UInt8) = [97]) = false from by decide] at q22
  unfold sv at q22
  go_wp2_with fail
  refine q22.mono ?_
  rintro e w18 ⟨rfl, hb22⟩
  replace h1 := h1.below hb22 h1.lt
  replace h2 := h2.below hb22 h2.lt
  replace h3 := h3.below hb22 h3.lt
  replace hb := hb.trans (hb22.mono hb.size)
  clear hb22 q22
  go_wp2_with (with_reducible refine ldArr (.tmp 1) Tryd.ag_b32 (wn rfl) rfl rfl HL.out h1 ?_)
  refine (bytes32_any sh w18 hsl).mono ?_
  rintro e w19 ⟨rfl, hb23⟩
  replace h1 := h1.below hb23 h1.lt
  replace h2 := h2.below hb23 h2.lt
  replace h3 := h3.below hb23 h3.lt
  replace hb := hb.trans (hb23.mono hb.size)
  clear hb23
  go_wp2_with fail
  refine (hex_any sh w19 (by omega)).mono ?_
  rintro e w20 ⟨rfl, hb24⟩
  replace h1 := h1.below hb24 h1.lt
  replace h2 := h2.below hb24 h2.lt
  replace h3 := h3.below hb24 h3.lt
  replace hb := hb.trans (hb24.mono hb.size)
  clear hb24
  rw [HS.out]
  unfold sv
  go_wp2_with (first | (with_reducible refine ldArr (o := ⟨some 27, _, _, _, _, _⟩) (.tmp 1) Tryd.ag_b32 (by with_unfolding_all rfl) rfl rfl HL.out h1 ?_) | (with_reducible refine ldArr (o := ⟨some 28, _, _, _, _, _⟩) (.tmp 2) Tryd.ag_b32 (by with_unfolding_all rfl) rfl rfl HL.out h2 ?_) | (with_reducible refine eqBytes (.tmp 27) (.tmp 28) sh sh true Tryd.arr_b32 Tryd.und_u8 Tryd.one_u8 (by kernel_rfl) (by with_unfolding_all rfl) rfl rfl rfl hsl hsl (by simp) ?_))
  refine (hex_any mc w20 hmcl).mono ?_
  rintro e w21 ⟨rfl, hb25⟩
  replace h1 := h1.below hb25 h1.lt
  replace h2 := h2.below hb25 h2.lt
  replace h3 := h3.below hb25 h3.lt
  replace hb := hb.trans (hb25.mono hb.size)
  clear hb25
  rw [HM.out]
  unfold sv
  go_wp2_with (with_reducible refine ldArr (o := ⟨some 37, _, _, _, _, _⟩) (.tmp 3) Tryd.ag_b16 (by with_unfolding_all rfl) rfl rfl HD.out h3 ?_)
  refine (text_any dig w21 hdl).mono ?_
  rintro e w22 ⟨rfl, hb26⟩
  replace h1 := h1.below hb26 h1.lt
  replace h2 := h2.below hb26 h2.lt
  replace h3 := h3.below hb26 h3.lt
  replace hb := hb.trans (hb26.mono hb.size)
  clear hb26
  go_wp2_with fail
  refine (hex_any dig w22 (by omega)).mono ?_
  rintro e w23 ⟨rfl, hb27⟩
  replace h1 := h1.below hb27 h1.lt
  replace h2 := h2.below hb27 h2.lt
  replace h3 := h3.below hb27 h3.lt
  replace hb := hb.trans (hb27.mono hb.size)
  clear hb27
  rw [HO.out]
  unfold sv
  go_wp2_with fail
  go_ret
  exact ⟨rfl, hb⟩
end Go.Proofs.YthmhmjdppldmiaaDoor
