/-
  Begin and Add of a stream.
-/
import Derived.Test.YthmhmjdppldmiaaDoorStr
import Derived.Deep.Cut
namespace Go.Proofs.YthmhmjdppldmiaaDoor
open Go.RowKit

def zeros73 : List Value := stCells ⟨0, 0, 0, 0, 0, 0, 0, 0⟩ (List.replicate 64 0) 0
theorem Tryd.ag_str : AgTy Tryd.prog 34 zeros73.toArray 73 := ⟨by kernel_rfl, by kernel_rfl, by decide⟩
theorem zeros73_len : zeros73.length = 73 := by decide
theorem Tryd.arr_b64 : Tryd.prog.underlying 31 = some (.array 64 5) := by kernel_rfl
theorem Tryd.one_u8 : (Tryd.prog.info? 5).map (·.size) = some 1 := by kernel_rfl
/-- The length of a text. -/
def strLen : Value → Nat
  | .string s => s.size
  | _ => 0
theorem strLen_mk (l : List UInt8) : strLen (.string ⟨l.toArray⟩) = l.length := by simp [strLen, ByteArray.size]

set_option maxRecDepth 100000 in
set_option maxHeartbeats 1000000 in
theorem begin_any (w : World) : Calls Tryd.prog 14 #[] w (RetStr w []) := by
  go_enter Tryd.func14, Tryd.ntmps14
  go_wp2_with (with_reducible refine alArr (z := zeros73) Tryd.ag_str (wn rfl) rfl ?_)
  intro w1 h0 hb
  obtain ⟨c0, hc0⟩ : ∃ c0, c0 = stCells (stOf []) (List.replicate 64 0) 0 := ⟨_, rfl⟩
  have l0 : c0.length = 73 := by rw [hc0]; rfl
  have o0 : ∀ u ∈ c0, u.oneCell' = true := by rw [hc0]; exact stCells_one _ _ _
  have L0 := Lib.hid l0
  have b1 : ∀ w : World, (Instr.build 34 #[(0, .agg #[.int .u32 1779033703, .int .u32 3144134277, .int .u32 1013904242, .int .u32 2773480762, .int .u32 1359893119, .int .u32 2600822924, .int .u32 528734635, .int .u32 1541459225])]).run Tryd.prog w = .ok (.agg c0.toArray) w := by
    intro w
    rw [hc0]
    kernel_rfl
  have HC := Lib.hid hc0
  have B1 := Lib.hid b1
  clear hc0 l0 b1
  go_wp2_with (first | (with_reducible refine bdVal B1.out (wn rfl) rfl ?hev ?hk) | (with_reducible refine stArr (cs := c0) (.tmp 0) (.tmp 2) Tryd.ag_str (wn rfl) rfl rfl rfl h0 zeros73_len L0.out o0 ?_))
  intro w2 h0 hkeep hbel
  go_wp2_with fail
  refine bodyPost_ret (v := .agg c0.toArray) ?_ rfl ⟨_, rfl, ⟨_, str_nil, by rw [HC.out]; rfl⟩, hb.trans (hbel _ (Nat.le_refl _))⟩
  exact res_cell1 c0 Tryd.results14 Tryd.ag_str _ rfl L0.out (fun j u hu => by rw [Nat.zero_add]; exact h0.cell hu)

set_option maxRecDepth 100000 in
set_option maxHeartbeats 1000000 in
theorem add_any (m text : List UInt8) (v : Value) (w : World) (ht : Tabs w) (hm : IsStr m v) (hl : m.length + text.length ≤ 1099511627776) : Calls Tryd.prog 15 #[v, sv text] w (RetStr w (m ++ text)) := by
  obtain ⟨blk, hok, rfl⟩ := hm
  obtain ⟨mt, hmt⟩ : ∃ mt, mt = m ++ text := ⟨_, rfl⟩
  rw [← hmt]
  have hlt : mt.length ≤ 1099511627776 := by rw [hmt, List.length_append]; exact hl
  have HMT := Lib.hid hmt
  clear hmt hl
  go_enter Tryd.func15, Tryd.ntmps15
  go_wp2_with (first | (with_reducible refine bxArr (cs := stCells (stOf m) blk m.length) (.tmp 0) (wn rfl) rfl rfl ?_) | (with_reducible refine alArr (z := zeros73) Tryd.ag_str (wn rfl) rfl ?_))
  intro w1 h2 hb
  go_wp2_with (first | (with_reducible refine alArr (z := zeros73) Tryd.ag_str (wn rfl) rfl ?_))
  intro w2 h4 hb2
  have hg := h2.lt
  replace h2 := h2.below hb2 h2.lt
  replace hb := hb.trans (hb2.mono hb.size)
  clear hb2
  generalize w1.heap.size = g4 at *
  go_wp2_with fail
  go_loopw [1] (fun sv_ wr => ∃ (m' rest blk' : List UInt8), m' ++ rest = mt ∧ sv_ = sv rest ∧ StrOK m' blk' ∧ Arr wr w.heap.size 34 (stCells (stOf m') blk' m'.length) ∧ Arr wr g4 34 zeros73 ∧ Below w.heap.size w wr)
    (fun sv_ _ => strLen sv_)
  case atStart => exact ⟨m, text, blk, HMT.out.symm, rfl, hok, h2, h4, hb⟩
  case round =>
    clear h2 h4 hb
    clear hok
    obtain ⟨m', rest, blk', hcat, rfl, hok, h2, h4, hb⟩ := hrel
    have hlen : m'.length + rest.length ≤ 1099511627776 := by
      have := congrArg List.length hcat
      simp only [List.length_append] at this
      omega
    by_cases hr : rest = []
    · subst hr
      unfold sv
      rw [List.append_nil] at hcat
      subst hcat
      go_wp2_with (first | (with_reducible refine ldArr (.tmp 2) Tryd.ag_str (wn rfl) rfl rfl (stCells_len _ _ hok.len) h2 ?_) | (with_reducible refine stArr (.tmp 4) (.tmp 37) Tryd.ag_str (wn rfl) rfl rfl rfl h4 zeros73_len (stCells_len _ _ hok.len) (stCells_one _ _ _) ?_))
      intro w5 h4 hkeep hbel
      go_wp2_with fail
      refine bodyPost_ret (v := .agg (stCells (stOf m') blk' m'.length).toArray) ?_ rfl ⟨_, rfl, ⟨blk', hok, rfl⟩, hb.trans (hbel _ (by omega))⟩
      exact res_cell1 _ Tryd.results15 Tryd.ag_str _ rfl (stCells_len _ _ hok.len) (fun j u hu => by rw [Nat.zero_add]; exact h4.cell hu)
    · have hpos : 0 < rest.length := List.length_pos_iff.2 hr
      have hne : rest.isEmpty = false := by simpa using hr
      clear hr
      have m64 : m'.length % 64 < 64 := Nat.mod_lt _ (by omega)
      have HCAT := Lib.hid hcat
      clear hcat
      have cn := h2.cell (stCells_at_n (stOf m') m'.length hok.len)
      have hfit : 8 + m'.length % 64 + (64 - m'.length % 64) ≤ (stCells (stOf m') blk' m'.length).length := by rw [stCells_len _ _ hok.len]; omega
      unfold sv
      go_wp2_with (first | (with_reducible refine slPtrL (.tmp 13) (.tmp 14) (m'.length % 64) Tryd.arr_b64 Tryd.one_u8 (wn rfl) rfl rfl rfl (by omega) (by omega) ?_) | (with_reducible refine cpStr (.tmp 15) (.tmp 16) rest Tryd.sl_u8.und Tryd.one_u8 (wn rfl) rfl rfl rfl h2 hfit ?_))
      intro w5 h2 hkeep hbel
      have hxl : (rest.take (64 - m'.length % 64)).length = min rest.length (64 - m'.length % 64) := by rw [List.length_take, Nat.min_comm]
      have hk1 : min rest.length (64 - m'.length % 64) ≤ rest.length := Nat.min_le_left _ _
      have hk2 : m'.length % 64 + min rest.length (64 - m'.length % 64) ≤ 64 := by omega
      have hk3 : m'.length % 64 + min rest.length (64 - m'.length % 64) < 64 → min rest.length (64 - m'.length % 64) = rest.length := by omega
      have hk4 : 0 < min rest.length (64 - m'.length % 64) := by omega
      have hxt : rest.take (64 - m'.length % 64) = rest.take (min rest.length (64 - m'.length % 64)) := by
        rcases Nat.le_total rest.length (64 - m'.length % 64) with h | h
        · rw [Nat.min_eq_left h, List.take_length, List.take_of_length_le h]
        · rw [Nat.min_eq_right h]
      rw [stCells_copy _ _ hok.len (by rw [hxl]; exact hk2)] at h2
      rw [hxt] at h2 hxl
      clear hxt hfit cn
      generalize min rest.length (64 - m'.length % 64) = k at *
      have h4 := hkeep _ _ _ (by omega) h4
      have hb := hb.trans (hbel _ (Nat.le_refl _))
      clear hkeep hbel
      have hbl := blkAdd_len (x := rest.take k) (i := m'.length % 64) hok.len (by omega)
      have cn := h2.cell (stCells_at_n (stOf m') m'.length hbl)
      have f72 := h2.thaw 72
      have HX := Lib.hid hxl
      have HK3 := Lib.hid hk3
      have HBL := Lib.hid hbl
      clear hxl hk3 hbl
      go_upto_region 6 with (fail)
      rw [ext_str]
      have hnv : Value.int .u64 ((m'.length : Int) + (k : Int)) = .int .u64 ((m'.length + k : Nat) : Int) := by rw [Int.natCast_add]
      rw [hnv]
      clear hnv
      replace h2 := h2.set 72 (.int .u64 ((m'.length + k : Nat) : Int))
      replace h4 := h4.other (i := 72) (v := .int .u64 ((m'.length + k : Nat) : Int)) (show w.heap.size ≠ g4 by omega)
      replace hb := hb.setCell (p := ⟨w.heap.size, 72, none⟩) (Nat.le_refl _) (.int .u64 ((m'.length + k : Nat) : Int))
      rw [stCells_n _ _ _ HBL.out] at h2
      clear cn f72
      generalize w5.setCell ⟨w.heap.size, 72, none⟩ (.int .u64 ((m'.length + k : Nat) : Int)) = w6 at *
      have hcat2 : (m' ++ rest.take k) ++ rest.drop k = mt := by rw [List.append_assoc, List.take_append_drop]; exact HCAT.out
      have hl2 : (m' ++ rest.take k).length = m'.length + k := by rw [List.length_append, HX.out]
      have HC2 := Lib.hid hcat2
      have HL2 := Lib.hid hl2
      have hmeas : rest.length - k < rest.length := by omega
      clear hcat2 hl2
      by_cases hf : m'.length % 64 + k = 64
      · have hfull := str_full hok (rest.take k) (by rw [HX.out]; exact hf)
        have hq : (((m'.length : Int) % 64 + (k : Int)) == 64) = true := by rw [beq_iff_eq]; omega
        have HF := Lib.hid hfull
        clear hfull hf
        go_wp2_with fail
        have hst := fun w' (hw : Arr w' w.heap.size 34 (stCells (stOf m') (blkAdd blk' (m'.length % 64) (rest.take k)) (m'.length + k))) (j : Nat) (u : Value) (hu : (stOf m').vals[j]? = some u) =>
          (hw.cell (i := 0 + j) (by rw [Nat.zero_add]; unfold stCells; rw [List.append_assoc, List.getElem?_append_left (List.getElem?_eq_some_iff.1 hu).1]; exact hu) : w'.cell? ⟨w.heap.size, 0 + j, none⟩ = some u)
        refine rgStart (fun _ => True) (by kernel_rfl) ?_
        refine rgTake (i := 0) (v := .pointer (some ⟨w.heap.size, 0, none⟩)) rfl (by kernel_rfl) (wn rfl) (fun _ _ _ h => h) (fun w _ => by kernel_rfl) trivial ?_
        refine rgTake (i := 2) (v := .pointer (some ⟨w.heap.size, 8, none⟩)) rfl (by kernel_rfl) (wn rfl) (fun _ _ _ h => h) (fun w _ => by kernel_rfl) trivial ?_
        refine rgTake (i := 3) (v := .slice (some ⟨w.heap.size, 8, none⟩) 64 64) rfl (by kernel_rfl) (wn rfl) (fun _ _ _ h => h) (fun w _ => by kernel_rfl) trivial ?_
        refine rgNext (i := 1) (by kernel_rfl) rfl ?_
        refine ldAgg (b := w.heap.size) (off := 0) (.tmp 31) (stOf m').vals Tryd.ag_w8 (wn rfl) rfl (by kernel_rfl) rfl (hst _ h2.drew) ?_
        refine rgBack trivial ?_
        refine rgNext (i := 4) (by kernel_rfl) rfl ?_
        have hrd : Rd w6.drew w6.heap.size 1 (some ⟨w.heap.size, 8, none⟩) 64 64 (bcs (blkAdd blk' (m'.length % 64) (rest.take k))) :=
          ⟨by rw [bcs_length]; exact HBL.out, Nat.le_refl _, by unfold maxLen; omega, fun _ => ⟨w.heap.size, 8, rfl, h2.lt, fun j u hu => h2.drew.cell (stCells_blk _ _ hu)⟩⟩
        have hsz : w6.heap.size ≤ w6.drew.heap.size := Nat.le_refl _
        have hdb : Below w.heap.size w w6.drew := hb.drew
        replace h2 := h2.drew
        replace h4 := h4.drew
        go_wp2_with fail
        refine (compress_any (stOf m') _ _ 64 64 _ w6.drew (stOf_ok m') (ht.below hdb ht.size) hrd hsz (Nat.le_refl _)).mono ?_
        rintro e w7 ⟨rfl, hb7⟩
        replace h2 := h2.below hb7 h2.lt
        replace h4 := h4.below hb7 h4.lt
        replace hb := hdb.trans (hb7.mono hdb.size)
        clear hrd hsz hdb hb7
        rw [← (HF.out).2] at *
        go_wp2_with fail
        refine ⟨trivial, ?_⟩
        refine rgTake (S := fun _ => True) (i := 5) (v := .pointer (some ⟨w.heap.size, 0, none⟩)) rfl (by kernel_rfl) (wn rfl) (fun _ _ _ h => h) (fun w _ => by kernel_rfl) trivial ?_
        refine rgNext (i := 6) (by kernel_rfl) rfl ?_
        refine stMid (g := w.heap.size) (off := 0) (.tmp 36) (.tmp 35) (stOf (m' ++ rest.take k)).vals Tryd.ag_w8 (wn rfl) rfl (by kernel_rfl) (by kernel_rfl) h2 rfl (by rw [stCells_len _ _ HBL.out]; omega) (St.vals_one _) ?_
        intro w8 h8 hkeep hbel
        rw [stCells_state] at h8
        replace h4 := hkeep _ _ _ (by omega) h4
        replace hb := hb.trans (hbel _ (Nat.le_refl _))
        refine rgBack trivial ?_
        refine rgDone (by kernel_rfl) ?_
        simp only [Act.put, List.setIfInBounds_toArray, List.set_cons_succ, List.set_cons_zero]
        go_wp2_with fail
        go_roundw
        case rel =>
          refine ⟨m' ++ rest.take k, rest.drop k, _, HC2.out, rfl, HF.out.1, ?_, h4, hb⟩
          rw [HL2.out]
          exact h8
        case measure => simpa [strLen_mk] using hmeas
      · have hpart := str_part hok (rest.take k) (by rw [HX.out]; omega)
        have hq : (((m'.length : Int) % 64 + (k : Int)) == 64) = false := by rw [beq_eq_false_iff_ne]; omega
        have HP := Lib.hid hpart
        clear hpart hf
        go_wp2_with fail
        go_roundw
        case rel =>
          refine ⟨m' ++ rest.take k, rest.drop k, _, HC2.out, rfl, HP.out.1, ?_, h4, hb⟩
          rw [HP.out.2, HL2.out]
          exact h2
        case measure => simpa [strLen_mk] using hmeas
end Go.Proofs.YthmhmjdppldmiaaDoor
