/-
 MB: several texts in one. No statement is proved here.
-/
import Derived.Test.YtgjgjimgomhbmaaGreatDoorMA
import Derived.Deep.Cut
import Derived.Deep.DeepCutAuto
import Derived.ProofKit
import Derived.OpenShut
import Derived.Deep.Slices
import Derived.SizedLaws
import Derived.Deep.CondSized
set_option maxRecDepth 100000
set_option maxHeartbeats 4000000
set_option linter.unusedVariables false
set_option linter.unusedSimpArgs false
namespace Go.Proofs.YtgjgjimgomhbmaaGreatDoor
open Go.RowKit
def zeros73 : List Value := stCells ⟨0, 0, 0, 0, 0, 0, 0, 0⟩ (List.replicate 64 0) 0
theorem Tryz.ag_str : AgTy Tryz.prog 130 zeros73.toArray 73 := ⟨by kernel_rfl, by kernel_rfl, by decide⟩
theorem zeros73_len : zeros73.length = 73 := by decide
theorem Tryz.arr_b64 : Tryz.prog.underlying 127 = some (.array 64 5) := by kernel_rfl
theorem Tryz.one_u8 : (Tryz.prog.info? 5).map (·.size) = some 1 := by kernel_rfl
def strLen : Value → Nat
 | .string s => s.size
 | _ => 0
theorem strLen_mk (l : List UInt8) : strLen (.string ⟨l.toArray⟩) = l.length := by simp [strLen, ByteArray.size]
theorem begin_any (w : World) : Calls Tryz.prog 104 #[] w (RetStr w []) := by
 go_enter Tryz.func104, Tryz.ntmps104
 go_wp2_with (with_reducible refine alArr (z := zeros73) Tryz.ag_str (wn rfl) rfl ?_)
 intro w1 h0 hb
 obtain ⟨c0, hc0⟩ : ∃ c0, c0 = stCells (stOf []) (List.replicate 64 0) 0 := ⟨_, rfl⟩
 have l0 : c0.length = 73 := by rw [hc0]; rfl
 have o0 : ∀ u ∈ c0, u.oneCell' = true := by rw [hc0]; exact stCells_one _ _ _
 have L0 := Lib.hid l0
 have b1 : ∀ w : World, (Instr.build 130 #[(0, .agg #[.int .u32 1779033703, .int .u32 3144134277, .int .u32 1013904242, .int .u32 2773480762, .int .u32 1359893119, .int .u32 2600822924, .int .u32 528734635, .int .u32 1541459225])]).run Tryz.prog w = .ok (.agg c0.toArray) w := by
  intro w
  rw [hc0]
  kernel_rfl
 have HC := Lib.hid hc0
 have B1 := Lib.hid b1
 clear hc0 l0 b1
 go_wp2_with (first | (with_reducible refine bdVal B1.out (wn rfl) rfl ?hev ?hk) | (with_reducible refine stArr (cs := c0) (.tmp 0) (.tmp 2) Tryz.ag_str (wn rfl) rfl rfl rfl h0 zeros73_len L0.out o0 ?_))
 intro w2 h0 hkeep hbel
 go_wp2_with fail
 refine bodyPost_ret (v := .agg c0.toArray) ?_ rfl ⟨_, rfl, ⟨_, str_nil, by rw [HC.out]; rfl⟩, hb.trans (hbel _ (Nat.le_refl _))⟩
 exact res_cell1 c0 Tryz.results104 Tryz.ag_str _ rfl L0.out (fun j u hu => by rw [Nat.zero_add]; exact h0.cell hu)
theorem add_any (m text : List UInt8) (v : Value) (w : World) (ht : Tabs w) (hm : IsStr m v) (hl : m.length + text.length ≤ 1099511627776) : Calls Tryz.prog 105 #[v, sv text] w (RetStr w (m ++ text)) := by
 obtain ⟨blk, hok, rfl⟩ := hm
 obtain ⟨mt, hmt⟩ : ∃ mt, mt = m ++ text := ⟨_, rfl⟩
 rw [← hmt]
 have hlt : mt.length ≤ 1099511627776 := by rw [hmt, List.length_append]; exact hl
 have HMT := Lib.hid hmt
 clear hmt hl
 go_enter Tryz.func105, Tryz.ntmps105
 go_wp2_with (first | (with_reducible refine bxArr (cs := stCells (stOf m) blk m.length) (.tmp 0) (wn rfl) rfl rfl ?_) | (with_reducible refine alArr (z := zeros73) Tryz.ag_str (wn rfl) rfl ?_))
 intro w1 h2 hb
 go_wp2_with (first | (with_reducible refine alArr (z := zeros73) Tryz.ag_str (wn rfl) rfl ?_))
 intro w2 h4 hb2
 have hg := h2.lt
 replace h2 := h2.below hb2 h2.lt
 replace hb := hb.trans (hb2.mono hb.size)
 clear hb2
 generalize w1.heap.size = g4 at *
 go_wp2_with fail
 go_loopw [1] (fun sv_ wr => ∃ (m' rest blk' : List UInt8), m' ++ rest = mt ∧ sv_ = sv rest ∧ StrOK m' blk' ∧ Arr wr w.heap.size 130 (stCells (stOf m') blk' m'.length) ∧ Arr wr g4 130 zeros73 ∧ Below w.heap.size w wr)
  (fun sv_ _ => strLen sv_)
 case atStart => exact ⟨m, text, blk, HMT.out.symm, rfl, hok, h2, h4, hb⟩
 case round =>
  clear h2 h4 hb
  clear hok
  obtain ⟨m', rest, blk', hcat, rfl, hok, h2, h4, hb⟩ := hrel
  have hlen : m'.length + rest.length ≤ 1099511627776 := by
   have := congrArg List.length hcat
   simp only [List.length_append] at this
   omega
  by_cases hr : rest = []
  ·subst hr
   unfold sv
   rw [List.append_nil] at hcat
   subst hcat
   go_wp2_with (first | (with_reducible refine ldArr (.tmp 2) Tryz.ag_str (wn rfl) rfl rfl (stCells_len _ _ hok.len) h2 ?_) | (with_reducible refine stArr (.tmp 4) (.tmp 37) Tryz.ag_str (wn rfl) rfl rfl rfl h4 zeros73_len (stCells_len _ _ hok.len) (stCells_one _ _ _) ?_))
   intro w5 h4 hkeep hbel
   go_wp2_with fail
   refine bodyPost_ret (v := .agg (stCells (stOf m') blk' m'.length).toArray) ?_ rfl ⟨_, rfl, ⟨blk', hok, rfl⟩, hb.trans (hbel _ (by omega))⟩
   exact res_cell1 _ Tryz.results105 Tryz.ag_str _ rfl (stCells_len _ _ hok.len) (fun j u hu => by rw [Nat.zero_add]; exact h4.cell hu)
  ·have hpos : 0 < rest.length := List.length_pos_iff.2 hr
   have hne : rest.isEmpty = false := by simpa using hr
   clear hr
   have m64 : m'.length % 64 < 64 := Nat.mod_lt _ (by omega)
   have HCAT := Lib.hid hcat
   clear hcat
   have cn := h2.cell (stCells_at_n (stOf m') m'.length hok.len)
   have hfit : 8 + m'.length % 64 + (64 - m'.length % 64) ≤ (stCells (stOf m') blk' m'.length).length := by rw [stCells_len _ _ hok.len]; omega
   unfold sv
   go_wp2_with (first | (with_reducible refine slPtrL (.tmp 13) (.tmp 14) (m'.length % 64) Tryz.arr_b64 Tryz.one_u8 (wn rfl) rfl rfl rfl (by omega) (by omega) ?_) | (with_reducible refine cpStr (.tmp 15) (.tmp 16) rest Tryz.sl_u8.und Tryz.one_u8 (wn rfl) rfl rfl rfl h2 hfit ?_))
   intro w5 h2 hkeep hbel
   have hxl : (rest.take (64 - m'.length % 64)).length = min rest.length (64 - m'.length % 64) := by rw [List.length_take, Nat.min_comm]
   have hk1 : min rest.length (64 - m'.length % 64) ≤ rest.length := Nat.min_le_left _ _
   have hk2 : m'.length % 64 + min rest.length (64 - m'.length % 64) ≤ 64 := by omega
   have hk3 : m'.length % 64 + min rest.length (64 - m'.length % 64) < 64 → min rest.length (64 - m'.length % 64) = rest.length := by omega
   have hk4 : 0 < min rest.length (64 - m'.length % 64) := by omega
   have hxt : rest.take (64 - m'.length % 64) = rest.take (min rest.length (64 - m'.length % 64)) := by
    rcases Nat.le_total rest.length (64 - m'.length % 64) with h | h
    ·rw [Nat.min_eq_left h, List.take_length, List.take_of_length_le h]
    ·rw [Nat.min_eq_right h]
   rw [stCells_copy _ _ hok.len (by rw [hxl]; exact hk2)] at h2
   rw [hxt] at h2 hxl
   clear hxt hfit cn
   generalize min rest.length (64 - m'.length % 64) = k at *
   have h4 := hkeep _ _ _ (by omega) h4
   have hb := hb.trans (hbel _ (Nat.le_refl _))
   clear hkeep hbel
   have hbl := blkAdd_len (x := rest.take k) (i := m'.length % 64) hok.len (by omega)
   have cn := h2.cell (stCells_at_n (stOf m') m'.length hbl)
   have f72 := h2.thaw 72
   have HX := Lib.hid hxl
   have HK3 := Lib.hid hk3
   have HBL := Lib.hid hbl
   clear hxl hk3 hbl
   go_upto_region 6 with (fail)
   rw [ext_str]
   have hnv : Value.int .u64 ((m'.length : Int) + (k : Int)) = .int .u64 ((m'.length + k : Nat) : Int) := by rw [Int.natCast_add]
   rw [hnv]
   clear hnv
   replace h2 := h2.set 72 (.int .u64 ((m'.length + k : Nat) : Int))
   replace h4 := h4.other (i := 72) (v := .int .u64 ((m'.length + k : Nat) : Int)) (show w.heap.size ≠ g4 by omega)
   replace hb := hb.setCell (p := ⟨w.heap.size, 72, none⟩) (Nat.le_refl _) (.int .u64 ((m'.length + k : Nat) : Int))
   rw [stCells_n _ _ _ HBL.out] at h2
   clear cn f72
   generalize w5.setCell ⟨w.heap.size, 72, none⟩ (.int .u64 ((m'.length + k : Nat) : Int)) = w6 at *
   have hcat2 : (m' ++ rest.take k) ++ rest.drop k = mt := by rw [List.append_assoc, List.take_append_drop]; exact HCAT.out
   have hl2 : (m' ++ rest.take k).length = m'.length + k := by rw [List.length_append, HX.out]
   have HC2 := Lib.hid hcat2
   have HL2 := Lib.hid hl2
   have hmeas : rest.length - k < rest.length := by omega
   clear hcat2 hl2
   by_cases hf : m'.length % 64 + k = 64
   ·have hfull := str_full hok (rest.take k) (by rw [HX.out]; exact hf)
    have hq : (((m'.length : Int) % 64 + (k : Int)) == 64) = true := by rw [beq_iff_eq]; omega
    have HF := Lib.hid hfull
    clear hfull hf
    go_wp2_with fail
    have hst := fun w' (hw : Arr w' w.heap.size 130 (stCells (stOf m') (blkAdd blk' (m'.length % 64) (rest.take k)) (m'.length + k))) (j : Nat) (u : Value) (hu : (stOf m').vals[j]? = some u) =>
     (hw.cell (i := 0 + j) (by rw [Nat.zero_add]; unfold stCells; rw [List.append_assoc, List.getElem?_append_left (List.getElem?_eq_some_iff.1 hu).1]; exact hu) : w'.cell? ⟨w.heap.size, 0 + j, none⟩ = some u)
    refine rgStart (fun _ => True) kr_ ?_
    refine rgTake (i := 0) (v := .pointer (some ⟨w.heap.size, 0, none⟩)) rfl kr_ (wn rfl) (fun _ _ _ h => h) (fun w _ => by kernel_rfl) trivial ?_
    refine rgTake (i := 2) (v := .pointer (some ⟨w.heap.size, 8, none⟩)) rfl kr_ (wn rfl) (fun _ _ _ h => h) (fun w _ => by kernel_rfl) trivial ?_
    refine rgTake (i := 3) (v := .slice (some ⟨w.heap.size, 8, none⟩) 64 64) rfl kr_ (wn rfl) (fun _ _ _ h => h) (fun w _ => by kernel_rfl) trivial ?_
    refine rgNext (i := 1) kr_ rfl ?_
    refine ldAgg (b := w.heap.size) (off := 0) (.tmp 31) (stOf m').vals Tryz.ag_w8 (wn rfl) rfl kr_ rfl (hst _ h2.drew) ?_
    refine rgBack trivial ?_
    refine rgNext (i := 4) kr_ rfl ?_
    have hrd : Rd w6.drew w6.heap.size 1 (some ⟨w.heap.size, 8, none⟩) 64 64 (bcs (blkAdd blk' (m'.length % 64) (rest.take k))) :=
     ⟨by rw [bcs_length]; exact HBL.out, Nat.le_refl _, by unfold maxLen; omega, fun _ => ⟨w.heap.size, 8, rfl, h2.lt, fun j u hu => h2.drew.cell (stCells_blk _ _ hu)⟩⟩
    have hsz : w6.heap.size ≤ w6.drew.heap.size := Nat.le_refl _
    have hdb : Below w.heap.size w w6.drew := hb.drew
    replace h2 := h2.drew
    replace h4 := h4.drew
    go_wp2_with fail
    refine (compress_any (stOf m') _ _ 64 64 _ w6.drew (stOf_ok m') (ht.below hdb ht.size) hrd hsz (Nat.le_refl _)).mono ?_
    rintro e w7 ⟨rfl, hb7⟩
    replace h2 := h2.below hb7 h2.lt
    replace h4 := h4.below hb7 h4.lt
    replace hb := hdb.trans (hb7.mono hdb.size)
    clear hrd hsz hdb hb7
    rw [← (HF.out).2] at *
    go_wp2_with fail
    refine ⟨trivial, ?_⟩
    refine rgTake (S := fun _ => True) (i := 5) (v := .pointer (some ⟨w.heap.size, 0, none⟩)) rfl kr_ (wn rfl) (fun _ _ _ h => h) (fun w _ => by kernel_rfl) trivial ?_
    refine rgNext (i := 6) kr_ rfl ?_
    refine stMid (g := w.heap.size) (off := 0) (.tmp 36) (.tmp 35) (stOf (m' ++ rest.take k)).vals Tryz.ag_w8 (wn rfl) rfl kr_ kr_ h2 rfl (by rw [stCells_len _ _ HBL.out]; omega) (St.vals_one _) ?_
    intro w8 h8 hkeep hbel
    rw [stCells_state] at h8
    replace h4 := hkeep _ _ _ (by omega) h4
    replace hb := hb.trans (hbel _ (Nat.le_refl _))
    refine rgBack trivial ?_
    refine rgDone kr_ ?_
    simp only [Act.put, List.setIfInBounds_toArray, List.set_cons_succ, List.set_cons_zero]
    go_wp2_with fail
    go_roundw
    case rel =>
     refine ⟨m' ++ rest.take k, rest.drop k, _, HC2.out, rfl, HF.out.1, ?_, h4, hb⟩
     rw [HL2.out]
     exact h8
    case measure => simpa [strLen_mk] using hmeas
   ·have hpart := str_part hok (rest.take k) (by rw [HX.out]; omega)
    have hq : (((m'.length : Int) % 64 + (k : Int)) == 64) = false := by rw [beq_eq_false_iff_ne]; omega
    have HP := Lib.hid hpart
    clear hpart hf
    go_wp2_with fail
    go_roundw
    case rel =>
     refine ⟨m' ++ rest.take k, rest.drop k, _, HC2.out, rfl, HP.out.1, ?_, h4, hb⟩
     rw [HP.out.2, HL2.out]
     exact h2
    case measure => simpa [strLen_mk] using hmeas
theorem Tryz.und_str : Tryz.prog.underlying 9 = some .string := by kernel_rfl
theorem Tryz.und_u8 : Tryz.prog.underlying 5 = some (.int .u8) := by kernel_rfl
theorem sha_stOf (m : List UInt8) : sha m = outOf (stOf (m ++ padding m.length)) := rfl
theorem strSum_any (m : List UInt8) (v : Value) (w : World) (ht : Tabs w) (hm : IsStr m v) (hl : m.length ≤ 1000000000000) : Calls Tryz.prog 106 #[v] w fun e w' => e = .returned (.agg (bcs (sha m)).toArray) ∧ Below w.heap.size w w' := by
 obtain ⟨blk, hok, rfl⟩ := hm
 generalize hn : m.length = n at *
 go_enter Tryz.func106, Tryz.ntmps106
 go_wp2_with (first | (with_reducible refine bxArr (cs := stCells (stOf m) blk n) (.tmp 0) (wn rfl) rfl rfl ?_) | (with_reducible refine alArr (z := zerosB 32) Tryz.ag_b32 (wn rfl) rfl ?_))
 intro w1 h1 hb
 go_wp2_with (first | (with_reducible refine alArr (z := zerosB 32) Tryz.ag_b32 (wn rfl) rfl ?_))
 intro w2 h2 hb2
 have hg := h1.lt
 replace h1 := h1.below hb2 h1.lt
 replace hb := hb.trans (hb2.mono hb.size)
 clear hb2
 have hg2 := h2.lt
 generalize w1.heap.size = g2 at *
 have cn := h1.cell (stCells_at_n (stOf m) n hok.len)
 have hp := padLen_pos n
 have HN := Lib.hid hn
 clear hn
 have hown := World.ownsRow_lit (base := w2.heap.size) (e := 5) (size := 1) w2 #[.int .u8 128] 1 (Nat.le_refl _) (by unfold maxLen; omega) rfl
 have hb3 : Below w2.heap.size w2 (w2.alloc (.cells #[.int .u8 128] 5)) := (Below.refl _ _).alloc (Nat.le_refl _) _
 go_wp2_with fail
 go_loopw [4] (fun v wr => ∃ k : Nat, k ≤ padLen n - 1 ∧ wr.ownsRow w2.heap.size 5 1 v (1 + k) (bcs (128 :: List.replicate k 0)) ∧ Below w2.heap.size w2 wr) (fun v _ => padLen n - (match v with | .slice _ m _ => m | _ => 0))
 case atStart => exact ⟨0, by omega, hown, hb3⟩
 case round =>
  clear hown hb3
  obtain ⟨k, hk, hown, hb3⟩ := hrel
  obtain ⟨A3, c3, rfl, _⟩ := Rd.of_own hown
  have cn := (hb3.cell (p := ⟨w.heap.size, 72, none⟩) (show w.heap.size < w2.heap.size by omega)).trans cn
  have hpd := pad_done n k hk
  by_cases hd : k = padLen n - 1
  ·have hd' : (n + 1 + k) % 64 = 56 := hpd.2 hd
   have HD := Lib.hid hd
   have hbq : (((n : Int) + (1 + (k : Int))) % 64 != 56) = false := by rw [bne_eq_false_iff_eq]; omega
   clear hpd hd hd'
   go_wp2_with fail
   clear hbq
   go_loopw [4, 23] (fun v iv_ wr => ∃ i : Nat, i ≤ 8 ∧ iv_ = .int .i64 i ∧ wr.ownsRow w2.heap.size 5 1 v (1 + k + i) (bcs (128 :: (List.replicate k 0 ++ (be8 (8 * n)).take i))) ∧ Below w2.heap.size w2 wr) (fun _ iv_ _ => 8 - (intOf iv_).toNat)
   case atStart => exact ⟨0, by omega, rfl, by simpa using hown, hb3⟩
   case round =>
    clear hown hb3 cn
    rename_i wo wr
    obtain ⟨i, hi8, rfl, hown, hb3⟩ := hrel
    obtain ⟨A4, c4, rfl, _⟩ := Rd.of_own hown
    by_cases hi : i < 8
    ·have e1 : (56 - 8 * (i : Int)).toNat = 56 - 8 * i := by omega
     go_wp2_with (at_builtin; with_reducible refine app1 _ _ Tryz.sl_u8 (wn rfl) rfl rfl rfl hown hb3 (Nat.le_refl _) rfl (by omega) (by omega) ?_)
     intro v5 w5 hown5 hb5 _
     rw [shr_byte, bcs_snoc] at hown5
     clear hown hb3
     have hnx := be8_next (8 * n) i hi
     have HNX := Lib.hid hnx
     clear hnx
     go_wp2_with fail
     go_roundw
     case rel => exact ⟨i + 1, by omega, by go_num, ownsRow_count hown5 (by omega) (by rw [← HNX.out]; congr 1; simp), hb5⟩
     case measure => simp [intOf]; omega
    ·obtain rfl : i = 8 := by omega
     have hpd : 128 :: (List.replicate k 0 ++ (be8 (8 * n)).take 8) = padding n := by rw [HD.out]; rfl
     rw [hpd] at hown
     obtain ⟨_, _, hv, hrd⟩ := Rd.of_own hown
     cases hv
     have hpl : (padding n).length = 1 + k + 8 := by rw [← hpd]; simp [be8]; omega
     have HPL := Lib.hid hpl
     clear hpd hpl hown
     replace h1 := h1.below hb3 h1.lt
     replace h2 := h2.below hb3 h2.lt
     replace hb := hb.trans (hb3.mono hb.size)
     clear hb3 cn
     have hIs : IsStr m (.agg (stCells (stOf m) blk n).toArray) := ⟨blk, hok, by rw [HN.out]⟩
     have ht' := ht.below hb ht.size
     have hadd := add_any m (padding n) _ wr ht' hIs (by rw [HN.out, HPL.out]; omega)
     have hk64 := padLen_pos n
     clear hIs ht'
     have hsha : sha m = outOf (stOf (m ++ padding n)) := by rw [← HN.out]; exact sha_stOf m
     have HS := Lib.hid hsha
     clear hsha
     generalize m ++ padding n = M at *
     unfold sv at hadd
     go_wp2_with (first | (with_reducible refine ldArr (.tmp 1) Tryz.ag_str (wn rfl) rfl rfl (stCells_len _ _ hok.len) h1 ?_) | (with_reducible refine convStr (.tmp 37) (padding n) Tryz.sl_u8.und Tryz.und_u8 Tryz.und_str (wn rfl) rfl rfl hrd ?_))
     refine hadd.mono ?_
     rintro e w5 ⟨v', rfl, ⟨blk2, hok2, rfl⟩, hb5⟩
     replace h1 := h1.below hb5 h1.lt
     replace h2 := h2.below hb5 h2.lt
     replace hb := hb.trans (hb5.mono hb.size)
     clear hb5 hadd hrd
     go_wp2_with (with_reducible refine stArr (cs := stCells (stOf M) blk2 M.length) (.tmp 1) (.tmp 39) Tryz.ag_str (wn rfl) rfl rfl rfl h1 (stCells_len _ _ hok.len) (stCells_len _ _ hok2.len) (stCells_one _ _ _) ?_)
     intro w6 h1 hkeep hbel
     replace h2 := hkeep _ _ _ (by omega) h2
     replace hb := hb.trans (hbel _ (Nat.le_refl _))
     clear hkeep hbel
     go_wp2_with (with_reducible refine alArr (z := zerosB 32) Tryz.ag_b32 (wn rfl) rfl ?_)
     intro wa h12 hba
     have hg12 := h2.lt
     have hg12' := h1.lt
     replace h1 := h1.below hba h1.lt
     replace h2 := h2.below hba h2.lt
     replace hb := hb.trans (hba.mono hb.size)
     clear hba
     generalize w6.heap.size = g12 at *
     have k1 : g12 ≠ w.heap.size := by omega
     have k2 : g12 ≠ g2 := by omega
     have k3 : w.heap.size ≤ g12 := by omega
     clear hg12 hg12'
     have hshl : (sha m).length = 32 := by rw [HS.out]; exact outOf_len _
     have HSL := Lib.hid hshl
     have HG := Lib.hid (fun (s : St) => outOf_get s)
     clear hshl
     generalize stOf M = sq at *
     rw [← laidB_0 (sha m)] at h12
     go_wp2_with fail
     go_loopw [40] (fun iv_ wr => ∃ i : Nat, i ≤ 32 ∧ iv_ = .int .i64 i ∧ Arr wr w.heap.size 130 (stCells sq blk2 M.length) ∧ Arr wr g2 133 (zerosB 32) ∧ Arr wr g12 133 (laidB (sha m) 32 i) ∧ Below w.heap.size w wr) (fun iv_ _ => 32 - (intOf iv_).toNat)
     case atStart => exact ⟨0, by omega, rfl, h1, h2, h12, hb⟩
     case round =>
      clear h1 h2 h12 hb
      rename_i wo2 wr
      obtain ⟨i, hi32, rfl, h1, h2, h12, hb⟩ := hrel
      by_cases hi : i < 32
      ·have c1 : wr.cell? ⟨w.heap.size, i / 4, none⟩ = some (.int .u32 (nth sq.list (i / 4))) := h1.cell (stCells_get sq _ _ (by omega))
       have c2 := h12.cell (laidB_at (sha m) 32 i HSL.out hi)
       have f1 := h12.thaw i
       have i1 : ((i : Int) / 4).toNat = i / 4 := by omega
       have i2 : (24 - 8 * ((i : Int) % 4)).toNat = 24 - 8 * (i % 4) := by omega
       have hgb := laidB_next (sha m) 32 i _ HSL.out (by rw [HS.out]; exact HG.out sq i hi)
       have HB := Lib.hid hgb
       clear hgb
       go_wp2_with fail
       rw [out_byte]
       go_roundw
       case rel =>
        refine ⟨i + 1, by omega, by go_num, h1.other k1 _ _, h2.other k2 _ _, ?_, hb.setCell (show w.heap.size ≤ g12 from k3) _⟩
        rw [← HB.out]
        exact h12.set i _
       case measure => (simp [intOf]; try omega)
      ·obtain rfl : i = 32 := by omega
       rw [laidB_n _ _ HSL.out] at h12
       have hl32 : (bcs (sha m)).length = 32 := by rw [bcs_length]; exact HSL.out
       have HL32 := Lib.hid hl32
       clear hl32
       go_wp2_with (first | (with_reducible refine ldArr (.tmp 6) Tryz.ag_b32 (wn rfl) rfl rfl HL32.out h12 ?_) | (with_reducible refine stArr (.tmp 2) (.tmp 57) Tryz.ag_b32 (wn rfl) rfl rfl rfl h2 (zerosB_len _) HL32.out (bcs_one _) ?_))
       intro wz h2 hkeep hbel
       go_wp2_with fail
       refine bodyPost_ret (v := .agg (bcs (sha m)).toArray) ?_ rfl ⟨rfl, hb.trans (hbel _ (by omega))⟩
       exact res_cell1 (bcs (sha m)) Tryz.results106 Tryz.ag_b32 _ rfl HL32.out (fun j u hu => by rw [Nat.zero_add]; exact h2.cell hu)
  ·have hd' : ¬ (n + 1 + k) % 64 = 56 := fun h => hd (hpd.1 h)
   have hk' : k < padLen n - 1 := by omega
   have hbq : (((n : Int) + (1 + (k : Int))) % 64 != 56) = true := by rw [bne_iff_ne]; omega
   clear hpd hd
   go_wp2_with (at_builtin; with_reducible refine app1 _ _ Tryz.sl_u8 (wn rfl) rfl rfl rfl hown hb3 (Nat.le_refl _) rfl (by omega) (by omega) ?_)
   intro v5 w5 hown5 hb5 _
   clear hown hb3
   obtain ⟨A5, c5, rfl, _⟩ := Rd.of_own hown5
   go_wp2_with fail
   go_roundw
   case rel => exact ⟨k + 1, by omega, ownsRow_count hown5 (by omega) (by rw [show (Value.int .u8 0) = bc 0 from rfl, bcs_snoc]; congr 1; rw [List.cons_append, ← List.replicate_succ']), hb5⟩
   case measure => simp; omega
theorem sum_any (l : List UInt8) (A : Option Addr) (n c B : Nat) (w : World) (ht : Tabs w) (hr : Rd w B 1 A n c (bcs l)) (hB : B ≤ w.heap.size) (hn : n ≤ 1000000000000) :
 Calls Tryz.prog 118 #[.slice A n c] w fun e w' => e = .returned (.agg (bcs (sha l)).toArray) ∧ Below w.heap.size w w' := by
 have hl : l.length = n := by have := hr.len; simpa [bcs] using this
 have hl32 : (bcs (sha l)).length = 32 := by rw [bcs_length]; exact outOf_len _
 have HL := Lib.hid hl
 have HL32 := Lib.hid hl32
 clear hl hl32
 go_enter Tryz.func118, Tryz.ntmps118
 go_wp2_with (first | (with_reducible refine alArr (z := zerosB 32) Tryz.ag_b32 (wn rfl) rfl ?_))
 intro w1 h2 hb
 have hs1 : ∀ w', Below w.heap.size w w' → Rd w' B 1 A n c (bcs l) := fun w' h => hr.below (h.mono hB)
 go_wp2_with fail
 refine rgStart (fun w' => Below w.heap.size w w') kr_ ?_
 refine rgTake (i := 1) (v := .slice A n c) rfl kr_ (wn rfl) (fun _ _ _ h => h) (fun w _ => by kernel_rfl) hb.drew ?_
 refine rgConvStr (i := 2) (.tmp 4) l Tryz.sl_u8.und Tryz.und_u8 Tryz.und_str rfl kr_ (wn rfl) (fun _ _ _ h => h) rfl kr_ hs1 hb.drew ?_
 refine rgNext (i := 0) kr_ rfl ?_
 replace hb := hb.drew
 replace h2 := h2.drew
 go_wp2_with fail
 refine (begin_any _).mono ?_
 rintro e w2 ⟨v1, rfl, hv1, hb2⟩
 replace h2 := h2.below hb2 h2.lt
 replace hb := hb.trans (hb2.mono hb.size)
 clear hb2
 go_wp2_with fail
 refine ⟨hb, ?_⟩
 refine rgNext (S := fun w' => Below w.heap.size w w') (i := 3) kr_ rfl ?_
 go_wp2_with fail
 have hadd := add_any [] l v1 w2 (ht.below hb ht.size) hv1 (by rw [HL.out]; simp; omega)
 unfold sv at hadd
 rw [List.nil_append] at hadd
 refine hadd.mono ?_
 rintro e w3 ⟨v2, rfl, hv2, hb3⟩
 replace h2 := h2.below hb3 h2.lt
 replace hb := hb.trans (hb3.mono hb.size)
 clear hb3 hadd
 go_wp2_with fail
 refine ⟨hb, ?_⟩
 refine rgNext (S := fun w' => Below w.heap.size w w') (i := 4) kr_ rfl ?_
 go_wp2_with fail
 refine (strSum_any l v2 w3 (ht.below hb ht.size) hv2 (by rw [HL.out]; exact hn)).mono ?_
 rintro e w4 ⟨rfl, hb4⟩
 replace h2 := h2.below hb4 h2.lt
 replace hb := hb.trans (hb4.mono hb.size)
 clear hb4
 go_wp2_with fail
 refine ⟨hb, ?_⟩
 refine rgNext (S := fun w' => Below w.heap.size w w') (i := 5) kr_ rfl ?_
 refine stArr (cs := bcs (sha l)) (b := w.heap.size) (.tmp 2) (.tmp 7) Tryz.ag_b32 (wn rfl) rfl kr_ kr_ h2 (zerosB_len _) HL32.out (bcs_one _) ?_
 intro w5 h2 hkeep hbel
 replace hb := hb.trans (hbel _ (Nat.le_refl _))
 refine rgBack hb ?_
 refine rgDone kr_ ?_
 go_wp2_with fail
 refine bodyPost_ret (v := .agg (bcs (sha l)).toArray) ?_ rfl ⟨rfl, hb⟩
 exact res_cell1 (bcs (sha l)) Tryz.results118 Tryz.ag_b32 _ rfl HL32.out (fun j u hu => by rw [Nat.zero_add]; exact h2.cell hu)
theorem bcs_at {l : List UInt8} {i : Nat} (h : i < l.length) : ∃ b, l[i]? = some b ∧ (bcs l)[i]? = some (bc b) := ⟨l[i], List.getElem?_eq_getElem h, by unfold bcs; rw [List.getElem?_map, List.getElem?_eq_getElem h]; rfl⟩
theorem take_next {l : List UInt8} {i : Nat} {b : UInt8} (h : l[i]? = some b) : l.take i ++ [b] = l.take (i + 1) := by
 have hi := (List.getElem?_eq_some_iff.1 h).1
 rw [List.take_succ_eq_append_getElem hi]
 congr 2
 rw [List.getElem?_eq_getElem hi] at h
 exact (Option.some.inj h).symm
theorem bytes32_any (l : List UInt8) (w : World) (hl : l.length = 32) : Calls Tryz.prog 121 #[.agg (bcs l).toArray] w fun e w' => e = .returned (sv l) ∧ Below w.heap.size w w' := by
 have HL := Lib.hid hl
 clear hl
 go_enter Tryz.func121, Tryz.ntmps121
 go_wp2_with (with_reducible refine bxArr (cs := bcs l) (.tmp 0) (wn rfl) rfl rfl ?_)
 intro w1 h1 hb
 go_wp2_with fail
 go_loopw [3, 4] (fun v iv_ wr => ∃ i : Nat, i ≤ 32 ∧ iv_ = .int .i64 i ∧ wr.ownsRow w1.heap.size 5 1 v i (bcs (l.take i)) ∧ Below w1.heap.size w1 wr) (fun _ iv_ _ => 32 - (intOf iv_).toNat)
 case atStart => exact ⟨0, by omega, rfl, World.ownsRow_nil _ _ _ _, Below.refl _ _⟩
 case round =>
  obtain ⟨i, hi, rfl, hown, hbw⟩ := hrel
  by_cases hlt : i < 32
  ·obtain ⟨b, hb1, hb2⟩ := bcs_at (l := l) (i := i) (by rw [HL.out]; exact hlt)
   have hc : wr.cell? ⟨w.heap.size, i, none⟩ = some (.int .u8 (b.toNat : Int)) := (h1.below hbw h1.lt).cell hb2
   have hnx := take_next hb1
   have HNX := Lib.hid hnx
   clear hnx hb1 hb2
   go_wp2_with (at_builtin; with_reducible refine app1 _ _ Tryz.sl_u8 (wn rfl) rfl rfl rfl hown hbw (Nat.le_refl _) rfl (by omega) (by omega) ?_)
   intro v' w' h3 h4 _
   rw [show (Value.int .u8 (b.toNat : Int)) = bc b from rfl, bcs_snoc, HNX.out] at h3
   clear hown hbw hc
   go_wp2_with fail
   go_roundw
   case rel => exact ⟨i + 1, by omega, by go_num, h3, h4⟩
   case measure => (simp [intOf]; try omega)
  ·obtain rfl : i = 32 := by omega
   rw [List.take_of_length_le (by rw [HL.out]; exact Nat.le_refl _)] at hown
   obtain ⟨A, c, rfl, hrd⟩ := Rd.of_own hown
   go_wp2_with (with_reducible refine convStr (.tmp 15) l Tryz.sl_u8.und Tryz.und_u8 Tryz.und_str (wn rfl) rfl rfl hrd ?_)
   go_wp2_with fail
   go_ret
   exact ⟨rfl, hb.trans (hbw.mono hb.size)⟩
theorem text_any (l : List UInt8) (w : World) (hl : l.length = 16) : Calls Tryz.prog 78 #[.agg (bcs l).toArray] w fun e w' => e = .returned (sv l) ∧ Below w.heap.size w w' := by
 have HL := Lib.hid hl
 clear hl
 go_enter Tryz.func78, Tryz.ntmps78
 go_wp2_with (with_reducible refine bxArr (cs := bcs l) (.tmp 0) (wn rfl) rfl rfl ?_)
 intro w1 h1 hb
 go_wp2_with fail
 go_loopw [3, 4] (fun v iv_ wr => ∃ i : Nat, i ≤ 16 ∧ iv_ = .int .i64 i ∧ wr.ownsRow w1.heap.size 5 1 v i (bcs (l.take i)) ∧ Below w1.heap.size w1 wr) (fun _ iv_ _ => 16 - (intOf iv_).toNat)
 case atStart => exact ⟨0, by omega, rfl, World.ownsRow_nil _ _ _ _, Below.refl _ _⟩
 case round =>
  obtain ⟨i, hi, rfl, hown, hbw⟩ := hrel
  by_cases hlt : i < 16
  ·obtain ⟨b, hb1, hb2⟩ := bcs_at (l := l) (i := i) (by rw [HL.out]; exact hlt)
   have hc : wr.cell? ⟨w.heap.size, i, none⟩ = some (.int .u8 (b.toNat : Int)) := (h1.below hbw h1.lt).cell hb2
   have hnx := take_next hb1
   have HNX := Lib.hid hnx
   clear hnx hb1 hb2
   go_wp2_with (at_builtin; with_reducible refine app1 _ _ Tryz.sl_u8 (wn rfl) rfl rfl rfl hown hbw (Nat.le_refl _) rfl (by omega) (by omega) ?_)
   intro v' w' h3 h4 _
   rw [show (Value.int .u8 (b.toNat : Int)) = bc b from rfl, bcs_snoc, HNX.out] at h3
   clear hown hbw hc
   go_wp2_with fail
   go_roundw
   case rel => exact ⟨i + 1, by omega, by go_num, h3, h4⟩
   case measure => (simp [intOf]; try omega)
  ·obtain rfl : i = 16 := by omega
   rw [List.take_of_length_le (by rw [HL.out]; exact Nat.le_refl _)] at hown
   obtain ⟨A, c, rfl, hrd⟩ := Rd.of_own hown
   go_wp2_with (with_reducible refine convStr (.tmp 15) l Tryz.sl_u8.und Tryz.und_u8 Tryz.und_str (wn rfl) rfl rfl hrd ?_)
   go_wp2_with fail
   go_ret
   exact ⟨rfl, hb.trans (hbw.mono hb.size)⟩
theorem u8_xor_n (a b : Nat) (ha : a < 256) (hb : b < 256) : bits .xor .u8 (a : Int) (b : Int) = ((a ^^^ b : Nat) : Int) := u8_xor_nat a b ha hb
theorem bytes_any (s : List UInt8) (w : World) (h : s.length ≤ 70368744177664) :
 Calls Tryz.prog 29 #[sv s] w (RetRow w 5 1 (encS s).length (bcs (encS s))) := by
 have hsz : (⟨s.toArray⟩ : ByteArray).size = s.length := by simp [ByteArray.size]
 have hel := enc_len s.length
 have HL := Lib.hid (show (enc s.length).length + s.length = (encS s).length by simp [encS])
 have HS := Lib.hid (show bcs (enc s.length) ++ bcs s = bcs (encS s) by simp [encS, bcs_append])
 unfold sv
 go_enter Tryz.func29, Tryz.ntmps29
 go_wp2_with fail
 refine (int_any _ _ (by omega) (by omega)).mono ?_
 rintro e w1 ⟨v, rfl, hown, hb⟩
 go_wp2_with (at_builtin; with_reducible refine appS _ _ ⟨s.toArray⟩ Tryz.sl_u8 Tryz.und_str (wn rfl) rfl rfl rfl hown hb (Nat.le_refl _) (by rw [hsz]; omega) ?_)
 intro v' w' h3 h4 _
 clear hown hb
 go_wp2
 go_ret
 exact ⟨_, rfl, ownsRow_count h3 HL.out HS.out, h4⟩
theorem refBytes_any (s : List UInt8) (w : World) (h : s.length ≤ 70368744177664) :
 Calls Tryz.prog 33 #[sv s] w (RetRow w 5 1 (encS s).length (bcs (encS s))) := by
 have hsz : (⟨s.toArray⟩ : ByteArray).size = s.length := by simp [ByteArray.size]
 have hel := enc_len s.length
 have HL := Lib.hid (show (enc s.length).length + s.length = (encS s).length by simp [encS])
 have HS := Lib.hid (show bcs (enc s.length) ++ bcs s = bcs (encS s) by simp [encS, bcs_append])
 unfold sv
 go_enter Tryz.func33, Tryz.ntmps33
 go_wp2_with fail
 refine (refInt_any _ _ (by omega) (by omega)).mono ?_
 rintro e w1 ⟨v, rfl, hown, hb⟩
 go_wp2_with (at_builtin; with_reducible refine appS _ _ ⟨s.toArray⟩ Tryz.sl_u8 Tryz.und_str (wn rfl) rfl rfl rfl hown hb (Nat.le_refl _) (by rw [hsz]; omega) ?_)
 intro v' w' h3 h4 _
 clear hown hb
 go_wp2
 go_ret
 exact ⟨_, rfl, ownsRow_count h3 HL.out HS.out, h4⟩
def keyPad (k : List UInt8) : List UInt8 := k ++ List.replicate (64 - k.length) 0
def xorPad (k : List UInt8) (x : UInt8) : List UInt8 := (keyPad k).map (· ^^^ x)
def macKey (k : List UInt8) : List UInt8 := if 64 < k.length then sha k else k
def mac (k t : List UInt8) : List UInt8 := sha (xorPad (macKey k) 92 ++ sha (xorPad (macKey k) 54 ++ t))
theorem sha_len (l : List UInt8) : (sha l).length = 32 := outOf_len _
theorem macKey_le (k : List UInt8) : (macKey k).length ≤ 64 := by
 unfold macKey
 by_cases h : 64 < k.length
 ·rw [if_pos h, sha_len]; omega
 ·rw [if_neg h]; omega
theorem keyPad_len {k : List UInt8} (h : k.length ≤ 64) : (keyPad k).length = 64 := by unfold keyPad; simp; omega
theorem xorPad_len {k : List UInt8} (x : UInt8) (h : k.length ≤ 64) : (xorPad k x).length = 64 := by unfold xorPad; rw [List.length_map, keyPad_len h]
def xorTo (k : List UInt8) (x : UInt8) (i : Nat) : List UInt8 := ((keyPad k).take i).map (· ^^^ x) ++ (keyPad k).drop i
theorem xorTo_0 (k : List UInt8) (x : UInt8) : xorTo k x 0 = keyPad k := by simp [xorTo]
theorem xorTo_64 {k : List UInt8} (x : UInt8) (h : k.length ≤ 64) : xorTo k x 64 = xorPad k x := by
 unfold xorTo xorPad
 rw [List.take_of_length_le (by rw [keyPad_len h]; omega), List.drop_of_length_le (by rw [keyPad_len h]; omega), List.append_nil]
theorem xorTo_at {k : List UInt8} (x : UInt8) {i : Nat} {b : UInt8} (hb : (keyPad k)[i]? = some b) : (xorTo k x i)[i]? = some b := by
 have hi := (List.getElem?_eq_some_iff.1 hb).1
 unfold xorTo
 rw [List.getElem?_append_right (by rw [List.length_map, List.length_take]; omega), List.length_map, List.length_take, Nat.min_eq_left (by omega), Nat.sub_self, List.getElem?_drop, Nat.add_zero, hb]
theorem xorTo_next {k : List UInt8} (x : UInt8) {i : Nat} {b : UInt8} (hb : (keyPad k)[i]? = some b) : (bcs (xorTo k x i)).set i (bc (b ^^^ x)) = bcs (xorTo k x (i + 1)) := by
 have hi := (List.getElem?_eq_some_iff.1 hb).1
 have e1 : xorTo k x i = ((keyPad k).take i).map (· ^^^ x) ++ b :: (keyPad k).drop (i + 1) := by
  unfold xorTo
  congr 1
  rw [List.drop_eq_getElem_cons hi]
  congr 1
  rw [List.getElem?_eq_getElem hi] at hb
  exact Option.some.inj hb
 have e2 : xorTo k x (i + 1) = ((keyPad k).take i).map (· ^^^ x) ++ (b ^^^ x) :: (keyPad k).drop (i + 1) := by
  unfold xorTo
  rw [← take_next hb]
  simp
 have e5 : ∀ (p q : List Value) (x y : Value), (p ++ x :: q).set p.length y = p ++ y :: q := by
  intro p q x y
  induction p with
  | nil => rfl
  | cons a p ih => simp
 have hl : (bcs (((keyPad k).take i).map (· ^^^ x))).length = i := by rw [bcs_length, List.length_map, List.length_take]; omega
 rw [e1, e2, bcs_append, bcs_append]
 have h3 := e5 (bcs (((keyPad k).take i).map (· ^^^ x))) (bcs ((keyPad k).drop (i + 1))) (bc b) (bc (b ^^^ x))
 rw [hl] at h3
 exact h3
theorem xor_bc (b x : UInt8) : Value.int .u8 (bits .xor .u8 (b.toNat : Int) (x.toNat : Int)) = bc (b ^^^ x) := by
 rw [u8_xor_n _ _ b.toNat_lt x.toNat_lt]
 unfold bc
 rw [UInt8.toNat_xor]
theorem spl_zeros (k : List UInt8) (h : k.length ≤ 64) : spl (zerosB 64) 0 (bcs (k.take 64)) = bcs (keyPad k) := by
 unfold spl keyPad zerosB
 rw [List.take_of_length_le h, List.take_zero, List.nil_append, Nat.zero_add, bcs_append, bcs_length, List.drop_replicate]
 congr 1
 simp [bcs, bc]
theorem Tryz.ag_b64 : AgTy Tryz.prog 127 (zerosB 64).toArray 64 := ⟨by kernel_rfl, by kernel_rfl, by simp [zerosB]⟩
theorem macPad_any (k : List UInt8) (x : UInt8) (b : Nat) (w : World) (hk : k.length ≤ 64) (hA : Arr w b 9 [sv k]) :
 Calls Tryz.prog 119 #[.int .u8 (x.toNat : Int), .pointer (some ⟨b, 0, none⟩)] w fun e w' => e = .returned (sv (xorPad k x)) ∧ Below w.heap.size w w' := by
 have hb := Below.refl w.heap.size w
 go_enter Tryz.func119, Tryz.ntmps119
 go_wp2_with (first | (with_reducible refine alArr (z := zerosB 64) Tryz.ag_b64 (wn rfl) rfl ?_))
 intro w1 h4 hb1
 have hlt := hA.lt
 replace hA := hA.below hb1 hA.lt
 replace hb := hb.trans (hb1.mono hb.size)
 clear hb1
 have hx := x.toNat_lt
 go_wp2_with fail
 refine rgStart (fun _ => True) kr_ ?_
 refine rgTake (i := 0) (v := .slice (some ⟨w.heap.size, 0, none⟩) 64 64) rfl kr_ (wn rfl) (fun _ _ _ h => h) (fun w _ => by kernel_rfl) trivial ?_
 refine rgNext (i := 1) kr_ rfl ?_
 replace hA := hA.drew
 replace h4 := h4.drew
 replace hb := hb.drew
 have ck : w1.drew.cell? ⟨b, 0, none⟩ = some (.string ⟨k.toArray⟩) := hA.cell (i := 0) rfl
 go_wp2_with fail
 refine ⟨trivial, ?_⟩
 refine rgNext (S := fun _ => True) (i := 2) kr_ rfl ?_
 refine cpStr (g := w.heap.size) (off := 0) (dl := 64) (dc := 64) (.tmp 6) (.tmp 7) k Tryz.sl_u8.und Tryz.one_u8 (wn rfl) rfl kr_ kr_ h4 (by simp [zerosB]) ?_
 intro w5 h4 hkeep hbel
 rw [spl_zeros k hk, ← xorTo_0 k x] at h4
 replace hb := hb.trans (hbel _ (Nat.le_refl _))
 clear hkeep hbel ck hA
 refine rgBack trivial ?_
 refine rgDone kr_ ?_
 simp only [Act.put, List.setIfInBounds_toArray, List.set_cons_succ, List.set_cons_zero]
 have HK := Lib.hid (fun (i : Nat) (b : UInt8) (h : (keyPad k)[i]? = some b) => xorTo_next x h)
 go_wp2_with fail
 go_loopw [9] (fun iv_ wr => ∃ i : Nat, i ≤ 64 ∧ iv_ = .int .i64 i ∧ Arr wr w.heap.size 127 (bcs (xorTo k x i)) ∧ Below w.heap.size w wr) (fun iv_ _ => 64 - (intOf iv_).toNat)
 case atStart => exact ⟨0, by omega, rfl, h4, hb⟩
 case round =>
  clear h4 hb
  obtain ⟨i, hi, rfl, h4, hb⟩ := hrel
  by_cases hlt2 : i < 64
  ·obtain ⟨y, hy, _⟩ := bcs_at (l := keyPad k) (i := i) (by rw [keyPad_len hk]; exact hlt2)
   have c1 : wr.cell? ⟨w.heap.size, i, none⟩ = some (.int .u8 (y.toNat : Int)) := h4.cell (by unfold bcs; rw [List.getElem?_map, xorTo_at x hy]; rfl)
   have f1 := h4.thaw i
   have hnx := HK.out i y hy
   have HNX := Lib.hid hnx
   have xy := y.toNat_lt
   clear hnx hy
   go_wp2_with fail
   rw [xor_bc]
   go_roundw
   case rel =>
    refine ⟨i + 1, by omega, by go_num, ?_, hb.setCell (p := ⟨w.heap.size, i, none⟩) (Nat.le_refl _) _⟩
    rw [← HNX.out]
    exact h4.set i _
   case measure => (simp [intOf]; try omega)
  ·obtain rfl : i = 64 := by omega
   rw [xorTo_64 x hk] at h4
   have hrd : Rd wr wr.heap.size 1 (some ⟨w.heap.size, 0, none⟩) 64 64 (bcs (xorPad k x)) := rd_of_arr h4 (fun _ _ h => h) (by rw [bcs_length, xorPad_len x hk]) (Nat.le_refl _) (by unfold maxLen; omega) h4.lt
   go_wp2_with (first | (with_reducible refine slPtr (.tmp 4) Tryz.arr_b64 Tryz.one_u8 (by omega) (wn rfl) rfl rfl ?_) | (with_reducible refine convStr (.tmp 19) (xorPad k x) Tryz.sl_u8.und Tryz.und_u8 Tryz.und_str (wn rfl) rfl rfl hrd ?_))
   go_wp2_with fail
   go_ret
   exact ⟨rfl, hb⟩
theorem Tryz.arr_b32 : Tryz.prog.underlying 133 = some (.array 32 5) := by kernel_rfl
def GMac (B : Nat) (key inner : List UInt8) (i : Nat) (v : Value) (w : World) : Prop :=
 match i with
 | 0 => IsStr [] v
 | 2 => v = sv (xorPad key 92)
 | 3 => IsStr (xorPad key 92) v
 | 5 => v = sv inner
 | 6 => IsStr (xorPad key 92 ++ inner) v
 | 7 => v = .agg (bcs (sha (xorPad key 92 ++ inner))).toArray
 | 8 => ∃ g, v = .pointer (some ⟨g, 0, none⟩) ∧ Arr w g 133 (zerosB 32) ∧ B ≤ g
 | _ => True
theorem mac_any (k t : List UInt8) (w : World) (ht : Tabs w) (hk : k.length ≤ 100000000) (htl : t.length ≤ 100000000) : Calls Tryz.prog 111 #[sv k, sv t] w fun e w' => e = .returned (sv (mac k t)) ∧ Below w.heap.size w w' := by
 unfold sv
 go_enter Tryz.func111, Tryz.ntmps111
 go_wp2_with (with_reducible refine bxOne (.tmp 0) (wn rfl) rfl rfl rfl ?_)
 intro w1 h2 hb
 have c2 : w1.cell? ⟨w.heap.size, 0, none⟩ = some (.string ⟨k.toArray⟩) := h2.cell (i := 0) rfl
 go_upto_if 11 with (fail)
 go_cut [2] (fun s2 wc => s2 = .pointer (some ⟨w.heap.size, 0, none⟩) ∧ Arr wc w.heap.size 9 [sv (macKey k)] ∧ Below w.heap.size w wc)
 case first =>
  by_cases hlong : 64 < k.length
  ·have hmk : macKey k = sha k := by unfold macKey; rw [if_pos hlong]
   have HM := Lib.hid hmk
   have hl32 : (bcs (sha k)).length = 32 := by rw [bcs_length]; exact outOf_len _
   have HL32 := Lib.hid hl32
   clear hmk hl32
   have hsz := h2.lt
   go_wp2_with (with_reducible refine convBs (.tmp 12) k Tryz.und_str Tryz.sl_u8.und Tryz.und_u8 (wn rfl) rfl rfl (by omega) ?_)
   intro A5 c5 w5 hrd hb5
   replace h2 := h2.below hb5 h2.lt
   replace hb := hb.trans (hb5.mono hb.size)
   clear hb5 c2
   go_wp2_with fail
   refine (sum_any k A5 _ c5 _ w5 (ht.below hb ht.size) hrd (Nat.le_refl _) (by omega)).mono ?_
   rintro e w6 ⟨rfl, hb6⟩
   replace h2 := h2.below hb6 h2.lt
   replace hb := hb.trans (hb6.mono hb.size)
   clear hb6 hrd
   go_wp2_with (with_reducible refine alArr (z := zerosB 32) Tryz.ag_b32 (wn rfl) rfl ?_)
   intro w7 h5 hb7
   have h57 := h2.lt
   replace h2 := h2.below hb7 h2.lt
   replace hb := hb.trans (hb7.mono hb.size)
   clear hb7
   generalize w6.heap.size = g5 at *
   go_wp2_with (with_reducible refine stArr (cs := bcs (sha k)) (.tmp 5) (.tmp 14) Tryz.ag_b32 (wn rfl) rfl rfl rfl h5 (zerosB_len _) HL32.out (bcs_one _) ?_)
   intro w8 h5 hkeep hbel
   replace h2 := hkeep _ _ _ (by omega) h2
   replace hb := hb.trans (hbel _ (by omega))
   clear hkeep hbel
   have hrd : Rd w8 w8.heap.size 1 (some ⟨g5, 0, none⟩) 32 32 (bcs (sha k)) := rd_of_arr h5 (fun _ _ h => h) HL32.out (Nat.le_refl _) (by unfold maxLen; omega) h5.lt
   have c2 : w8.cell? ⟨w.heap.size, 0, none⟩ = some (.string ⟨k.toArray⟩) := h2.cell (i := 0) rfl
   have f2 := h2.thaw 0
   go_wp2_with (first | (with_reducible refine slPtr (.tmp 5) Tryz.arr_b32 Tryz.one_u8 (by omega) (wn rfl) rfl rfl ?_) | (with_reducible refine convStr (.tmp 15) (sha k) Tryz.sl_u8.und Tryz.und_u8 Tryz.und_str (wn rfl) rfl rfl hrd ?_))
   go_wp2_with fail
   go_meet
   case rel => exact ⟨rfl, by rw [HM.out]; exact h2.set 0 _, hb.setCell (p := ⟨w.heap.size, 0, none⟩) (Nat.le_refl _) _⟩
  ·have hmk : macKey k = k := by unfold macKey; rw [if_neg hlong]
   have HM := Lib.hid hmk
   clear hmk
   go_wp2_with fail
   go_meet
   case rel => exact ⟨rfl, by rw [HM.out]; exact h2, hb⟩
 case rest =>
  obtain ⟨rfl, h2, hb⟩ := hcut
  have hkl := macKey_le k
  have hmac : mac k t = sha (xorPad (macKey k) 92 ++ sha (xorPad (macKey k) 54 ++ t)) := rfl
  have HMAC := Lib.hid hmac
  have hi : (sha (xorPad (macKey k) 54 ++ t)).length = 32 := outOf_len _
  have ho : (sha (mac k t)).length = 32 := outOf_len _
  have p1 := xorPad_len 54 hkl
  have p2 := xorPad_len 92 hkl
  clear hmac ho
  generalize macKey k = key at *
  go_wp2_with fail
  refine (begin_any _).mono ?_
  rintro e w3 ⟨v1, rfl, hv1, hb3⟩
  replace h2 := h2.below hb3 h2.lt
  replace hb := hb.trans (hb3.mono hb.size)
  clear hb3
  have hpd := macPad_any key 54 w.heap.size w3 hkl h2
  have hpd : Calls Tryz.prog 119 #[.int .u8 54, .pointer (some ⟨w.heap.size, 0, none⟩)] w3 _ := hpd
  go_wp2_with fail
  refine hpd.mono ?_
  rintro e w4 ⟨rfl, hb4⟩
  replace h2 := h2.below hb4 h2.lt
  replace hb := hb.trans (hb4.mono hb.size)
  clear hb4 hpd
  go_wp2_with fail
  have hadd := add_any [] (xorPad key 54) v1 w4 (ht.below hb ht.size) hv1 (by rw [p1]; simp)
  rw [List.nil_append] at hadd
  refine hadd.mono ?_
  rintro e w5 ⟨v2, rfl, hv2, hb5⟩
  replace h2 := h2.below hb5 h2.lt
  replace hb := hb.trans (hb5.mono hb.size)
  clear hb5 hadd hv1
  go_wp2_with fail
  refine (add_any (xorPad key 54) t v2 w5 (ht.below hb ht.size) hv2 (by rw [p1]; omega)).mono ?_
  rintro e w6 ⟨v3, rfl, hv3, hb6⟩
  replace h2 := h2.below hb6 h2.lt
  replace hb := hb.trans (hb6.mono hb.size)
  clear hb6 hv2
  go_wp2_with fail
  refine (strSum_any _ v3 w6 (ht.below hb ht.size) hv3 (by rw [List.length_append, p1]; omega)).mono ?_
  rintro e w7 ⟨rfl, hb7⟩
  replace h2 := h2.below hb7 h2.lt
  replace hb := hb.trans (hb7.mono hb.size)
  clear hb7 hv3
  have HI := Lib.hid (show (bcs (sha (xorPad key 54 ++ t))).length = 32 by rw [bcs_length]; exact hi)
  clear hi
  generalize sha (xorPad key 54 ++ t) = inner at *
  go_wp2_with (with_reducible refine alArr (z := zerosB 32) Tryz.ag_b32 (wn rfl) rfl ?_)
  intro w8 h7 hb8
  have h27 := h2.lt
  replace h2 := h2.below hb8 h2.lt
  replace hb := hb.trans (hb8.mono hb.size)
  clear hb8
  generalize w7.heap.size = g7 at *
  go_wp2_with (with_reducible refine stArr (cs := bcs inner) (.tmp 7) (.tmp 24) Tryz.ag_b32 (wn rfl) rfl rfl rfl h7 (zerosB_len _) HI.out (bcs_one _) ?_)
  intro w9 h7 hkeep hbel
  replace h2 := hkeep _ _ _ (by omega) h2
  replace hb := hb.trans (hbel _ (by omega))
  clear hkeep hbel
  go_wp2_with fail
  refine aStart kr_ ?_
  replace h2 := h2.drew
  replace h7 := h7.drew
  replace hb := hb.drew
  generalize w9.drew = wd at *
  refine aTake (i := 1) (v := .func (.func 119) #[] #[.pointer (some ⟨w.heap.size, 0, none⟩)]) rfl kr_ (wn rfl) (fun _ _ _ h => h) (fun w => by kernel_rfl) ?_
  refine aTake (i := 4) (v := .slice (some ⟨g7, 0, none⟩) 32 32) rfl kr_ (wn rfl) (fun _ _ _ h => h) (fun w => by kernel_rfl) ?_
  refine rgFloat [(0, 25), (2, 27), (3, 28), (5, 30), (6, 31), (7, 32), (8, 8)] (GMac wd.heap.size key inner) _ 1 rfl kr_ ?mono ?step ?fin
  case mono =>
   intro p hp v w w' h hE
   simp only [List.mem_cons, List.not_mem_nil, or_false] at hp
   rcases hp with rfl | rfl | rfl | rfl | rfl | rfl | rfl
   ·exact h
   ·exact h
   ·exact h
   ·exact h
   ·exact h
   ·exact h
   ·obtain ⟨g, h1, h2, h3⟩ := h
    exact ⟨g, h1, h2.below hE h2.lt, h3⟩
  case step =>
   intro p hp
   simp only [List.mem_cons, List.not_mem_nil, or_false] at hp
   rcases hp with rfl | rfl | rfl | rfl | rfl | rfl | rfl
   ·refine ⟨_, rfl, rfl, fun a w' hF hE hG => ?_⟩
    refine callOp 104 [] [] [] kr_ (wn rfl) rfl rfl rfl ?_
    refine (begin_any w').mono ?_
    rintro e w2 ⟨v, rfl, hv, hbv⟩
    exact ⟨v, rfl, ⟨v, rfl, hbv, hv⟩⟩
   ·refine ⟨_, rfl, rfl, fun a w' hF hE hG => ?_⟩
    refine callOp 119 [.int .u8 92] [] [.pointer (some ⟨w.heap.size, 0, none⟩)] kr_ (wn rfl) rfl ((hF.eval 26 kr_).trans kr_) rfl ?_
    refine (macPad_any key 92 w.heap.size w' hkl (h2.below hE h2.lt)).mono ?_
    rintro e w2 ⟨rfl, hbv⟩
    exact ⟨_, rfl, ⟨_, rfl, hbv, rfl⟩⟩
   ·refine ⟨_, rfl, rfl, fun a w' hF hE hG => ?_⟩
    have g1 : IsStr [] (a.tmps.getD 25 undef) := hG (0, 25) (by simp) kr_
    have g2 : a.tmps.getD 27 undef = sv (xorPad key 92) := hG (2, 27) (by simp) kr_
    refine callOp 105 [a.tmps.getD 25 undef, sv (xorPad key 92)] [] [] kr_ (wn rfl) rfl rfl (by rw [← g2]; rfl) ?_
    refine (add_any [] (xorPad key 92) _ w' (ht.below (hb.trans (hE.mono hb.size)) ht.size) g1 (by rw [p2]; simp)).mono ?_
    rintro e w2 ⟨v, rfl, hv, hbv⟩
    exact ⟨v, rfl, ⟨v, rfl, hbv, hv⟩⟩
   ·refine ⟨_, rfl, rfl, fun a w' hF hE hG => ?_⟩
    have h7' := h7.below hE h7.lt
    have hrd : Rd w' w'.heap.size 1 (some ⟨g7, 0, none⟩) 32 32 (bcs inner) := rd_of_arr h7' (fun _ _ h => h) HI.out (Nat.le_refl _) (by unfold maxLen; omega) h7'.lt
    refine convStr (.tmp 29) inner Tryz.sl_u8.und Tryz.und_u8 Tryz.und_str (wn rfl) rfl ((hF.eval 29 kr_).trans kr_) hrd ?_
    exact ⟨_, rfl, Below.refl _ _, rfl⟩
   ·refine ⟨_, rfl, rfl, fun a w' hF hE hG => ?_⟩
    have g1 : IsStr (xorPad key 92) (a.tmps.getD 28 undef) := hG (3, 28) (by simp) kr_
    have g2 : a.tmps.getD 30 undef = sv inner := hG (5, 30) (by simp) kr_
    refine callOp 105 [a.tmps.getD 28 undef, sv inner] [] [] kr_ (wn rfl) rfl rfl (by rw [← g2]; rfl) ?_
    have hil : inner.length = 32 := by have := HI.out; rwa [bcs_length] at this
    refine (add_any (xorPad key 92) inner _ w' (ht.below (hb.trans (hE.mono hb.size)) ht.size) g1 (by rw [p2, hil]; omega)).mono ?_
    rintro e w2 ⟨v, rfl, hv, hbv⟩
    exact ⟨v, rfl, ⟨v, rfl, hbv, hv⟩⟩
   ·refine ⟨_, rfl, rfl, fun a w' hF hE hG => ?_⟩
    have g1 : IsStr (xorPad key 92 ++ inner) (a.tmps.getD 31 undef) := hG (6, 31) (by simp) kr_
    refine callOp 106 [a.tmps.getD 31 undef] [] [] kr_ (wn rfl) rfl rfl rfl ?_
    have hil : inner.length = 32 := by have := HI.out; rwa [bcs_length] at this
    refine (strSum_any _ _ w' (ht.below (hb.trans (hE.mono hb.size)) ht.size) g1 (by rw [List.length_append, p2, hil]; omega)).mono ?_
    rintro e w2 ⟨rfl, hbv⟩
    exact ⟨_, rfl, ⟨_, rfl, hbv, rfl⟩⟩
   ·refine ⟨_, rfl, rfl, fun a w' hF hE hG => ?_⟩
    refine alArr (z := zerosB 32) Tryz.ag_b32 (wn rfl) rfl fun w2 hA hb2 => ?_
    exact ⟨_, rfl, hb2, _, rfl, hA, hE.size⟩
  case fin =>
   intro a wf hF hE hG
   have q7 : a.tmps.getD 32 undef = .agg (bcs (sha (xorPad key 92 ++ inner))).toArray := hG (7, 32) (by simp)
   obtain ⟨g8, q8, h8, hg8⟩ := hG (8, 8) (by simp)
   have hbf : Below w.heap.size w wf := hb.trans (hE.mono hb.size)
   rw [hF.eq]
   simp only [putsX]
   rw [q7, q8]
   generalize a.tmps.getD 25 undef = x25
   generalize a.tmps.getD 27 undef = x27
   generalize a.tmps.getD 28 undef = x28
   generalize a.tmps.getD 30 undef = x30
   generalize a.tmps.getD 31 undef = x31
   rw [← HMAC.out]
   have hml : (bcs (mac k t)).length = 32 := by rw [bcs_length, HMAC.out]; exact outOf_len _
   have HML := Lib.hid hml
   have hle := hb.size
   clear hml hG hF hE h2 h7 hb
   refine aNext (i := 9) kr_ rfl ?_
   refine stArr (b := g8) (cs := bcs (mac k t)) (.tmp 8) (.tmp 32) Tryz.ag_b32 (wn rfl) rfl kr_ kr_ h8 (zerosB_len _) HML.out (bcs_one _) ?_
   intro w10 h8 hkeep hbel
   replace hbf := hbf.trans (hbel _ (by omega))
   refine aDone kr_ ?_
   simp only [Act.put, List.setIfInBounds_toArray, List.set_cons_succ, List.set_cons_zero]
   have hrd : Rd w10 w10.heap.size 1 (some ⟨g8, 0, none⟩) 32 32 (bcs (mac k t)) := rd_of_arr h8 (fun _ _ h => h) HML.out (Nat.le_refl _) (by unfold maxLen; omega) h8.lt
   clear hkeep hbel
   go_wp2_with (first | (with_reducible refine slPtr (.tmp 8) Tryz.arr_b32 Tryz.one_u8 (by omega) (wn rfl) rfl rfl ?_) | (with_reducible refine convStr (.tmp 33) (mac k t) Tryz.sl_u8.und Tryz.und_u8 Tryz.und_str (wn rfl) rfl rfl hrd ?_))
   go_wp2_with fail
   go_ret
   exact ⟨rfl, hbf⟩
def tagByte (tag : Int) : UInt8 := UInt8.ofNat (tag % 256).toNat
theorem tagByte_int (tag : Int) : ((tagByte tag).toNat : Int) = tag % 256 := by
 unfold tagByte
 rw [ofNat_toNat8 _ (by omega)]
 omega
def partsOf (l : List (List UInt8)) : List UInt8 := (l.map encS).flatten
def inputOf (tag : Int) (l : List (List UInt8)) : List UInt8 := tagByte tag :: partsOf l
def ofDig (tag : Int) (l : List (List UInt8)) : List UInt8 := (sha (inputOf tag l)).take 16
theorem ofDig_len (tag : Int) (l : List (List UInt8)) : (ofDig tag l).length = 16 := by unfold ofDig; rw [List.length_take, sha_len]; rfl
theorem partsOf_next {l : List (List UInt8)} {i : Nat} {p : List UInt8} (h : l[i]? = some p) : partsOf (l.take (i + 1)) = partsOf (l.take i) ++ encS p := by
 have hi := (List.getElem?_eq_some_iff.1 h).1
 have e : l[i] = p := by rw [List.getElem?_eq_getElem hi] at h; exact Option.some.inj h
 unfold partsOf
 rw [List.take_succ_eq_append_getElem hi, e]
 simp
theorem partsOf_le (l : List (List UInt8)) (i : Nat) : (partsOf (l.take i)).length ≤ (partsOf l).length := by
 have e : partsOf l = partsOf (l.take i) ++ partsOf (l.drop i) := by
  unfold partsOf
  rw [← List.flatten_append, ← List.map_append, List.take_append_drop]
 rw [e, List.length_append]; omega
theorem Tryz.arr_b16 : Tryz.prog.underlying 27 = some (.array 16 5) := by kernel_rfl
theorem Tryz.ag_b16 : AgTy Tryz.prog 27 (zerosB 16).toArray 16 := ⟨by kernel_rfl, by kernel_rfl, by simp [zerosB]⟩
def Reads (n : Nat) (xs : List Value) (v : Value) (w : World) : Prop := ∃ A c B, v = .slice A n c ∧ B ≤ w.heap.size ∧ Rd w B 1 A n c xs
theorem Reads.ext {n : Nat} {xs : List Value} {v : Value} {w w' : World} (h : Reads n xs v w) (hE : Ext w w') : Reads n xs v w' := by
 obtain ⟨A, c, B, h1, h2, h3⟩ := h
 exact ⟨A, c, B, h1, Nat.le_trans h2 hE.size, h3.below (hE.mono h2)⟩
def ArrStr (w : World) (g : Nat) (m : List UInt8) : Prop := ∃ blk, StrOK m blk ∧ Arr w g 130 (stCells (stOf m) blk m.length)
def GOf1 (B : Nat) (tb : UInt8) (i : Nat) (v : Value) (w : World) : Prop :=
 match i with
 | 0 => IsStr [] v
 | 3 => Reads 1 (bcs [tb]) v w
 | 4 => v = sv [tb]
 | 5 => IsStr [tb] v
 | 6 => ∃ g, v = .pointer (some ⟨g, 0, none⟩) ∧ Arr w g 130 zeros73 ∧ B ≤ g
 | _ => True
def GOf2 (m p : List UInt8) (i : Nat) (v : Value) (w : World) : Prop :=
 match i with
 | 0 => IsStr m v
 | 2 => Reads (encS p).length (bcs (encS p)) v w
 | 3 => v = sv (encS p)
 | 4 => IsStr (m ++ encS p) v
 | _ => True
theorem of_any (tag : Int) (l : List (List UInt8)) (A : Option Addr) (n c B : Nat) (w : World) (ht : Tabs w) (hr : Rd w B 1 A n c (l.map sv)) (hB : B ≤ w.heap.size) (hlen : (inputOf tag l).length ≤ 1000000000) (hlp : l.length ≤ 1000000000) :
 Calls Tryz.prog 62 #[.int .i64 tag, .slice A n c] w fun e w' => e = .returned (.agg (bcs (ofDig tag l)).toArray) ∧ Below w.heap.size w w' := by
 obtain rfl : l.length = n := by have := hr.len; simpa using this
 have htb := tagByte_int tag
 have HTB := Lib.hid htb
 have hin : inputOf tag l = [tagByte tag] ++ partsOf l := rfl
 have hdl := ofDig_len tag l
 have hod : ofDig tag l = (sha (inputOf tag l)).take 16 := rfl
 have HIN := Lib.hid hin
 have HDL := Lib.hid hdl
 have HOD := Lib.hid hod
 clear htb hin hdl hod
 generalize tagByte tag = tb at *
 generalize ofDig tag l = dig at *
 generalize inputOf tag l = inp at *
 go_enter Tryz.func62, Tryz.ntmps62
 go_wp2_with (with_reducible refine alArr (z := zerosB 16) Tryz.ag_b16 (wn rfl) rfl ?_)
 intro w1 h4 hb
 go_wp2_with fail
 refine aStart kr_ ?_
 replace h4 := h4.drew
 replace hb := hb.drew
 generalize w1.drew = wd at *
 refine aTake (i := 1) (v := .int .i64 tag) rfl kr_ (wn rfl) (fun _ _ _ h => h) (fun w => by kernel_rfl) ?_
 refine aTake (i := 2) (v := .int .u8 (tb.toNat : Int)) rfl kr_ (wn rfl) (fun _ _ _ h => h) (fun w => by rw [HTB.out]; go_simp; rw [IntKind.wrap_u8]) ?_
 refine rgFloat [(0, 9), (3, 12), (4, 13), (5, 14), (6, 5)] (GOf1 wd.heap.size tb) _ 1 rfl kr_ ?mono ?step ?fin
 case mono =>
  intro p hp v w w' h hE
  simp only [List.mem_cons, List.not_mem_nil, or_false] at hp
  rcases hp with rfl | rfl | rfl | rfl | rfl
  ·exact h
  ·exact Reads.ext h hE
  ·exact h
  ·exact h
  ·obtain ⟨g, h1, h2, h3⟩ := h
   exact ⟨g, h1, h2.below hE h2.lt, h3⟩
 case step =>
  intro p hp
  simp only [List.mem_cons, List.not_mem_nil, or_false] at hp
  rcases hp with rfl | rfl | rfl | rfl | rfl
  ·refine ⟨_, rfl, rfl, fun a w' hF hE hG => ?_⟩
   refine callOp 104 [] [] [] kr_ (wn rfl) rfl rfl rfl ?_
   refine (begin_any w').mono ?_
   rintro e w2 ⟨v, rfl, hv, hbv⟩
   exact ⟨v, rfl, ⟨v, rfl, hbv, hv⟩⟩
  ·refine ⟨_, rfl, rfl, fun a w' hF hE hG => ?_⟩
   have hx : a.eval (.tmp 11) = bc tb := (hF.eval 11 kr_).trans kr_
   refine bsRow [bc tb] Tryz.sl_u8 (wn rfl) rfl (by rw [Array.toList_map]; show [(0, a.eval (.tmp 11))] = _; rw [hx]; rfl) rfl (by omega) (by omega) (by intro v hv; rw [List.mem_singleton.1 hv]; rfl) ?_
   intro A5 w5 hrd hb5
   exact ⟨_, rfl, hb5, A5, 1, _, rfl, Nat.le_refl _, hrd⟩
  ·refine ⟨_, rfl, rfl, fun a w' hF hE hG => ?_⟩
   obtain ⟨A5, c5, B5, q1, q2, hrd⟩ : Reads 1 (bcs [tb]) (a.tmps.getD 12 undef) w' := hG (3, 12) (by simp) kr_
   refine convStr (.tmp 12) [tb] Tryz.sl_u8.und Tryz.und_u8 Tryz.und_str (wn rfl) rfl q1 hrd ?_
   exact ⟨_, rfl, Below.refl _ _, rfl⟩
  ·refine ⟨_, rfl, rfl, fun a w' hF hE hG => ?_⟩
   have g1 : IsStr [] (a.tmps.getD 9 undef) := hG (0, 9) (by simp) kr_
   have g2 : a.tmps.getD 13 undef = sv [tb] := hG (4, 13) (by simp) kr_
   refine callOp 105 [a.tmps.getD 9 undef, sv [tb]] [] [] kr_ (wn rfl) rfl rfl (by rw [← g2]; rfl) ?_
   refine (add_any [] [tb] _ w' (ht.below (hb.trans (hE.mono hb.size)) ht.size) g1 (by simp)).mono ?_
   rintro e w2 ⟨v, rfl, hv, hbv⟩
   exact ⟨v, rfl, ⟨v, rfl, hbv, hv⟩⟩
  ·refine ⟨_, rfl, rfl, fun a w' hF hE hG => ?_⟩
   refine alArr (z := zeros73) Tryz.ag_str (wn rfl) rfl fun w2 hA hb2 => ?_
   exact ⟨_, rfl, hb2, _, rfl, hA, hE.size⟩
 case fin =>
  intro a wf hF hE hG
  obtain ⟨blk, hok, q7⟩ : IsStr [tb] (a.tmps.getD 14 undef) := hG (5, 14) (by simp)
  obtain ⟨g5, q8, h5, hg5⟩ := hG (6, 5) (by simp)
  have n45 : w.heap.size ≠ g5 := by have := h4.lt; omega
  replace h4 := h4.below hE h4.lt
  have hsz := hb.size
  replace hb := hb.trans (hE.mono hb.size)
  rw [hF.eq]
  simp only [putsX]
  rw [q7, q8]
  generalize a.tmps.getD 9 undef = x9
  generalize a.tmps.getD 12 undef = x12
  generalize a.tmps.getD 13 undef = x13
  clear hG hF hE
  refine aNext (i := 7) kr_ rfl ?_
  refine stArr (b := g5) (cs := stCells (stOf [tb]) blk [tb].length) (.tmp 5) (.tmp 14) Tryz.ag_str (wn rfl) rfl kr_ kr_ h5 zeros73_len (stCells_len _ _ hok.len) (stCells_one _ _ _) ?_
  intro w2 h5 hkeep hbel
  replace h4 := hkeep _ _ _ n45 h4
  replace hb := hb.trans (hbel _ (by omega))
  clear hkeep hbel
  have hS : ArrStr w2 g5 ([tb] ++ partsOf (l.take 0)) := ⟨blk, hok, h5⟩
  refine aDone kr_ ?_
  simp only [Act.put, List.setIfInBounds_toArray, List.set_cons_succ, List.set_cons_zero]
  clear h5 hok
  have hbg : w.heap.size ≤ g5 := by omega
  go_wp2_with fail
  go_loopw [17] (fun iv_ wr => ∃ i : Nat, i ≤ l.length ∧ iv_ = .int .i64 i ∧ ArrStr wr g5 ([tb] ++ partsOf (l.take i)) ∧ Arr wr w.heap.size 27 (zerosB 16) ∧ Below w.heap.size w wr) (fun iv_ _ => l.length - (intOf iv_).toNat)
  case atStart => exact ⟨0, by omega, rfl, hS, h4, hb⟩
  case round =>
   clear hS h4 hb hg5 hsz
   obtain ⟨i, hi, rfl, hS, h4, hb⟩ := hrel
   have hpl : ([tb] ++ partsOf (l.take i)).length ≤ 1000000000 := by
    have h1 := partsOf_le l i
    have h2 := hlen
    rw [HIN.out] at h2
    rw [List.length_append] at h2 ⊢
    omega
   by_cases hlt : i < l.length
   ·obtain ⟨b, off, u, rfl, hbB, hu, hcell⟩ := (hr.below (hb.mono hB)).at1 hlt
    obtain ⟨p, hp, rfl⟩ : ∃ p : List UInt8, l[i]? = some p ∧ u = .string ⟨p.toArray⟩ := by
     rw [List.getElem?_map] at hu
     obtain ⟨x, hx, hxu⟩ := Option.map_eq_some_iff.1 hu
     exact ⟨x, hx, hxu.symm⟩
    have hnx := partsOf_next hp
    have hpl2 : ([tb] ++ partsOf (l.take i) ++ encS p).length ≤ 1000000000 := by
     have h1 := partsOf_le l (i + 1)
     rw [hnx] at h1
     have h2 := hlen
     rw [HIN.out] at h2
     rw [List.length_append] at h2 h1
     rw [List.length_append, List.length_append]
     omega
    have hpp : p.length ≤ 1000000000 := by
     have : p.length ≤ (encS p).length := by unfold encS; rw [List.length_append]; omega
     rw [List.length_append] at hpl2
     omega
    have HNX := Lib.hid hnx
    clear hnx hp hu
    generalize hmi : [tb] ++ partsOf (l.take i) = m at *
    have HMI := Lib.hid hmi
    clear hmi
    obtain ⟨blk, hok, h5⟩ := hS
    go_wp2_with fail
    refine aStart kr_ ?_
    replace h4 := h4.drew
    replace h5 := h5.drew
    replace hb := hb.drew
    clear hcell
    generalize wr.drew = wd at *
    refine aTake (i := 1) (v := sv p) rfl kr_ (wn rfl) (fun _ _ _ h => h) (fun w => by kernel_rfl) ?_
    refine rgFloat [(0, 21), (2, 23), (3, 24), (4, 25)] (GOf2 m p) _ 1 rfl kr_ ?mono ?step ?fin
    case mono =>
     intro q hq v w w' h hE
     simp only [List.mem_cons, List.not_mem_nil, or_false] at hq
     rcases hq with rfl | rfl | rfl | rfl
     ·exact h
     ·exact Reads.ext h hE
     ·exact h
     ·exact h
    case step =>
     intro q hq
     simp only [List.mem_cons, List.not_mem_nil, or_false] at hq
     rcases hq with rfl | rfl | rfl | rfl
     ·refine ⟨_, rfl, rfl, fun a w' hF hE hG => ?_⟩
      refine ldArr (b := g5) (.tmp 5) Tryz.ag_str (wn rfl) rfl ((hF.eval 5 kr_).trans kr_) (stCells_len _ _ hok.len) (h5.below hE h5.lt) ?_
      exact ⟨_, rfl, Below.refl _ _, blk, hok, rfl⟩
     ·refine ⟨_, rfl, rfl, fun a w' hF hE hG => ?_⟩
      refine callOp 29 [sv p] [] [] kr_ (wn rfl) rfl rfl (by show [a.eval (.tmp 22)] = _; rw [hF.eval 22 kr_]; kernel_rfl) ?_
      refine (bytes_any p w' (by omega)).mono ?_
      rintro e w2 hret
      obtain ⟨A5, c5, rfl, _, hrd, hb2⟩ := hret.open
      exact ⟨_, rfl, ⟨_, rfl, hb2, A5, c5, _, rfl, Nat.le_refl _, hrd⟩⟩
     ·refine ⟨_, rfl, rfl, fun a w' hF hE hG => ?_⟩
      obtain ⟨A5, c5, B5, q1, q2, hrd⟩ : Reads (encS p).length (bcs (encS p)) (a.tmps.getD 23 undef) w' := hG (2, 23) (by simp) kr_
      refine convStr (.tmp 23) (encS p) Tryz.sl_u8.und Tryz.und_u8 Tryz.und_str (wn rfl) rfl q1 hrd ?_
      exact ⟨_, rfl, Below.refl _ _, rfl⟩
     ·refine ⟨_, rfl, rfl, fun a w' hF hE hG => ?_⟩
      have g1 : IsStr m (a.tmps.getD 21 undef) := hG (0, 21) (by simp) kr_
      have g2 : a.tmps.getD 24 undef = sv (encS p) := hG (3, 24) (by simp) kr_
      refine callOp 105 [a.tmps.getD 21 undef, sv (encS p)] [] [] kr_ (wn rfl) rfl rfl (by rw [← g2]; rfl) ?_
      refine (add_any m (encS p) _ w' (ht.below (hb.trans (hE.mono hb.size)) ht.size) g1 (by rw [List.length_append] at hpl2; omega)).mono ?_
      rintro e w2 ⟨v, rfl, hv, hbv⟩
      exact ⟨v, rfl, ⟨v, rfl, hbv, hv⟩⟩
    case fin =>
     intro a wf hF hE hG
     obtain ⟨blk2, hok2, q7⟩ : IsStr (m ++ encS p) (a.tmps.getD 25 undef) := hG (4, 25) (by simp)
     replace h4 := h4.below hE h4.lt
     replace h5 := h5.below hE h5.lt
     replace hb := hb.trans (hE.mono hb.size)
     rw [hF.eq]
     simp only [putsX]
     rw [q7]
     generalize a.tmps.getD 21 undef = x21
     generalize a.tmps.getD 23 undef = x23
     generalize a.tmps.getD 24 undef = x24
     clear hG hF hE
     refine aNext (i := 5) kr_ rfl ?_
     refine stArr (b := g5) (cs := stCells (stOf (m ++ encS p)) blk2 (m ++ encS p).length) (.tmp 5) (.tmp 25) Tryz.ag_str (wn rfl) rfl kr_ kr_ h5 (stCells_len _ _ hok.len) (stCells_len _ _ hok2.len) (stCells_one _ _ _) ?_
     intro w2 h5 hkeep hbel
     replace h4 := hkeep _ _ _ n45 h4
     replace hb := hb.trans (hbel _ hbg)
     clear hkeep hbel
     refine aDone kr_ ?_
     simp only [Act.put, List.setIfInBounds_toArray, List.set_cons_succ, List.set_cons_zero]
     have hS : ArrStr w2 g5 ([tb] ++ partsOf (l.take (i + 1))) := by
      rw [HNX.out, ← List.append_assoc, HMI.out]
      exact ⟨blk2, hok2, h5⟩
     clear h5 hok hok2
     go_wp2_with fail
     go_roundw
     case rel => exact ⟨i + 1, by omega, by go_num, hS, h4, hb⟩
     case measure => (simp [intOf]; try omega)
   ·obtain rfl : i = l.length := by omega
    rw [List.take_of_length_le (Nat.le_refl _), ← HIN.out] at hS
    obtain ⟨blk, hok, h5⟩ := hS
    clear hpl hlt
    have hsha := sha_len (inp)
    have HSL := Lib.hid (show (bcs (sha (inp))).length = 32 by rw [bcs_length]; exact hsha)
    have hpre : ∀ (j : Nat) (u : Value), (bcs (dig))[j]? = some u → (bcs (sha (inp)))[j]? = some u := by
     intro j u hu
     rw [HOD.out] at hu
     have hj : j < 16 := by have := (List.getElem?_eq_some_iff.1 hu).1; rw [bcs_length, List.length_take] at this; omega
     unfold bcs at hu ⊢
     rw [List.map_take, List.getElem?_take, if_pos hj] at hu
     exact hu
    have HPRE := Lib.hid hpre
    have HDB := Lib.hid (show (bcs (dig)).length = 16 by rw [bcs_length]; exact HDL.out)
    clear hsha hpre
    go_wp2_with (with_reducible refine ldArr (.tmp 5) Tryz.ag_str (wn rfl) rfl rfl (stCells_len _ _ hok.len) h5 ?_)
    refine (strSum_any inp _ wr (ht.below hb ht.size) ⟨blk, hok, rfl⟩ (by omega)).mono ?_
    rintro e w2 ⟨rfl, hb2⟩
    replace h4 := h4.below hb2 h4.lt
    replace hb := hb.trans (hb2.mono hb.size)
    clear hb2 h5 hok
    go_wp2_with (with_reducible refine alArr (z := zerosB 32) Tryz.ag_b32 (wn rfl) rfl ?_)
    intro w3 h8 hb3
    have h48 := h4.lt
    replace h4 := h4.below hb3 h4.lt
    replace hb := hb.trans (hb3.mono hb.size)
    clear hb3
    generalize w2.heap.size = g8 at *
    go_wp2_with (with_reducible refine stArr (cs := bcs (sha inp)) (.tmp 8) (.tmp 28) Tryz.ag_b32 (wn rfl) rfl rfl rfl h8 (zerosB_len _) HSL.out (bcs_one _) ?_)
    intro w4 h8 hkeep hbel
    replace h4 := hkeep _ _ _ (by omega) h4
    replace hb := hb.trans (hbel _ (by omega))
    clear hkeep hbel
    go_wp2_with (first | (with_reducible refine saPtr (.tmp 29) Tryz.arr_b16 (wn rfl) rfl rfl (by omega) ?_) | (with_reducible refine ldAgg (b := g8) (off := 0) (.tmp 30) (bcs dig) Tryz.ag_b16 (wn rfl) rfl rfl HDB.out (fun j u hu => by rw [Nat.zero_add]; exact h8.cell (HPRE.out j u hu)) ?_) | (with_reducible refine stArr (cs := bcs dig) (.tmp 4) (.tmp 31) Tryz.ag_b16 (wn rfl) rfl rfl rfl h4 (zerosB_len _) HDB.out (bcs_one _) ?_))
    intro w5 h4 hkeep hbel
    go_wp2_with fail
    refine bodyPost_ret (v := .agg (bcs dig).toArray) ?_ rfl ⟨rfl, hb.trans (hbel _ (by omega))⟩
    exact res_cell1 (bcs dig) Tryz.results62 Tryz.ag_b16 _ rfl HDB.out (fun j u hu => by rw [Nat.zero_add]; exact h4.cell hu)
theorem xorPad_next {k : List UInt8} {i : Nat} {b : UInt8} (x : UInt8) (h : (keyPad k)[i]? = some b) : bcs ((xorPad k x).take i) ++ [bc (b ^^^ x)] = bcs ((xorPad k x).take (i + 1)) := by
 have h2 : (xorPad k x)[i]? = some (b ^^^ x) := by unfold xorPad; rw [List.getElem?_map, h]; rfl
 rw [bcs_snoc, take_next h2]
theorem keyPad_lo {k : List UInt8} {i : Nat} (h : i < k.length) : (keyPad k)[i]? = some k[i] := by
 unfold keyPad
 rw [List.getElem?_append_left h, List.getElem?_eq_getElem h]
theorem keyPad_hi {k : List UInt8} {i : Nat} (h : k.length ≤ i) (h64 : i < 64) : (keyPad k)[i]? = some 0 := by
 unfold keyPad
 rw [List.getElem?_append_right h, List.getElem?_replicate, if_pos (by omega)]
theorem padKey_any (k : List UInt8) (x : UInt8) (w : World) (ht : TabsR w) (hk : k.length ≤ 100000000) :
 Calls Tryz.prog 120 #[sv k, .int .u8 (x.toNat : Int)] w (RetRow w 5 1 64 (bcs (xorPad (macKey k) x))) := by
 unfold sv
 go_enter Tryz.func120, Tryz.ntmps120
 have hb : Below w.heap.size w w := Below.refl _ _
 go_upto_if 12 with (fail)
 go_cut [5] (fun s5 wc => s5 = .string ⟨(macKey k).toArray⟩ ∧ Below w.heap.size w wc)
 case first =>
  by_cases hlong : 64 < k.length
  ·have hmk : macKey k = sha k := by unfold macKey; rw [if_pos hlong]
   have HM := Lib.hid hmk
   have hl32 := sha_len k
   clear hmk
   go_wp2_with (with_reducible refine convBs (.tmp 13) k Tryz.und_str Tryz.sl_u8.und Tryz.und_u8 (wn rfl) rfl rfl (by omega) ?_)
   intro A5 c5 w5 hrd hb5
   replace hb := hb.trans (hb5.mono hb.size)
   clear hb5
   go_wp2_with fail
   refine (refSum_any k A5 _ c5 _ w5 (ht.below hb ht.size) hrd (Nat.le_refl _) (by omega)).mono ?_
   rintro e w6 ⟨rfl, hb6⟩
   replace hb := hb.trans (hb6.mono hb.size)
   clear hb6 hrd
   go_wp2_with fail
   refine (bytes32_any (sha k) w6 hl32).mono ?_
   rintro e w7 ⟨rfl, hb7⟩
   replace hb := hb.trans (hb7.mono hb.size)
   clear hb7
   unfold sv
   go_wp2_with fail
   go_meet
   case rel => exact ⟨by rw [HM.out], hb⟩
  ·have hmk : macKey k = k := by unfold macKey; rw [if_neg hlong]
   have HM := Lib.hid hmk
   clear hmk
   go_wp2_with fail
   go_meet
   case rel => exact ⟨by rw [HM.out], hb⟩
 case rest =>
  clear hb
  obtain ⟨rfl, hb⟩ := hcut
  have hkl := macKey_le k
  generalize macKey k = key at *
  have p2 := xorPad_len x hkl
  have P2 := Lib.hid p2
  clear p2
  have hx := x.toNat_lt
  go_wp2_with fail
  go_loopw [6, 7] (fun v iv_ wr => ∃ i : Nat, i ≤ 64 ∧ iv_ = .int .i64 i ∧ wr.ownsRow w.heap.size 5 1 v i (bcs ((xorPad key x).take i)) ∧ Below w.heap.size w wr) (fun _ iv_ _ => 64 - (intOf iv_).toNat)
  case atStart => exact ⟨0, by omega, rfl, World.ownsRow_nil _ _ _ _, hb⟩
  case round =>
   clear hb
   obtain ⟨i, hi, rfl, hown, hb⟩ := hrel
   by_cases hlt : i < 64
   ·by_cases hik : i < key.length
    ·have hnx := xorPad_next x (keyPad_lo hik)
     have HNX := Lib.hid hnx
     have hyl := key[i].toNat_lt
     clear hnx
     go_wp2_with (at_builtin; with_reducible refine app1 _ _ Tryz.sl_u8 (wn rfl) rfl rfl rfl hown hb (Nat.le_refl _) rfl (by omega) (by omega) ?_)
     intro v' w' h3 h4 _
     replace h3 : w'.ownsRow w.heap.size 5 1 v' (i + 1) (bcs ((xorPad key x).take (i + 1))) := by rw [show ((⟨key.toArray⟩ : ByteArray)[i]'(by simpa [ByteArray.size] using hik)) = key[i] from rfl, xor_bc, HNX.out] at h3; exact h3
     clear hown hb
     go_wp2_with fail
     go_roundw
     case rel => exact ⟨i + 1, by omega, by go_num, h3, h4⟩
     case measure => (simp [intOf]; try omega)
    ·have hnx := xorPad_next x (keyPad_hi (i := i) (Nat.le_of_not_lt hik) hlt)
     have HNX := Lib.hid hnx
     clear hnx
     go_wp2_with (at_builtin; with_reducible refine app1 _ _ Tryz.sl_u8 (wn rfl) rfl rfl rfl hown hb (Nat.le_refl _) rfl (by omega) (by omega) ?_)
     intro v' w' h3 h4 _
     replace h3 : w'.ownsRow w.heap.size 5 1 v' (i + 1) (bcs ((xorPad key x).take (i + 1))) := by rw [show (Value.int .u8 (bits .xor .u8 0 (x.toNat : Int))) = bc (0 ^^^ x) from xor_bc 0 x, HNX.out] at h3; exact h3
     clear hown hb
     go_wp2_with fail
     go_roundw
     case rel => exact ⟨i + 1, by omega, by go_num, h3, h4⟩
     case measure => (simp [intOf]; try omega)
   ·obtain rfl : i = 64 := by omega
    rw [List.take_of_length_le (by rw [P2.out]; exact Nat.le_refl _)] at hown
    go_wp2_with fail
    go_ret
    exact ⟨_, rfl, hown, hb⟩
theorem refMac_any (k t : List UInt8) (w : World) (ht : TabsR w) (hk : k.length ≤ 100000000) (htl : t.length ≤ 100000000) : Calls Tryz.prog 113 #[sv k, sv t] w fun e w' => e = .returned (sv (mac k t)) ∧ Below w.heap.size w w' := by
 unfold sv
 have q1 : Calls Tryz.prog 120 #[.string ⟨k.toArray⟩, .int .u8 54] w _ := padKey_any k 54 w ht hk
 have p1 := xorPad_len 54 (macKey_le k)
 have p2 := xorPad_len 92 (macKey_le k)
 have hmac : sha (xorPad (macKey k) 92 ++ sha (xorPad (macKey k) 54 ++ t)) = mac k t := rfl
 have HMAC := Lib.hid hmac
 have hsz : (⟨t.toArray⟩ : ByteArray).size = t.length := by simp [ByteArray.size]
 clear hmac
 generalize hM : mac k t = M at *
 clear hM
 have HS := Lib.hid (show ByteArray.size ⟨t.toArray⟩ = t.length from hsz)
 go_enter Tryz.func113, Tryz.ntmps113
 go_wp2_with fail
 refine q1.mono ?_
 rintro e w1 hret
 obtain ⟨A1, c1, rfl, hown, hr, hb⟩ := hret.open
 clear hret q1 hr
 go_wp2_with (at_builtin; with_reducible refine appS _ _ ⟨t.toArray⟩ Tryz.sl_u8 Tryz.und_str (wn rfl) rfl rfl rfl hown hb (Nat.le_refl _) (by rw [hsz]; omega) ?_)
 intro v2 w2 hown2 hb2 _
 clear hown hb
 obtain ⟨A2, c2, rfl, hr2⟩ := Rd.of_own hown2
 rw [← bcs_append] at hr2
 clear hown2
 have q2 : Calls Tryz.prog 120 #[.string ⟨k.toArray⟩, .int .u8 92] w2 _ := padKey_any k 92 w2 (ht.below hb2 ht.size) hk
 go_wp2_with fail
 refine q2.mono ?_
 rintro e w3 hret
 obtain ⟨A3, c3, rfl, hown3, _, hb3⟩ := hret.open
 replace hr2 := hr2.below hb3
 have hsz2 := hb3.size
 clear hret q2
 go_wp2_with fail
 refine (refSum_any (xorPad (macKey k) 54 ++ t) A2 _ c2 _ w3 (ht.below (hb2.trans (hb3.mono hb2.size)) ht.size) hr2 hsz2 (by omega)).mono ?_
 rintro e w4 ⟨rfl, hb4⟩
 have hown4 := ownsRow_below hown3 hb4 (Nat.le_refl _)
 replace hb3 := hb3.trans (hb4.mono hb3.size)
 have hi := sha_len (xorPad (macKey k) 54 ++ t)
 clear hb4 hown3 hr2
 generalize sha (xorPad (macKey k) 54 ++ t) = inner at *
 go_wp2_with fail
 refine (bytes32_any inner w4 hi).mono ?_
 rintro e w5 ⟨rfl, hb5⟩
 have hown5 := ownsRow_below hown4 hb5 (Nat.le_refl _)
 replace hb3 := hb3.trans (hb5.mono hb3.size)
 clear hb5 hown4
 have hsi : (⟨inner.toArray⟩ : ByteArray).size = 32 := by simp [ByteArray.size, hi]
 unfold sv
 go_wp2_with (at_builtin; with_reducible refine appS _ _ ⟨inner.toArray⟩ Tryz.sl_u8 Tryz.und_str (wn rfl) rfl rfl rfl hown5 hb3 (Nat.le_refl _) (by rw [hsi]; omega) ?_)
 intro v6 w6 hown6 hb6 _
 clear hown5 hb3
 obtain ⟨A6, c6, rfl, hr6⟩ := Rd.of_own hown6
 rw [← bcs_append] at hr6
 have hsz6 := hb6.size
 replace hb6 := hb2.trans (hb6.mono hb2.size)
 clear hown6
 go_wp2_with fail
 refine (refSum_any (xorPad (macKey k) 92 ++ inner) A6 _ c6 _ w6 (ht.below hb6 ht.size) hr6 (Nat.le_refl _) (by omega)).mono ?_
 rintro e w7 ⟨rfl, hb7⟩
 replace hb6 := hb6.trans (hb7.mono hb6.size)
 rw [HMAC.out]
 have hml : M.length = 32 := by rw [← HMAC.out]; exact sha_len _
 clear hb7 hr6
 go_wp2_with fail
 refine (bytes32_any M w7 hml).mono ?_
 rintro e w8 ⟨rfl, hb8⟩
 replace hb6 := hb6.trans (hb8.mono hb6.size)
 go_wp2_with fail
 go_ret
 exact ⟨rfl, hb6⟩
theorem input_any (tag : Int) (l : List (List UInt8)) (A : Option Addr) (n c B : Nat) (w : World) (hr : Rd w B 1 A n c (l.map sv)) (hB : B ≤ w.heap.size) (hlen : (inputOf tag l).length ≤ 1000000000) (hlp : l.length ≤ 1000000000) :
 Calls Tryz.prog 108 #[.int .i64 tag, .slice A n c] w (RetRow w 5 1 (inputOf tag l).length (bcs (inputOf tag l))) := by
 obtain rfl : l.length = n := by have := hr.len; simpa using this
 have htb := tagByte_int tag
 have hin : inputOf tag l = [tagByte tag] ++ partsOf l := rfl
 have HIN := Lib.hid hin
 have HTB : Hid (bcs [tagByte tag] = [.int .u8 (tag % 256)]) := by show _ = _; rw [← htb]; rfl
 have HLEN := Lib.hid hlen
 clear htb hin hlen
 generalize tagByte tag = tb at *
 generalize inputOf tag l = inp at *
 have hown0 := World.ownsRow_lit (base := w.heap.size) (e := 5) (size := 1) w #[.int .u8 (tag % 256)] 1 (Nat.le_refl _) (by unfold maxLen; omega) rfl
 have hb0 : Below w.heap.size w (w.alloc (.cells #[.int .u8 (tag % 256)] 5)) := (Below.refl _ _).alloc (Nat.le_refl _) _
 replace hown0 := ownsRow_count (xs' := bcs ([tb] ++ partsOf (l.take 0))) (n' := ([tb] ++ partsOf (l.take 0)).length) hown0 rfl (by rw [show [tb] ++ partsOf (l.take 0) = [tb] from rfl, HTB.out])
 go_enter Tryz.func108, Tryz.ntmps108
 go_wp2_with fail
 go_loopw [5, 6] (fun v iv_ wr => ∃ i : Nat, i ≤ l.length ∧ iv_ = .int .i64 i ∧ wr.ownsRow w.heap.size 5 1 v ([tb] ++ partsOf (l.take i)).length (bcs ([tb] ++ partsOf (l.take i))) ∧ Below w.heap.size w wr) (fun _ iv_ _ => l.length - (intOf iv_).toNat)
 case atStart => exact ⟨0, by omega, rfl, hown0, hb0⟩
 case round =>
  clear hown0 hb0
  obtain ⟨i, hi, rfl, hown, hb⟩ := hrel
  by_cases hlt : i < l.length
  ·obtain ⟨b, off, u, rfl, hbB, hu, hcell⟩ := (hr.below (hb.mono hB)).at1 hlt
   obtain ⟨p, hp, rfl⟩ : ∃ p : List UInt8, l[i]? = some p ∧ u = .string ⟨p.toArray⟩ := by
    rw [List.getElem?_map] at hu
    obtain ⟨x, hx, hxu⟩ := Option.map_eq_some_iff.1 hu
    exact ⟨x, hx, hxu.symm⟩
   have hnx := partsOf_next hp
   have hpl2 : ([tb] ++ partsOf (l.take i)).length + (encS p).length ≤ 1000000000 := by
    have h1 := partsOf_le l (i + 1)
    rw [hnx, List.length_append] at h1
    have h2 := HLEN.out
    rw [HIN.out, List.length_append] at h2
    rw [List.length_append]
    omega
   have hpp : p.length ≤ 1000000000 := by
    have : p.length ≤ (encS p).length := by unfold encS; rw [List.length_append]; omega
    omega
   have HNX : Hid (([tb] ++ partsOf (l.take i)) ++ encS p = [tb] ++ partsOf (l.take (i + 1))) := by show _ = _; rw [hnx, List.append_assoc]
   clear hnx hp hu
   generalize hmi : [tb] ++ partsOf (l.take i) = m at *
   clear hmi
   have q1 := refBytes_any p wr (by omega)
   unfold sv at q1
   go_wp2_with fail
   refine q1.mono ?_
   rintro e w2 hret
   obtain ⟨A5, c5, rfl, _, hrd, hb2⟩ := hret.open
   have hown2 := ownsRow_below hown hb2 (Nat.le_refl _)
   replace hb := hb.trans (hb2.mono hb.size)
   clear hown hb2 hret q1 hcell
   go_wp2_with (at_builtin; with_reducible refine appR _ _ Tryz.sl_u8 (wn rfl) rfl rfl rfl hown2 hrd (bcs_one _) hb (Nat.le_refl _) (by omega) (by omega) ?_)
   intro v3 w3 hown3 hb3 _
   clear hown2 hb hrd
   replace hown3 := ownsRow_count (xs' := bcs ([tb] ++ partsOf (l.take (i + 1)))) (n' := ([tb] ++ partsOf (l.take (i + 1))).length) hown3 (by rw [← HNX.out, List.length_append]) (by rw [← HNX.out, bcs_append])
   go_wp2_with fail
   go_roundw
   case rel => exact ⟨i + 1, by omega, by go_num, hown3, hb3⟩
   case measure => (simp [intOf]; try omega)
  ·obtain rfl : i = l.length := by omega
   rw [List.take_of_length_le (Nat.le_refl _), ← HIN.out] at hown
   go_wp2_with fail
   go_ret
   exact ⟨_, rfl, hown, hb⟩
theorem set_pad {d : List UInt8} {n i : Nat} {b : UInt8} (hb : d[i]? = some b) (hn : i < n) : (bcs (d.take i ++ List.replicate (n - i) 0)).set i (bc b) = bcs (d.take (i + 1) ++ List.replicate (n - (i + 1)) 0) := by
 have hi := (List.getElem?_eq_some_iff.1 hb).1
 have e5 : ∀ (p q : List Value) (x y : Value), (p ++ x :: q).set p.length y = p ++ y :: q := by
  intro p q x y
  induction p with
  | nil => rfl
  | cons a p ih => simp
 have hl : (bcs (d.take i)).length = i := by rw [bcs_length, List.length_take]; omega
 have h3 := e5 (bcs (d.take i)) (bcs (List.replicate (n - (i + 1)) 0)) (bc 0) (bc b)
 rw [hl] at h3
 rw [show n - i = (n - (i + 1)) + 1 from by omega, List.replicate_succ, ← take_next hb, bcs_append, bcs_append, bcs_append, List.append_assoc]
 exact h3
theorem pad_at (d : List UInt8) (i n : Nat) (h1 : i ≤ d.length) (h2 : i < n) : (bcs (d.take i ++ List.replicate (n - i) 0))[i]? = some (.int .u8 0) := by
 have hl : (d.take i).length = i := by rw [List.length_take]; omega
 have h : (d.take i ++ List.replicate (n - i) 0)[i]? = some (0 : UInt8) := by
  rw [List.getElem?_append_right (by omega), hl, List.getElem?_replicate, if_pos (by omega)]
 unfold bcs
 rw [List.getElem?_map, h]
 rfl
theorem zeros_pad (d : List UInt8) : zerosB 16 = bcs (d.take 0 ++ List.replicate (16 - 0) 0) := rfl
theorem short_any (l : List UInt8) (A : Option Addr) (n c B : Nat) (w : World) (ht : TabsR w) (hr : Rd w B 1 A n c (bcs l)) (hB : B ≤ w.heap.size) (hn : n ≤ 1000000000) :
 Calls Tryz.prog 107 #[.slice A n c] w fun e w' => e = .returned (.agg (bcs ((sha l).take 16)).toArray) ∧ Below w.heap.size w w' := by
 have HS := Lib.hid (show (bcs (sha l)).length = 32 by rw [bcs_length]; exact sha_len l)
 have HD := Lib.hid (show (bcs ((sha l).take 16)).length = 16 by rw [bcs_length, List.length_take, sha_len]; rfl)
 go_enter Tryz.func107, Tryz.ntmps107
 go_wp2_with (with_reducible refine alArr (z := zerosB 16) Tryz.ag_b16 (wn rfl) rfl ?_)
 intro w1 h2 hb
 replace hr := hr.below (hb.mono hB)
 have hB1 := Nat.le_trans hB hb.size
 go_wp2_with fail
 refine (refSum_any l A n c B w1 (ht.below hb ht.size) hr hB1 (by omega)).mono ?_
 rintro e w2 ⟨rfl, hb2⟩
 replace h2 := h2.below hb2 h2.lt
 replace hb := hb.trans (hb2.mono hb.size)
 clear hb2 hr
 go_wp2_with (with_reducible refine alArr (z := zerosB 32) Tryz.ag_b32 (wn rfl) rfl ?_)
 intro w3 h3 hb3
 have n23 := h2.lt
 have n2 : w.heap.size ≤ w2.heap.size := hb.size
 replace h2 := h2.below hb3 h2.lt
 replace hb := hb.trans (hb3.mono hb.size)
 clear hb3
 generalize w2.heap.size = g3 at *
 go_wp2_with (with_reducible refine stArr (cs := bcs (sha l)) (.tmp 3) (.tmp 7) Tryz.ag_b32 (wn rfl) rfl rfl rfl h3 (zerosB_len _) HS.out (bcs_one _) ?_)
 intro w4 h3 hkeep hbel
 replace h2 := hkeep _ _ _ (by omega) h2
 replace hb := hb.trans (hbel _ (by omega))
 clear hkeep hbel
 have h4 : Arr (w4.alloc (.cells (zerosB 16).toArray 27)) w4.heap.size 27 (zerosB 16) := Arr.new w4 _ _
 have hb5 : Below w4.heap.size w4 (w4.alloc (.cells (zerosB 16).toArray 27)) := (Below.refl _ _).alloc (Nat.le_refl _) _
 have n34 := h3.lt
 replace h2 := h2.below hb5 h2.lt
 replace h3 := h3.below hb5 h3.lt
 have n4 : w.heap.size ≤ w4.heap.size := hb.size
 replace hb := hb.trans (hb5.mono hb.size)
 rw [zeros_pad (sha l)] at h4
 clear hb5
 go_wp2_with fail
 generalize w4.heap.size = g4 at *
 go_loopw [5] (fun iv_ wr => ∃ i : Nat, i ≤ 16 ∧ iv_ = .int .i64 i ∧ Arr wr w.heap.size 27 (zerosB 16) ∧ Arr wr g3 133 (bcs (sha l)) ∧ Arr wr g4 27 (bcs ((sha l).take i ++ List.replicate (16 - i) 0)) ∧ Below w.heap.size w wr) (fun iv_ _ => 16 - (intOf iv_).toNat)
 case atStart => exact ⟨0, by omega, rfl, h2, h3, h4, hb⟩
 case round =>
  clear h2 h3 h4 hb
  obtain ⟨i, hi, rfl, h2, h3, h4, hb⟩ := hrel
  by_cases hlt : i < 16
  ·obtain ⟨b, hb1, hb2⟩ := bcs_at (l := sha l) (i := i) (by rw [sha_len]; omega)
   have hc : wr.cell? ⟨g3, i, none⟩ = some (.int .u8 (b.toNat : Int)) := h3.cell hb2
   have hc4 : wr.cell? ⟨g4, i, none⟩ = some (.int .u8 0) := h4.cell (pad_at (sha l) i 16 (by rw [sha_len]; omega) hlt)
   have hf := h4.thaw i
   have hnx := set_pad hb1 hlt
   have HNX := Lib.hid hnx
   clear hnx hb1 hb2
   go_wp2_with fail
   go_roundw
   case rel => exact ⟨i + 1, by omega, by go_num, h2.other (by omega) i _, h3.other (by omega) i _, by rw [← HNX.out]; exact h4.set i _, hb.setCell (p := ⟨g4, i, none⟩) (by show w.heap.size ≤ g4; omega) _⟩
   case measure => (simp [intOf]; try omega)
  ·obtain rfl : i = 16 := by omega
   rw [show (sha l).take 16 ++ List.replicate (16 - 16) 0 = (sha l).take 16 from by simp] at h4
   go_wp2_with (first | (with_reducible refine ldArr (.tmp 4) Tryz.ag_b16 (wn rfl) rfl rfl HD.out h4 ?_) | (with_reducible refine stArr (cs := bcs ((sha l).take 16)) (.tmp 2) (.tmp 18) Tryz.ag_b16 (wn rfl) rfl rfl rfl h2 (zerosB_len _) HD.out (bcs_one _) ?_))
   intro w5 h2 hkeep hbel
   go_wp2_with fail
   refine bodyPost_ret (v := .agg (bcs ((sha l).take 16)).toArray) ?_ rfl ⟨rfl, hb.trans (hbel _ (Nat.le_refl _))⟩
   exact res_cell1 (bcs ((sha l).take 16)) Tryz.results107 Tryz.ag_b16 _ rfl HD.out (fun j u hu => by rw [Nat.zero_add]; exact h2.cell hu)
theorem refOf_any (tag : Int) (l : List (List UInt8)) (A : Option Addr) (n c B : Nat) (w : World) (ht : TabsR w) (hr : Rd w B 1 A n c (l.map sv)) (hB : B ≤ w.heap.size) (hlen : (inputOf tag l).length ≤ 1000000000) (hlp : l.length ≤ 1000000000) :
 Calls Tryz.prog 63 #[.int .i64 tag, .slice A n c] w fun e w' => e = .returned (.agg (bcs (ofDig tag l)).toArray) ∧ Below w.heap.size w w' := by
 have hod : (sha (inputOf tag l)).take 16 = ofDig tag l := rfl
 have HOD := Lib.hid hod
 have HD := Lib.hid (show (bcs (ofDig tag l)).length = 16 by rw [bcs_length]; exact ofDig_len tag l)
 clear hod
 generalize ofDig tag l = dig at *
 go_enter Tryz.func63, Tryz.ntmps63
 go_wp2_with (with_reducible refine alArr (z := zerosB 16) Tryz.ag_b16 (wn rfl) rfl ?_)
 intro w1 h4 hb
 go_wp2_with fail
 refine (input_any tag l A n c B w1 (hr.below (hb.mono hB)) (Nat.le_trans hB hb.size) hlen hlp).mono ?_
 rintro e w2 hret
 obtain ⟨A2, c2, rfl, _, hrd, hb2⟩ := hret.open
 replace h4 := h4.below hb2 h4.lt
 replace hb := hb.trans (hb2.mono hb.size)
 clear hb2 hret
 go_wp2_with fail
 refine (short_any (inputOf tag l) A2 _ c2 _ w2 (ht.below hb ht.size) hrd (Nat.le_refl _) hlen).mono ?_
 rintro e w3 ⟨rfl, hb3⟩
 replace h4 := h4.below hb3 h4.lt
 replace hb := hb.trans (hb3.mono hb.size)
 rw [HOD.out]
 clear hb3 hrd
 go_wp2_with (with_reducible refine stArr (cs := bcs dig) (.tmp 4) (.tmp 8) Tryz.ag_b16 (wn rfl) rfl rfl rfl h4 (zerosB_len _) HD.out (bcs_one _) ?_)
 intro w4 h4 hkeep hbel
 go_wp2_with fail
 refine bodyPost_ret (v := .agg (bcs dig).toArray) ?_ rfl ⟨rfl, hb.trans (hbel _ (Nat.le_refl _))⟩
 exact res_cell1 (bcs dig) Tryz.results63 Tryz.ag_b16 _ rfl HD.out (fun j u hu => by rw [Nat.zero_add]; exact h4.cell hu)
theorem listInt_any (l : List Int) (A : Option Addr) (n c B : Nat) (w : World) (hr : Rd w B 1 A n c (l.map iv)) (hB : B ≤ w.heap.size) (hl : ∀ x ∈ l, isI64 x) (hlen : (encI l).length ≤ 70368744177664) :
 Calls Tryz.prog 96 #[.slice A n c, .func (.func 66) #[] #[]] w (RetRow w 5 1 (encI l).length (bcs (encI l))) := by
 obtain rfl : l.length = n := by have := hr.len; simpa using this
 have hcap := hr.cap
 have hle := hr.le
 have hcb : (enc l.length).length + (l.map enc).flatten.length = (encI l).length := by simp [encI]
 have HCB := Lib.hid hcb
 unfold maxLen at hcap
 go_enter Tryz.func96, Tryz.ntmps96
 go_wp2_with fail
 refine (int_any _ _ (by omega) (by omega)).mono ?_
 rintro e w1 ⟨v, rfl, hown, hb⟩
 clear hcb
 go_wp2_with fail
 go_loopw [5, 13] (fun v i wr => ∃ k : Nat, k ≤ l.length ∧ i = .int .i64 k ∧ wr.ownsRow w.heap.size 5 1 v (enc l.length ++ ((l.take k).map enc).flatten).length (bcs (enc l.length ++ ((l.take k).map enc).flatten)) ∧ Below w.heap.size w wr)
  (fun _ i _ => l.length - (intOf i).toNat)
 case atStart => exact ⟨0, Nat.zero_le _, rfl, by simpa using hown, hb⟩
 case round =>
  clear hown hb
  obtain ⟨k, hk, rfl, hown, hb⟩ := hrel
  by_cases hlt : k < l.length
  ·obtain ⟨b, off, u, rfl, hbB, hu, hcell⟩ := hr.at1 hlt
   obtain ⟨x, hx, rfl⟩ : ∃ x, l[k]? = some x ∧ u = .int .i64 x := by
    rw [List.getElem?_map] at hu
    obtain ⟨x, hx, hxu⟩ := Option.map_eq_some_iff.1 hu
    exact ⟨x, hx, hxu.symm⟩
   have hcell' := (hb.cell (p := ⟨b, off + k, none⟩) (by show b < _; omega)).trans hcell
   obtain ⟨hx1, hx2⟩ := hl x (List.mem_of_getElem? hx)
   have hft := flat_take enc l k x hx
   have hfl := flat_take_le enc l (k + 1)
   have HF := Lib.hid hft
   have HX := Lib.hid hx
   have hel := enc_len x
   have HN : (enc l.length ++ ((l.take k).map enc).flatten).length ≤ 70368744177664 - (enc x).length := by
    have := HCB.out; rw [hft, List.length_append] at hfl; rw [List.length_append]; omega
   clear hft hfl hx hu hcell
   go_wp2_with fail
   refine (int_any _ _ hx1 hx2).mono ?_
   rintro e w1 hret
   obtain ⟨A1, c1, rfl, hown1, hrd1, hb1⟩ := hret.open
   have hownw := ownsRow_below hown hb1 (Nat.le_refl _)
   have hbw := hb.trans (hb1.mono hb.size)
   clear hret hown hb hb1 hown1
   go_wp2_with (at_builtin; with_reducible refine appR _ _ Tryz.sl_u8 (wn rfl) rfl rfl rfl hownw hrd1 (bcs_one _) hbw (Nat.le_refl _) (by omega) (by omega) ?_)
   intro v' w' h3 h4 _
   clear hownw hbw hrd1 hcell'
   go_wp2
   go_roundw
   case rel =>
    refine ⟨k + 1, by omega, by go_num, ?_, h4⟩
    rw [HF.out]
    exact ownsRow_count h3 (by simp; omega) (by simp [bcs_append])
   case measure => simp [intOf]; omega
  ·obtain rfl : k = l.length := by omega
   have HS := Lib.hid (show enc l.length ++ ((l.take l.length).map enc).flatten = encI l by simp [encI])
   clear hlt
   go_wp2
   go_ret
   rw [HS.out] at hown
   exact ⟨_, rfl, hown, hb⟩
theorem refInts_any (l : List Int) (A : Option Addr) (n c B : Nat) (w : World) (hr : Rd w B 1 A n c (l.map iv)) (hB : B ≤ w.heap.size) (hl : ∀ x ∈ l, isI64 x) (hlen : (encI l).length ≤ 70368744177664) :
 Calls Tryz.prog 71 #[.slice A n c] w (RetRow w 5 1 (encI l).length (bcs (encI l))) := by
 obtain rfl : l.length = n := by have := hr.len; simpa using this
 have hcap := hr.cap
 have hle := hr.le
 have hcb : (enc l.length).length + (l.map enc).flatten.length = (encI l).length := by simp [encI]
 have HCB := Lib.hid hcb
 unfold maxLen at hcap
 go_enter Tryz.func71, Tryz.ntmps71
 go_wp2_with fail
 refine (refInt_any _ _ (by omega) (by omega)).mono ?_
 rintro e w1 ⟨v, rfl, hown, hb⟩
 clear hcb
 go_wp2_with fail
 go_loopw [3, 4] (fun v i wr => ∃ k : Nat, k ≤ l.length ∧ i = .int .i64 k ∧ wr.ownsRow w.heap.size 5 1 v (enc l.length ++ ((l.take k).map enc).flatten).length (bcs (enc l.length ++ ((l.take k).map enc).flatten)) ∧ Below w.heap.size w wr)
  (fun _ i _ => l.length - (intOf i).toNat)
 case atStart => exact ⟨0, Nat.zero_le _, rfl, by simpa using hown, hb⟩
 case round =>
  clear hown hb
  obtain ⟨k, hk, rfl, hown, hb⟩ := hrel
  by_cases hlt : k < l.length
  ·obtain ⟨b, off, u, rfl, hbB, hu, hcell⟩ := hr.at1 hlt
   obtain ⟨x, hx, rfl⟩ : ∃ x, l[k]? = some x ∧ u = .int .i64 x := by
    rw [List.getElem?_map] at hu
    obtain ⟨x, hx, hxu⟩ := Option.map_eq_some_iff.1 hu
    exact ⟨x, hx, hxu.symm⟩
   have hcell' := (hb.cell (p := ⟨b, off + k, none⟩) (by show b < _; omega)).trans hcell
   obtain ⟨hx1, hx2⟩ := hl x (List.mem_of_getElem? hx)
   have hft := flat_take enc l k x hx
   have hfl := flat_take_le enc l (k + 1)
   have HF := Lib.hid hft
   have HX := Lib.hid hx
   have hel := enc_len x
   have HN : (enc l.length ++ ((l.take k).map enc).flatten).length ≤ 70368744177664 - (enc x).length := by
    have := HCB.out; rw [hft, List.length_append] at hfl; rw [List.length_append]; omega
   clear hft hfl hx hu hcell
   go_wp2_with fail
   refine (refInt_any _ _ hx1 hx2).mono ?_
   rintro e w1 hret
   obtain ⟨A1, c1, rfl, hown1, hrd1, hb1⟩ := hret.open
   have hownw := ownsRow_below hown hb1 (Nat.le_refl _)
   have hbw := hb.trans (hb1.mono hb.size)
   clear hret hown hb hb1 hown1
   go_wp2_with (at_builtin; with_reducible refine appR _ _ Tryz.sl_u8 (wn rfl) rfl rfl rfl hownw hrd1 (bcs_one _) hbw (Nat.le_refl _) (by omega) (by omega) ?_)
   intro v' w' h3 h4 _
   clear hownw hbw hrd1 hcell'
   go_wp2
   go_roundw
   case rel =>
    refine ⟨k + 1, by omega, by go_num, ?_, h4⟩
    rw [HF.out]
    exact ownsRow_count h3 (by simp; omega) (by simp [bcs_append])
   case measure => simp [intOf]; omega
  ·obtain rfl : k = l.length := by omega
   have HS := Lib.hid (show enc l.length ++ ((l.take l.length).map enc).flatten = encI l by simp [encI])
   clear hlt
   go_wp2
   go_ret
   rw [HS.out] at hown
   exact ⟨_, rfl, hown, hb⟩
theorem ints_any (l : List Int) (A : Option Addr) (n c B : Nat) (w : World) (hr : Rd w B 1 A n c (l.map iv)) (hB : B ≤ w.heap.size) (hl : ∀ x ∈ l, isI64 x) (hlen : (encI l).length ≤ 70368744177664) :
 Calls Tryz.prog 46 #[.slice A n c] w (RetRow w 5 1 (encI l).length (bcs (encI l))) := by
 have H := listInt_any l A n c B w hr hB hl hlen
 go_enter Tryz.func46, Tryz.ntmps46
 go_wp2_with fail
 refine H.mono ?_
 clear H
 rintro e w1 ⟨v, rfl, hown, hb⟩
 go_wp2_with fail
 go_ret
 exact ⟨_, rfl, hown, hb⟩
theorem clone_any (xs : List Value) (p : Addr) (n c B : Nat) (w : World) (hr : Rd w B 1 (some p) n c xs) (hB : B ≤ w.heap.size) (h1 : ∀ u ∈ xs, u.oneCell' = true) (hn : n ≤ 70368744177664) :
 Calls Tryz.prog 115 #[.slice (some p) n c] w (RetRow w 5 1 n xs) := by
 have hown : (w.alloc (.cells #[] 5)).ownsRow w.heap.size 5 1 (.slice (some ⟨w.heap.size, 0, none⟩) 0 0) 0 [] := World.ownsRow_lit w #[] 0 (Nat.le_refl _) (Nat.zero_le _) rfl
 have hb : Below w.heap.size w (w.alloc (.cells #[] 5)) := (Below.refl _ _).alloc (Nat.le_refl _) _
 have hr2 := hr.alloc hB (.cells #[] 5)
 have hnil := @Lib.run_eql_slice_nil Tryz.prog
 go_enter Tryz.func115, Tryz.ntmps115
 go_wp2_with (at_builtin; with_reducible refine appR _ _ Tryz.sl_u8 (wn rfl) rfl rfl rfl hown hr2 h1 hb (Nat.le_refl _) (by omega) (by omega) ?_)
 intro v' w' h3 h4 _
 clear hown hb hr2 hnil
 go_wp2
 go_ret
 exact ⟨_, rfl, ownsRow_count h3 (by simp) (by simp), h4⟩
def digZero : Array Value := Array.replicate 16 (.int .u8 0)
theorem Tryz.ag_dig : AgTy Tryz.prog 27 digZero 16 := ⟨by kernel_rfl, by kernel_rfl, by simp [digZero]⟩
theorem rd_agg (w : World) (cs : List Value) (t : TypeId) (h : cs.length ≤ maxLen) : Rd (w.alloc (.cells cs.toArray t)) (w.heap.size + 1) 1 (some ⟨w.heap.size, 0, none⟩) cs.length cs.length cs := by
 refine ⟨by simp, Nat.le_refl _, h, fun _ => ⟨w.heap.size, 0, rfl, by omega, fun j u hu => ?_⟩⟩
 rw [World.cell?_alloc_at _ t w.heap.size (0 + j) rfl]
 simpa using hu
theorem digest_any (D : List UInt8) (hD : D.length = 16) (w : World) :
 Calls Tryz.prog 98 #[.agg (bcs D).toArray] w (RetRow w 5 1 16 (bcs D)) := by
 have hr := rd_agg w (bcs D) 27 (by rw [bcs_length, hD]; decide)
 rw [bcs_length, hD] at hr
 have HD := Lib.hid hD
 clear hD
 go_enter Tryz.func98, Tryz.ntmps98
 go_wp2_with fail
 refine (clone_any _ _ _ _ _ _ hr (by simp) (bcs_one _) (by omega)).mono ?_
 rintro e w1 ⟨v, rfl, hown, hb⟩
 clear hr
 go_wp2_with fail
 go_ret
 exact ⟨_, rfl, ownsRow_base hown (by simp), ((Below.refl _ _).alloc (Nat.le_refl _) _).trans (hb.mono (by simp))⟩
theorem listDig_any (D : List UInt8) (A : Option Addr) (n c B : Nat) (w : World) (hr : Rd w B 16 A n c (bcs D)) (hB : B ≤ w.heap.size) (hlen : (encD n D).length ≤ 70368744177664) :
 Calls Tryz.prog 97 #[.slice A n c, .func (.func 98) #[] #[]] w (RetRow w 5 1 (encD n D).length (bcs (encD n D))) := by
 have hD : D.length = n * 16 := by have := hr.len; rwa [bcs_length] at this
 have hcap := hr.cap
 have hle := hr.le
 have hcb : (enc n).length + D.length = (encD n D).length := by simp [encD]
 unfold maxLen at hcap
 go_enter Tryz.func97, Tryz.ntmps97
 go_wp2_with fail
 refine (int_any _ _ (by omega) (by omega)).mono ?_
 rintro e w1 ⟨v, rfl, hown, hb⟩
 have HCB := Lib.hid hcb
 have HD := Lib.hid hD
 clear hcb hD
 go_wp2_with fail
 go_loopw [5, 13] (fun v i wr => ∃ k : Nat, k ≤ n ∧ i = .int .i64 k ∧ wr.ownsRow w.heap.size 5 1 v (enc n ++ D.take (k * 16)).length (bcs (enc n ++ D.take (k * 16))) ∧ Below w.heap.size w wr)
  (fun _ i _ => n - (intOf i).toNat)
 case atStart => exact ⟨0, Nat.zero_le _, rfl, by simpa using hown, hb⟩
 case round =>
  clear hown hb
  obtain ⟨k, hk, rfl, hown, hb⟩ := hrel
  by_cases hlt : k < n
  ·obtain ⟨b, off, rfl, hbB, hcell⟩ := hr.cells (by omega)
   obtain ⟨Dk, hDk⟩ : ∃ x, x = (D.drop (k * 16)).take 16 := ⟨_, rfl⟩
   have hk16 : Dk.length = 16 := by have := HD.out; rw [hDk, List.length_take, List.length_drop]; omega
   have htk : D.take ((k + 1) * 16) = D.take (k * 16) ++ Dk := by
    rw [hDk, show (k + 1) * 16 = k * 16 + 16 from by omega, List.take_add]
   have hcs : ∀ j u, (bcs Dk)[j]? = some u → wr.cell? ⟨b, off + k * 16 + j, none⟩ = some u := by
    intro j u hj
    refine (hb.cell (p := ⟨b, off + k * 16 + j, none⟩) (by show b < _; omega)).trans ?_
    rw [Nat.add_assoc]
    refine hcell _ _ ?_
    rw [← hj, hDk, bcs, bcs, List.getElem?_map, List.getElem?_map, List.getElem?_take, List.getElem?_drop]
    have hjl := (List.getElem?_eq_some_iff.1 hj).1
    rw [bcs_length, hk16] at hjl
    rw [if_pos hjl]
   have HC := Lib.hid hcs
   have HT := Lib.hid htk
   have HK := Lib.hid hk16
   have HN : (enc n ++ D.take (k * 16)).length ≤ 70368744177664 - 16 := by
    have h1 := congrArg List.length htk
    have h2 : (D.take ((k + 1) * 16)).length ≤ D.length := by rw [List.length_take]; omega
    have := HCB.out
    rw [List.length_append] at h1 ⊢
    omega
   clear hcell hDk hcs htk hk16
   go_wp2_with (first | (with_reducible refine ldAgg (.tmp 15) (bcs Dk) Tryz.ag_dig (wn rfl) rfl rfl (by rw [bcs_length]; exact HK.out) HC.out ?_) | (with_reducible refine alAgg Tryz.ag_dig (wn rfl) rfl ?_) | (with_reducible refine stNew (.tmp 7) (.tmp 16) Tryz.ag_dig (wn rfl) rfl rfl rfl Tryz.ag_dig.zs (by rw [List.size_toArray, bcs_length]; exact HK.out) (by simpa using bcs_one Dk) ?_) | (with_reducible refine ldAgg (.tmp 7) (bcs Dk) Tryz.ag_dig (wn rfl) rfl rfl (by rw [bcs_length]; exact HK.out) (by intro j u hu; rw [World.cell?_alloc_at _ _ _ _ rfl]; simpa using hu) ?_))
   refine (digest_any Dk HK.out _).mono ?_
   rintro e w1 hret
   obtain ⟨A1, c1, rfl, hown1, hrd1, hb1⟩ := hret.open
   have hownw := ownsRow_below (hown.alloc _) hb1 (Nat.le_refl _)
   have hbw := (hb.alloc hb.size _).trans (hb1.mono (by have := hb.size; simp; omega))
   clear hret hown hb hb1 hown1 HC
   go_wp2_with (at_builtin; with_reducible refine appR _ _ Tryz.sl_u8 (wn rfl) rfl rfl rfl hownw hrd1 (bcs_one _) hbw (Nat.le_refl _) (by omega) (by omega) ?_)
   intro v' w' h3 h4 _
   clear hownw hbw hrd1
   go_wp2
   go_roundw
   case rel =>
    refine ⟨k + 1, by omega, by go_num, ?_, h4⟩
    rw [HT.out]
    exact ownsRow_count h3 (by have := HK.out; simp; omega) (by simp [bcs_append])
   case measure => simp [intOf]; omega
  ·obtain rfl : k = n := by omega
   have HS := Lib.hid (show enc k ++ D.take (k * 16) = encD k D by rw [← HD.out, List.take_length]; rfl)
   clear hlt
   go_wp2
   go_ret
   rw [HS.out] at hown
   exact ⟨_, rfl, hown, hb⟩
theorem refDigs_any (D : List UInt8) (A : Option Addr) (n c B : Nat) (w : World) (hr : Rd w B 16 A n c (bcs D)) (hB : B ≤ w.heap.size) (hlen : (encD n D).length ≤ 70368744177664) :
 Calls Tryz.prog 72 #[.slice A n c] w (RetRow w 5 1 (encD n D).length (bcs (encD n D))) := by
 have hD : D.length = n * 16 := by have := hr.len; rwa [bcs_length] at this
 have hcap := hr.cap
 have hle := hr.le
 have hcb : (enc n).length + D.length = (encD n D).length := by simp [encD]
 unfold maxLen at hcap
 go_enter Tryz.func72, Tryz.ntmps72
 go_wp2_with fail
 refine (refInt_any _ _ (by omega) (by omega)).mono ?_
 rintro e w1 ⟨v, rfl, hown, hb⟩
 have HCB := Lib.hid hcb
 have HD := Lib.hid hD
 clear hcb hD
 go_wp2_with fail
 go_loopw [3, 4] (fun v i wr => ∃ k : Nat, k ≤ n ∧ i = .int .i64 k ∧ wr.ownsRow w.heap.size 5 1 v (enc n ++ D.take (k * 16)).length (bcs (enc n ++ D.take (k * 16))) ∧ Below w.heap.size w wr)
  (fun _ i _ => n - (intOf i).toNat)
 case atStart => exact ⟨0, Nat.zero_le _, rfl, by simpa using hown, hb⟩
 case round =>
  clear hown hb
  obtain ⟨k, hk, rfl, hown, hb⟩ := hrel
  by_cases hlt : k < n
  ·obtain ⟨b, off, rfl, hbB, hcell⟩ := hr.cells (by omega)
   obtain ⟨Dk, hDk⟩ : ∃ x, x = (D.drop (k * 16)).take 16 := ⟨_, rfl⟩
   have hk16 : Dk.length = 16 := by have := HD.out; rw [hDk, List.length_take, List.length_drop]; omega
   have htk : D.take ((k + 1) * 16) = D.take (k * 16) ++ Dk := by
    rw [hDk, show (k + 1) * 16 = k * 16 + 16 from by omega, List.take_add]
   have hcs : ∀ j u, (bcs Dk)[j]? = some u → wr.cell? ⟨b, off + k * 16 + j, none⟩ = some u := by
    intro j u hj
    refine (hb.cell (p := ⟨b, off + k * 16 + j, none⟩) (by show b < _; omega)).trans ?_
    rw [Nat.add_assoc]
    refine hcell _ _ ?_
    rw [← hj, hDk, bcs, bcs, List.getElem?_map, List.getElem?_map, List.getElem?_take, List.getElem?_drop]
    have hjl := (List.getElem?_eq_some_iff.1 hj).1
    rw [bcs_length, hk16] at hjl
    rw [if_pos hjl]
   have HC := Lib.hid hcs
   have HT := Lib.hid htk
   have HK := Lib.hid hk16
   have HN : (enc n ++ D.take (k * 16)).length ≤ 70368744177664 - 16 := by
    have h1 := congrArg List.length htk
    have h2 : (D.take ((k + 1) * 16)).length ≤ D.length := by rw [List.length_take]; omega
    have := HCB.out
    rw [List.length_append] at h1 ⊢
    omega
   clear hcell hDk hcs htk hk16
   have hrd : Rd wr B 1 (some ⟨b, off + k * 16, none⟩) 16 16 (bcs Dk) := ⟨by rw [bcs_length]; exact HK.out, by omega, by decide, fun _ => ⟨b, off + k * 16, rfl, hbB, HC.out⟩⟩
   clear HC
   go_wp2_with (at_builtin; with_reducible refine appR _ _ Tryz.sl_u8 (wn rfl) rfl rfl rfl hown hrd (bcs_one _) hb (Nat.le_refl _) (by omega) (by omega) ?_)
   intro v' w' h3 h4 _
   clear hown hb hrd
   go_wp2
   go_roundw
   case rel =>
    refine ⟨k + 1, by omega, by go_num, ?_, h4⟩
    rw [HT.out]
    exact ownsRow_count h3 (by have := HK.out; simp; omega) (by simp [bcs_append])
   case measure => simp [intOf]; omega
  ·obtain rfl : k = n := by omega
   have HS := Lib.hid (show enc k ++ D.take (k * 16) = encD k D by rw [← HD.out, List.take_length]; rfl)
   clear hlt
   go_wp2
   go_ret
   rw [HS.out] at hown
   exact ⟨_, rfl, hown, hb⟩
theorem digs_any (D : List UInt8) (A : Option Addr) (n c B : Nat) (w : World) (hr : Rd w B 16 A n c (bcs D)) (hB : B ≤ w.heap.size) (hlen : (encD n D).length ≤ 70368744177664) :
 Calls Tryz.prog 47 #[.slice A n c] w (RetRow w 5 1 (encD n D).length (bcs (encD n D))) := by
 have H := listDig_any D A n c B w hr hB hlen
 go_enter Tryz.func47, Tryz.ntmps47
 go_wp2_with fail
 refine H.mono ?_
 clear H
 rintro e w1 ⟨v, rfl, hown, hb⟩
 go_wp2_with fail
 go_ret
 exact ⟨_, rfl, hown, hb⟩
def decGo : List UInt8 → Nat → Nat → Int × Int × Int
 | [], _, _ => (0, 0, 5)
 | c :: t, k, z => if (k = 9 ∧ 1 < c.toNat) ∨ (0 < k ∧ c.toNat = 0) then (0, 0, 6) else
  if c.toNat < 128 then (unzz (z + c.toNat % 128 * 128 ^ k), (k : Int) + 1, 0) else decGo t (k + 1) (z + c.toNat % 128 * 128 ^ k)
def dec (l : List UInt8) : Int × Int × Int := decGo l 0 0
theorem pow7 (k : Nat) : (128 : Nat) ^ k = 2 ^ (7 * k) := by rw [Nat.pow_mul]
theorem pow7_le {k : Nat} (h : k ≤ 8) : (128 : Nat) ^ k ≤ 72057594037927936 := Nat.le_trans (Nat.pow_le_pow_right (by omega) h) (by decide)
theorem get_or (x : UInt8) (z k : Nat) (hk : k < 9 ∨ (k ≤ 9 ∧ x.toNat ≤ 1)) (hz : z < 128 ^ k) :
 z + x.toNat % 128 * 128 ^ k < 18446744073709551616 ∧
 bits .or .u64 (z : Int) (IntKind.u64.wrap (IntKind.u64.wrap (bits .and .u8 (x.toNat : Int) 127) * 2 ^ (7 * k))) = ((z + x.toNat % 128 * 128 ^ k : Nat) : Int) := by
 have hprod : x.toNat % 128 * 128 ^ k ≤ 9223372036854775808 ∧ 128 ^ k ≤ 9223372036854775808 ∧ z + x.toNat % 128 * 128 ^ k < 18446744073709551616 := by
  rcases hk with hk | ⟨hk, hx⟩
  ·have h1 := pow7_le (k := k) (by omega)
   have h2 : x.toNat % 128 * 128 ^ k ≤ 127 * 72057594037927936 := Nat.mul_le_mul (by omega) h1
   omega
  ·have h1 : (128 : Nat) ^ k ≤ 9223372036854775808 := Nat.le_trans (Nat.pow_le_pow_right (by omega) hk) (by decide)
   have h2 : x.toNat % 128 * 128 ^ k ≤ 1 * 9223372036854775808 := Nat.mul_le_mul (by omega) h1
   omega
 refine ⟨hprod.2.2, ?_⟩
 rw [u8_and127, IntWalk.u64_in ((x.toNat % 128 : Nat) : Int) ⟨by omega, by omega⟩]
 have e : ((x.toNat % 128 : Nat) : Int) * 2 ^ (7 * k) = ((x.toNat % 128 * 128 ^ k : Nat) : Int) := by rw [pow7]; simp
 rw [e, IntWalk.u64_in _ ⟨by omega, by omega⟩, u64_or_nat _ _ (by omega) (by omega), pow7, nat_or_shift _ _ _ (by rw [← pow7]; exact hz)]
theorem get_and1 (Z : Nat) (h : Z < 18446744073709551616) : bits .and .u64 (Z : Int) 1 = (Z : Int) % 2 := by
 have h := u64_and_nat Z 1 h (by omega)
 rw [Nat.and_one_is_mod] at h
 exact h
theorem get_unzz (Z : Nat) (h : Z < 18446744073709551616) : bits .xor .i64 ((Z : Int) / 2) (-((Z : Int) % 2)) = unzz Z := by
 unfold unzz
 rcases Nat.mod_two_eq_zero_or_one Z with h0 | h0
 ·rw [show (Z : Int) % 2 = 0 from by omega, if_neg (by omega)]
  have : bits .xor .i64 ((Z / 2 : Nat) : Int) ((0 : Nat) : Int) = _ := i64_xor_n (Z / 2) 0 (by omega) (by omega)
  rw [Nat.xor_zero] at this
  exact_mod_cast this
 ·rw [show (Z : Int) % 2 = 1 from by omega, if_pos h0]
  have := i64_xor_m1 ((Z : Int) / 2) (by omega) (by omega)
  exact_mod_cast this
theorem dec_lt (l : List UInt8) (k : Nat) (x : UInt8) (h : l[k]? = some x) : l.drop k = x :: l.drop (k + 1) := by
 have hk : k < l.length := by
  rcases Nat.lt_or_ge k l.length with hh | hh
  ·exact hh
  ·rw [List.getElem?_eq_none hh] at h; cases h
 rw [List.drop_eq_getElem_cons hk]
 rw [List.getElem?_eq_getElem hk] at h
 rw [Option.some.inj h]
theorem dec_bad {l : List UInt8} {k z : Nat} {x : UInt8} {r : Int × Int × Int} (hx : l[k]? = some x) (hd : decGo (l.drop k) k z = r) (h : (9 ≤ k ∧ 1 < x.toNat ∧ k ≤ 9) ∨ (1 ≤ k ∧ x.toNat < 1)) : r = (0, 0, 6) := by
 rw [dec_lt l k x hx, decGo, if_pos (by omega)] at hd
 exact hd.symm
theorem dec_fin {l : List UInt8} {k z : Nat} {x : UInt8} {r : Int × Int × Int} (hx : l[k]? = some x) (hd : decGo (l.drop k) k z = r) (h : (k < 9 ∨ x.toNat ≤ 1) ∧ (k < 1 ∨ 0 < x.toNat)) (h2 : x.toNat < 128) :
 r = (unzz (z + x.toNat % 128 * 128 ^ k), (k : Int) + 1, 0) := by
 rw [dec_lt l k x hx, decGo, if_neg (by omega), if_pos h2] at hd
 exact hd.symm
theorem dec_more {l : List UInt8} {k z : Nat} {x : UInt8} {r : Int × Int × Int} (hx : l[k]? = some x) (hd : decGo (l.drop k) k z = r) (h : (k < 9 ∨ x.toNat ≤ 1) ∧ (k < 1 ∨ 0 < x.toNat)) (h2 : ¬ x.toNat < 128) :
 decGo (l.drop (k + 1)) (k + 1) (z + x.toNat % 128 * 128 ^ k) = r := by
 rw [dec_lt l k x hx, decGo, if_neg (by omega), if_neg h2] at hd
 exact hd
def valToW (l : List UInt8) : Nat → Nat
 | 0 => 0
 | k + 1 => valToW l k + (l.getD k 0).toNat % 128 * 128 ^ k
theorem valTo_lt (l : List UInt8) : ∀ k, valToW l k < 128 ^ k
 | 0 => by simp [valToW]
 | k + 1 => by
  have h := valTo_lt l k
  rw [valToW, Nat.pow_succ]
  have h2 : (l.getD k 0).toNat % 128 * 128 ^ k ≤ 127 * 128 ^ k := Nat.mul_le_mul_right _ (by omega)
  omega
theorem valTo_succ {l : List UInt8} {k : Nat} {x : UInt8} (h : l[k]? = some x) : valToW l (k + 1) = valToW l k + x.toNat % 128 * 128 ^ k := by
 rw [valToW, List.getD, h]; rfl
def Lead (l : List UInt8) (k : Nat) : Prop := (k ≤ 9 → decGo (l.drop k) k (valToW l k) = dec l) ∧ (10 ≤ k → dec l = (0, 0, 6))
theorem lead_0 (l : List UInt8) : Lead l 0 := ⟨fun _ => rfl, fun h => absurd h (by omega)⟩
theorem lead_step {l : List UInt8} {k : Nat} {x : UInt8} (hk : k < 10) (hx : l[k]? = some x) (h2 : 128 ≤ x.toNat) (h : Lead l k) : Lead l (k + 1) := by
 refine ⟨fun h9 => ?_, fun h10 => ?_⟩
 ·rw [valTo_succ hx]
  exact dec_more hx (h.1 (by omega)) ⟨by omega, by omega⟩ (by omega)
 ·exact dec_bad hx (h.1 (by omega)) (by omega)
theorem lead_end {l : List UInt8} (h : Lead l l.length) (hl : l.length ≤ 9) : dec l = (0, 0, 5) := by
 rw [← h.1 hl, List.drop_length]; rfl
def Horner (l : List UInt8) (k m acc : Nat) : Prop := acc * 128 ^ m + valToW l m = valToW l k
theorem horner_step {l : List UInt8} {k m acc : Nat} {x : UInt8} (hx : l[m]? = some x) (h : Horner l k (m + 1) acc) : Horner l k m (acc * 128 + x.toNat % 128) := by
 unfold Horner at h ⊢
 rw [valTo_succ hx, Nat.pow_succ] at h
 rw [← h, Nat.add_mul, Nat.mul_assoc, Nat.mul_comm 128 (128 ^ m)]
 omega
theorem horner_le {l : List UInt8} {k m acc : Nat} (h : Horner l k m acc) : acc ≤ valToW l k := by
 unfold Horner at h
 have h1 : acc * 1 ≤ acc * 128 ^ m := Nat.mul_le_mul_left _ (Nat.one_le_pow _ _ (by omega))
 omega
theorem valTo_bound {l : List UInt8} {k : Nat} {x : UInt8} (hk : k < 9 ∨ (k ≤ 9 ∧ x.toNat ≤ 1)) (hx : l[k]? = some x) : valToW l (k + 1) < 18446744073709551616 := by
 rw [valTo_succ hx]
 exact (get_or x (valToW l k) k hk (valTo_lt l k)).1
theorem dec_step_lt (x : UInt8) (z k : Nat) (hz : z < 128 ^ k) : z + x.toNat % 128 * 128 ^ k < 128 ^ (k + 1) := by
 rw [Nat.pow_succ]
 have h : x.toNat % 128 * 128 ^ k ≤ 127 * 128 ^ k := Nat.mul_le_mul_right _ (by omega)
 omega
theorem decGo_facts : ∀ (l : List UInt8) (k z : Nat) (n u e : Int), k ≤ 9 → z < 128 ^ k → decGo l k z = (n, u, e) → (e = 0 ∧ (k : Int) + 1 ≤ u ∧ u ≤ 10 ∧ u ≤ k + l.length ∧ isI64 n) ∨ (n = 0 ∧ u = 0 ∧ (e = 5 ∨ e = 6))
 | [], k, z, n, u, e, hk, hz, h => by
  simp [decGo] at h; exact Or.inr (by omega)
 | c :: t, k, z, n, u, e, hk, hz, h => by
  rw [decGo] at h
  by_cases h1 : (k = 9 ∧ 1 < c.toNat) ∨ (0 < k ∧ c.toNat = 0)
  ·rw [if_pos h1] at h; simp at h; exact Or.inr (by omega)
  ·rw [if_neg h1] at h
   by_cases h2 : c.toNat < 128
   ·rw [if_pos h2] at h
    simp only [Prod.mk.injEq] at h
    obtain ⟨h3, h4, h5⟩ := h
    have hZ := (get_or c z k (by omega) hz).1
    refine Or.inl ⟨h5.symm, by omega, by omega, by simp; omega, ?_⟩
    rw [← h3]
    exact ⟨unzz_lo _ hZ, unzz_hi _ hZ⟩
   ·rw [if_neg h2] at h
    have hk9 : k + 1 ≤ 9 := by omega
    have := decGo_facts t (k + 1) _ n u e hk9 (dec_step_lt c z k hz) h
    simp only [List.length_cons]
    rcases this with ⟨a, b, c, d, f⟩ | h3
    ·exact Or.inl ⟨a, by omega, c, by omega, f⟩
    ·exact Or.inr h3
theorem dec_facts {l : List UInt8} {n u e : Int} (h : dec l = (n, u, e)) : (e = 0 ∧ 1 ≤ u ∧ u ≤ 10 ∧ u ≤ l.length ∧ isI64 n) ∨ (n = 0 ∧ u = 0 ∧ (e = 5 ∨ e = 6)) := by
 have := decGo_facts l 0 0 n u e (by omega) (by simp) h
 rcases this with ⟨a, b, c, d, f⟩ | h3
 ·exact Or.inl ⟨a, by omega, c, by omega, f⟩
 ·exact Or.inr h3
def lenDec (l : List UInt8) (least : Nat) : Int × Int × Int :=
 if (dec l).2.2 ≠ 0 then (0, 0, (dec l).2.2) else if (dec l).1 < 0 then (0, 0, 6) else if ((l.length : Int) - (dec l).2.1) / (least : Int) < (dec l).1 then (0, 0, 5) else ((dec l).1, (dec l).2.1, 0)
theorem lenDec_facts {l : List UInt8} {least : Nat} (hl : 1 ≤ least) {n u e : Int} (h : lenDec l least = (n, u, e)) : (e = 0 ∧ 1 ≤ u ∧ u ≤ 10 ∧ u ≤ l.length ∧ 0 ≤ n ∧ n * least + u ≤ l.length ∧ isI64 n) ∨ (n = 0 ∧ u = 0 ∧ (e = 5 ∨ e = 6)) := by
 obtain ⟨a, b, c, hd⟩ : ∃ a b c, dec l = (a, b, c) := ⟨_, _, _, rfl⟩
 have hf := dec_facts hd
 unfold lenDec at h
 rw [hd] at h
 simp only at h
 by_cases h1 : c ≠ 0
 ·rw [if_pos h1] at h; simp only [Prod.mk.injEq] at h; exact Or.inr (by omega)
 ·rw [if_neg h1] at h
  rcases hf with ⟨f1, f2, f3, f4, f5⟩ | hf
  ·by_cases h2 : a < 0
   ·rw [if_pos h2] at h; simp only [Prod.mk.injEq] at h; exact Or.inr (by omega)
   ·rw [if_neg h2] at h
    by_cases h3 : ((l.length : Int) - b) / (least : Int) < a
    ·rw [if_pos h3] at h; simp only [Prod.mk.injEq] at h; exact Or.inr (by omega)
    ·rw [if_neg h3] at h; simp only [Prod.mk.injEq] at h
     obtain ⟨rfl, rfl, rfl⟩ := h
     refine Or.inl ⟨rfl, f2, f3, f4, by omega, ?_, f5⟩
     have hq : a ≤ ((l.length : Int) - b) / (least : Int) := by omega
     have h5 := (Int.le_ediv_iff_mul_le (by omega : (0 : Int) < least)).1 hq
     omega
  ·omega
def decS (l : List UInt8) : List UInt8 × Int × Int :=
 if (lenDec l 1).2.2 ≠ 0 then ([], 0, (lenDec l 1).2.2) else ((l.drop (lenDec l 1).2.1.toNat).take (lenDec l 1).1.toNat, (lenDec l 1).2.1 + (lenDec l 1).1, 0)
def many {α : Type} (one : List UInt8 → α × Int × Int) (l : List UInt8) : Nat → Nat → List α → List α × Int × Int
 | 0, at_, acc => (acc, (at_ : Int), 0)
 | n + 1, at_, acc => if (one (l.drop at_)).2.2 ≠ 0 then ([], 0, (one (l.drop at_)).2.2) else many one l n (at_ + (one (l.drop at_)).2.1.toNat) (acc ++ [(one (l.drop at_)).1])
def decList {α : Type} (one : List UInt8 → α × Int × Int) (l : List UInt8) : List α × Int × Int :=
 if (lenDec l 1).2.2 ≠ 0 then ([], 0, (lenDec l 1).2.2) else many one l (lenDec l 1).1.toNat (lenDec l 1).2.1.toNat []
def decI (l : List UInt8) : List Int × Int × Int := decList dec l
def decD (l : List UInt8) : List UInt8 × Int × Int :=
 if (lenDec l 16).2.2 ≠ 0 then ([], 0, (lenDec l 16).2.2) else ((l.drop (lenDec l 16).2.1.toNat).take ((lenDec l 16).1.toNat * 16), (lenDec l 16).2.1 + (lenDec l 16).1 * 16, 0)
def Ret3 (w : World) (r : Int × Int × Int) (en : Ending) (w' : World) : Prop := en = .returned (.tuple #[.int .i64 r.1, .int .i64 r.2.1, .int .i64 r.2.2]) ∧ w = w'
theorem getInt_any (l : List UInt8) (A : Option Addr) (n c B : Nat) (w : World) (hr : Rd w B 1 A n c (bcs l)) :
 Calls Tryz.prog 80 #[.slice A n c] w (Ret3 w (dec l)) := by
 obtain rfl : l.length = n := by have := hr.len; simpa [bcs] using this
 have hcap := hr.cap
 have hle := hr.le
 unfold maxLen at hcap
 go_enter Tryz.func80, Tryz.ntmps80
 go_wp2
 go_step3
 go_wp2
 go_step3
 go_wp2
 go_loop [5, 6, 11] (fun zv uv iv => ∃ k z : Nat, uv = .int .i64 0 ∧ k ≤ l.length ∧ k ≤ 9 ∧ iv = .int .i64 k ∧ zv = .int .u64 z ∧ z < 18446744073709551616 ∧ Hid (z < 128 ^ k) ∧ Hid (decGo (l.drop k) k z = dec l))
  (fun _ _ i => l.length - (intOf i).toNat)
 case atStart => exact ⟨0, 0, rfl, Nat.zero_le _, by omega, rfl, rfl, by omega, (by show _ < _; decide), rfl⟩
 case round =>
  obtain ⟨k, z, rfl, hk, hk9, rfl, rfl, hz, hzk, hd⟩ := hrel
  by_cases hlt : k < l.length
  ·obtain ⟨b, off, u, rfl, hbB, hu, hcell⟩ := hr.at1 hlt
   obtain ⟨x, hx, rfl⟩ : ∃ x, l[k]? = some x ∧ u = .int .u8 (x.toNat : Int) := by
    rw [bcs, List.getElem?_map] at hu
    obtain ⟨x, hx, hxu⟩ := Option.map_eq_some_iff.1 hu
    exact ⟨x, hx, hxu.symm⟩
   have hx256 := x.toNat_lt
   by_cases h1 : (k < 9 ∨ x.toNat ≤ 1) ∧ (k < 1 ∨ 0 < x.toNat)
   ·obtain ⟨hZ, hor⟩ := get_or x z k (by omega) hzk.out
    have hstep := dec_step_lt x z k hzk.out
    by_cases h2 : x.toNat < 128
    ·have hf := dec_fin hx hd.out h1 h2
     obtain ⟨Z, hZe⟩ : ∃ Z, Z = z + x.toNat % 128 * 128 ^ k := ⟨_, rfl⟩
     rw [← hZe] at hZ hor hstep hf
     have hand1 := get_and1 Z hZ
     have hfin := get_unzz Z hZ
     have HF := Lib.hid hf
     clear hx hu hstep hd hzk hZe hf
     by_cases h3 : k < 1
     ·go_wp2
      (try rw [Exit.noGoto_ret]); go_ret3
      exact ⟨by rw [HF.out]; rfl, rfl⟩
     ·by_cases h4 : k < 9
      ·go_wp2
       (try rw [Exit.noGoto_ret]); go_ret3
       exact ⟨by rw [HF.out]; rfl, rfl⟩
      ·obtain rfl : k = 9 := by omega
       rw [show (2 : Int) ^ (7 * 9) = 9223372036854775808 from by decide] at hor
       go_wp2
       (try rw [Exit.noGoto_ret]); go_ret3
       exact ⟨by rw [HF.out]; rfl, rfl⟩
    ·have hm := dec_more hx hd.out h1 h2
     obtain ⟨Z, hZe⟩ : ∃ Z, Z = z + x.toNat % 128 * 128 ^ k := ⟨_, rfl⟩
     rw [← hZe] at hZ hor hstep hm
     have HM := Lib.hid hm
     have HS := Lib.hid hstep
     clear hx hu hstep hd hzk hZe hm
     by_cases h3 : k < 1
     all_goals
      go_wp2
      go_round
      case rel => exact ⟨k + 1, Z, rfl, by omega, by omega, by go_num, rfl, hZ, HS.out, HM.out⟩
      case measure => simp [intOf]; omega
   ·have hf := dec_bad hx hd.out (by omega)
    have HF := Lib.hid hf
    clear hx hu hd hzk hf
    by_cases h3 : k < 9
    ·have h4 : x.toNat < 1 := by omega
     go_wp2
     (try rw [Exit.noGoto_ret]); go_ret3
     exact ⟨by rw [HF.out]; rfl, rfl⟩
    ·by_cases h4 : 1 < x.toNat
     all_goals
      go_wp2
      (try rw [Exit.noGoto_ret]); go_ret3
      exact ⟨by rw [HF.out]; rfl, rfl⟩
  ·obtain rfl : k = l.length := by omega
   have HF : Hid (dec l = (0, 0, 5)) := by
    show _ = _
    rw [← hd.out, List.drop_length]; rfl
   clear hlt hd hzk
   go_wp2
   (try rw [Exit.noGoto_ret]); go_ret3
   exact ⟨by rw [HF.out]; rfl, rfl⟩
theorem gi_cell {l : List UInt8} {w : World} {B b off n c j : Nat} (hr : Rd w B 1 (some ⟨b, off, none⟩) n c (bcs l)) (hj : j < l.length) : ∃ y, l[j]? = some y ∧ w.cell? ⟨b, off + j, none⟩ = some (.int .u8 (y.toNat : Int)) := by
 have hn : n = l.length := by have := hr.len; rw [bcs_length] at this; omega
 obtain ⟨b', off', u, e, _, hu, hc⟩ := hr.at1 (show j < n by omega)
 injection e with e
 injection e with e1 e2 e3
 subst e1; subst e2
 rw [bcs, List.getElem?_map] at hu
 obtain ⟨y, hy, hyu⟩ := Option.map_eq_some_iff.1 hu
 exact ⟨y, hy, by rw [hc, ← hyu]; rfl⟩
theorem refGetInt_any (l : List UInt8) (A : Option Addr) (n c B : Nat) (w : World) (hr : Rd w B 1 A n c (bcs l)) :
 Calls Tryz.prog 87 #[.slice A n c] w (Ret3 w (dec l)) := by
 obtain rfl : l.length = n := by have := hr.len; simpa [bcs] using this
 have hcap := hr.cap
 have hle := hr.le
 unfold maxLen at hcap
 go_enter Tryz.func87, Tryz.ntmps87
 go_wp2
 go_loop [5] (fun kv => ∃ k : Nat, k ≤ l.length ∧ k ≤ 10 ∧ kv = .int .i64 k ∧ Lead l k) (fun i => l.length - (intOf i).toNat)
 case atStart => exact ⟨0, Nat.zero_le _, by omega, rfl, lead_0 l⟩
 case round =>
  obtain ⟨k, hk, hk10, rfl, hd⟩ := hrel
  by_cases hlt : k < l.length
  ·obtain ⟨b, off, u, rfl, hbB, hu, hcell⟩ := hr.at1 hlt
   obtain ⟨x, hx, rfl⟩ : ∃ x, l[k]? = some x ∧ u = .int .u8 (x.toNat : Int) := by
    rw [bcs, List.getElem?_map] at hu
    obtain ⟨x, hx, hxu⟩ := Option.map_eq_some_iff.1 hu
    exact ⟨x, hx, hxu.symm⟩
   have hx256 := x.toNat_lt
   by_cases h10 : k < 10
   ·by_cases h2 : x.toNat < 128
    ·by_cases h1 : (k < 9 ∨ x.toNat ≤ 1) ∧ (k < 1 ∨ 0 < x.toNat)
     ·have hf := dec_fin hx (hd.1 (by omega)) h1 h2
      rw [← valTo_succ hx] at hf
      have hV := valTo_bound (by omega) hx
      have HF := Lib.hid hf
      have HH : Horner l (k + 1) (k + 1) 0 := by show _ = _; simp
      clear hf hd hx hu
      have HV := Lib.hid hV
      clear hV
      by_cases h3 : k < 1
      ·go_wp2
       go_loop [6, 7] (fun av iv => ∃ (i : Int) (acc : Nat), -1 ≤ i ∧ i ≤ k ∧ iv = .int .i64 i ∧ av = .int .u64 acc ∧ acc < 18446744073709551616 ∧ Hid (Horner l (k + 1) (i + 1).toNat acc)) (fun _ i => (intOf i + 1).toNat)
       case atStart => exact ⟨_, 0, by omega, by omega, rfl, rfl, by omega, HH⟩
       case round =>
        obtain ⟨i, acc, hi1, hi2, rfl, rfl, hacc, hho⟩ := hrel
        by_cases hi0 : 0 ≤ i
        ·obtain ⟨j, rfl⟩ := Int.eq_ofNat_of_zero_le hi0
         obtain ⟨y, hy, hyc⟩ := gi_cell hr (show j < l.length by omega)
         have hy256 := y.toNat_lt
         have hst := horner_step hy (show Horner l (k + 1) (j + 1) acc by have := hho.out; rwa [show ((j : Int) + 1).toNat = j + 1 from by omega] at this)
         have hle2 := Nat.lt_of_le_of_lt (horner_le hst) HV.out
         have HST := Lib.hid hst
         clear hst hho hy hcell HH
         go_wp2
         go_round
         case rel => exact ⟨_, acc * 128 + y.toNat % 128, by omega, by omega, rfl, by go_num, hle2, by rw [show ((j : Int) - 1 + 1).toNat = j from by omega]; exact HST.out⟩
         case measure => (simp [intOf]; try omega)
        ·obtain rfl : i = -1 := by omega
         have hfin : acc = valToW l (k + 1) := by have := hho.out; unfold Horner at this; simpa [valToW] using this
         have HFIN := Lib.hid hfin
         clear hho hfin hcell HH
         by_cases hodd : acc % 2 = 1
         all_goals
          go_wp2
          go_ret3
          refine ⟨?_, rfl⟩
          rw [HF.out, ← HFIN.out]
          unfold unzz
          first | rw [if_pos hodd] | rw [if_neg hodd]
          rfl
      ·by_cases h4 : k < 9
       ·go_wp2
        go_loop [6, 7] (fun av iv => ∃ (i : Int) (acc : Nat), -1 ≤ i ∧ i ≤ k ∧ iv = .int .i64 i ∧ av = .int .u64 acc ∧ acc < 18446744073709551616 ∧ Hid (Horner l (k + 1) (i + 1).toNat acc)) (fun _ i => (intOf i + 1).toNat)
        case atStart => exact ⟨_, 0, by omega, by omega, rfl, rfl, by omega, HH⟩
        case round =>
         obtain ⟨i, acc, hi1, hi2, rfl, rfl, hacc, hho⟩ := hrel
         by_cases hi0 : 0 ≤ i
         ·obtain ⟨j, rfl⟩ := Int.eq_ofNat_of_zero_le hi0
          obtain ⟨y, hy, hyc⟩ := gi_cell hr (show j < l.length by omega)
          have hy256 := y.toNat_lt
          have hst := horner_step hy (show Horner l (k + 1) (j + 1) acc by have := hho.out; rwa [show ((j : Int) + 1).toNat = j + 1 from by omega] at this)
          have hle2 := Nat.lt_of_le_of_lt (horner_le hst) HV.out
          have HST := Lib.hid hst
          clear hst hho hy hcell HH
          go_wp2
          go_round
          case rel => exact ⟨_, acc * 128 + y.toNat % 128, by omega, by omega, rfl, by go_num, hle2, by rw [show ((j : Int) - 1 + 1).toNat = j from by omega]; exact HST.out⟩
          case measure => (simp [intOf]; try omega)
         ·obtain rfl : i = -1 := by omega
          have hfin : acc = valToW l (k + 1) := by have := hho.out; unfold Horner at this; simpa [valToW] using this
          have HFIN := Lib.hid hfin
          clear hho hfin hcell HH
          by_cases hodd : acc % 2 = 1
          all_goals
           go_wp2
           go_ret3
           refine ⟨?_, rfl⟩
           rw [HF.out, ← HFIN.out]
           unfold unzz
           first | rw [if_pos hodd] | rw [if_neg hodd]
           rfl
       ·obtain rfl : k = 9 := by omega
        have hb : ((x.toNat : Int) == 0) = false := by rw [beq_eq_false_iff_ne]; omega
        go_wp2
        go_loop [6, 7] (fun av iv => ∃ (i : Int) (acc : Nat), -1 ≤ i ∧ i ≤ 9 ∧ iv = .int .i64 i ∧ av = .int .u64 acc ∧ acc < 18446744073709551616 ∧ Hid (Horner l (9 + 1) (i + 1).toNat acc)) (fun _ i => (intOf i + 1).toNat)
        case atStart => exact ⟨_, 0, by omega, by omega, rfl, rfl, by omega, HH⟩
        case round =>
         obtain ⟨i, acc, hi1, hi2, rfl, rfl, hacc, hho⟩ := hrel
         by_cases hi0 : 0 ≤ i
         ·obtain ⟨j, rfl⟩ := Int.eq_ofNat_of_zero_le hi0
          obtain ⟨y, hy, hyc⟩ := gi_cell hr (show j < l.length by omega)
          have hy256 := y.toNat_lt
          have hst := horner_step hy (show Horner l (9 + 1) (j + 1) acc by have := hho.out; rwa [show ((j : Int) + 1).toNat = j + 1 from by omega] at this)
          have hle2 := Nat.lt_of_le_of_lt (horner_le hst) HV.out
          have HST := Lib.hid hst
          clear hst hho hy hcell HH
          go_wp2
          go_round
          case rel => exact ⟨_, acc * 128 + y.toNat % 128, by omega, by omega, rfl, by go_num, hle2, by rw [show ((j : Int) - 1 + 1).toNat = j from by omega]; exact HST.out⟩
          case measure => (simp [intOf]; try omega)
         ·obtain rfl : i = -1 := by omega
          have hfin : acc = valToW l (9 + 1) := by have := hho.out; unfold Horner at this; simpa [valToW] using this
          have HFIN := Lib.hid hfin
          clear hho hfin hcell HH
          by_cases hodd : acc % 2 = 1
          all_goals
           go_wp2
           go_ret3
           refine ⟨?_, rfl⟩
           rw [HF.out, ← HFIN.out]
           unfold unzz
           first | rw [if_pos hodd] | rw [if_neg hodd]
           rfl
     ·have hf := dec_bad hx (hd.1 (by omega)) (by omega)
      have HF := Lib.hid hf
      clear hx hu hd hf
      by_cases h3 : k < 9
      ·have h4 : x.toNat < 1 := by omega
       go_wp2
       go_ret3
       exact ⟨by rw [HF.out]; rfl, rfl⟩
      ·by_cases h4 : 1 < x.toNat
       ·obtain rfl : k = 9 := by omega
        go_wp2
        go_ret3
        exact ⟨by rw [HF.out]; rfl, rfl⟩
       ·obtain rfl : k = 9 := by omega
        have hb : ((x.toNat : Int) == 0) = true := by rw [beq_iff_eq]; omega
        go_wp2
        go_ret3
        exact ⟨by rw [HF.out]; rfl, rfl⟩
    ·have hm := lead_step h10 hx (by omega) hd
     clear hx hu hd
     go_wp2
     go_round
     case rel => exact ⟨k + 1, by omega, by omega, by go_num, hm⟩
     case measure => (simp [intOf]; try omega)
   ·have HF := Lib.hid (hd.2 (by omega))
    obtain rfl : k = 10 := by omega
    clear hd hx hu
    go_wp2
    go_ret3
    exact ⟨by rw [HF.out]; rfl, rfl⟩
  ·obtain rfl : k = l.length := by omega
   by_cases h10 : l.length < 10
   ·have HF := Lib.hid (lead_end hd (by omega))
    clear hd hlt
    go_wp2
    go_ret3
    exact ⟨by rw [HF.out]; rfl, rfl⟩
   ·have HF := Lib.hid (hd.2 (by omega))
    clear hd hlt
    go_wp2
    go_ret3
    exact ⟨by rw [HF.out]; rfl, rfl⟩
theorem length_any (l : List UInt8) (A : Option Addr) (n c B least : Nat) (w : World) (hr : Rd w B 1 A n c (bcs l)) (hl1 : 1 ≤ least) (hl2 : least ≤ 1000) :
 Calls Tryz.prog 79 #[.slice A n c, .int .i64 least] w (Ret3 w (lenDec l least)) := by
 obtain rfl : l.length = n := by have := hr.len; simpa [bcs] using this
 have hcap := hr.cap
 have hle := hr.le
 unfold maxLen at hcap
 obtain ⟨a, b, e, hd⟩ : ∃ a b e, dec l = (a, b, e) := ⟨_, _, _, rfl⟩
 have hf := dec_facts hd
 have HL : Hid (lenDec l least = if e ≠ 0 then (0, 0, e) else if a < 0 then (0, 0, 6) else if ((l.length : Int) - b) / (least : Int) < a then (0, 0, 5) else (a, b, 0)) := by
  show _ = _
  unfold lenDec; rw [hd]
 have HD := Lib.hid hd
 clear hd
 rcases hf with ⟨rfl, f2, f3, f4, f5, f6⟩ | ⟨rfl, rfl, f3⟩
 ·by_cases h1 : a < 0
  ·go_enter Tryz.func79, Tryz.ntmps79
   go_wp2_with (go_at_call 80; refine (getInt_any l _ _ _ _ _ hr).mono ?_; rintro e w1 ⟨rfl, rfl⟩; rw [HD.out])
   go_ret3
   exact ⟨by rw [HL.out, if_neg (by omega), if_pos (by omega)]; rfl, rfl⟩
  ·by_cases h2 : ((l.length : Int) - b) / (least : Int) < a
   ·go_enter Tryz.func79, Tryz.ntmps79
    go_wp2_with (go_at_call 80; refine (getInt_any l _ _ _ _ _ hr).mono ?_; rintro e w1 ⟨rfl, rfl⟩; rw [HD.out])
    go_ret3
    exact ⟨by rw [HL.out, if_neg (by omega), if_neg (by omega), if_pos (by omega)]; rfl, rfl⟩
   ·go_enter Tryz.func79, Tryz.ntmps79
    go_wp2_with (go_at_call 80; refine (getInt_any l _ _ _ _ _ hr).mono ?_; rintro e w1 ⟨rfl, rfl⟩; rw [HD.out])
    go_ret3
    exact ⟨by rw [HL.out, if_neg (by omega), if_neg (by omega), if_neg (by omega)]; rfl, rfl⟩
 ·rcases f3 with rfl | rfl
  all_goals
   go_enter Tryz.func79, Tryz.ntmps79
   go_wp2_with (go_at_call 80; refine (getInt_any l _ _ _ _ _ hr).mono ?_; rintro e w1 ⟨rfl, rfl⟩; rw [HD.out])
   go_ret3
   exact ⟨by rw [HL.out, if_pos (by omega)]; rfl, rfl⟩
theorem refLength_any (l : List UInt8) (A : Option Addr) (n c B least : Nat) (w : World) (hr : Rd w B 1 A n c (bcs l)) (hl1 : 1 ≤ least) (hl2 : least ≤ 1000) :
 Calls Tryz.prog 114 #[.slice A n c, .int .i64 least] w (Ret3 w (lenDec l least)) := by
 obtain rfl : l.length = n := by have := hr.len; simpa [bcs] using this
 have hcap := hr.cap
 have hle := hr.le
 unfold maxLen at hcap
 obtain ⟨a, b, e, hd⟩ : ∃ a b e, dec l = (a, b, e) := ⟨_, _, _, rfl⟩
 have hf := dec_facts hd
 have HL : Hid (lenDec l least = if e ≠ 0 then (0, 0, e) else if a < 0 then (0, 0, 6) else if ((l.length : Int) - b) / (least : Int) < a then (0, 0, 5) else (a, b, 0)) := by
  show _ = _
  unfold lenDec; rw [hd]
 have HD := Lib.hid hd
 clear hd
 rcases hf with ⟨rfl, f2, f3, f4, f5, f6⟩ | ⟨rfl, rfl, f3⟩
 ·by_cases h1 : a < 0
  ·go_enter Tryz.func114, Tryz.ntmps114
   go_wp2_with (go_at_call 87; refine (refGetInt_any l _ _ _ _ _ hr).mono ?_; rintro e w1 ⟨rfl, rfl⟩; rw [HD.out])
   go_ret3
   exact ⟨by rw [HL.out, if_neg (by omega), if_pos (by omega)]; rfl, rfl⟩
  ·by_cases h2 : ((l.length : Int) - b) / (least : Int) < a
   ·go_enter Tryz.func114, Tryz.ntmps114
    go_wp2_with (go_at_call 87; refine (refGetInt_any l _ _ _ _ _ hr).mono ?_; rintro e w1 ⟨rfl, rfl⟩; rw [HD.out])
    go_ret3
    exact ⟨by rw [HL.out, if_neg (by omega), if_neg (by omega), if_pos (by omega)]; rfl, rfl⟩
   ·go_enter Tryz.func114, Tryz.ntmps114
    go_wp2_with (go_at_call 87; refine (refGetInt_any l _ _ _ _ _ hr).mono ?_; rintro e w1 ⟨rfl, rfl⟩; rw [HD.out])
    go_ret3
    exact ⟨by rw [HL.out, if_neg (by omega), if_neg (by omega), if_neg (by omega)]; rfl, rfl⟩
 ·rcases f3 with rfl | rfl
  all_goals
   go_enter Tryz.func114, Tryz.ntmps114
   go_wp2_with (go_at_call 87; refine (refGetInt_any l _ _ _ _ _ hr).mono ?_; rintro e w1 ⟨rfl, rfl⟩; rw [HD.out])
   go_ret3
   exact ⟨by rw [HL.out, if_pos (by omega)]; rfl, rfl⟩
theorem cut_bcs (l : List UInt8) (U N : Nat) : ((bcs l).drop U).take N = bcs ((l.drop U).take N) := by
 simp [bcs]
def RetS (w : World) (r : List UInt8 × Int × Int) (en : Ending) (w' : World) : Prop := en = .returned (.tuple #[sv r.1, .int .i64 r.2.1, .int .i64 r.2.2]) ∧ w = w'
theorem getBytes_any (l : List UInt8) (A : Option Addr) (n c B : Nat) (w : World) (hr : Rd w B 1 A n c (bcs l)) :
 Calls Tryz.prog 34 #[.slice A n c] w (RetS w (decS l)) := by
 obtain rfl : l.length = n := by have := hr.len; simpa [bcs] using this
 have hcap := hr.cap
 have hle := hr.le
 unfold maxLen at hcap
 obtain ⟨a, b, e, hd⟩ : ∃ a b e, lenDec l 1 = (a, b, e) := ⟨_, _, _, rfl⟩
 have hf := lenDec_facts (by omega) hd
 have HL : Hid (decS l = if e ≠ 0 then ([], 0, e) else ((l.drop b.toNat).take a.toNat, b + a, 0)) := by
  show _ = _
  unfold decS; rw [hd]
 have HD := Lib.hid hd
 clear hd
 rcases hf with ⟨rfl, f2, f3, f4, f5, f6, f7, f8⟩ | ⟨rfl, rfl, f3⟩
 ·obtain ⟨N, rfl⟩ := Int.eq_ofNat_of_zero_le f5
  obtain ⟨U, rfl⟩ := Int.eq_ofNat_of_zero_le (show 0 ≤ b by omega)
  go_enter Tryz.func34, Tryz.ntmps34
  go_wp2_with (first | (go_at_call 79; refine (length_any l _ _ _ _ 1 _ hr (by omega) (by omega)).mono ?_; rintro e w1 ⟨rfl, rfl⟩; rw [HD.out]) | (with_reducible refine slLH (.tmp 17) (.tmp 18) (.tmp 21) U (U + N) Tryz.sl_u8 (wn rfl) rfl rfl rfl rfl hr (by omega) (by omega) (by omega) (by omega) ?_))
  intro A' hcut
  rw [cut_bcs] at hcut
  go_wp2_with (with_reducible refine convStr (.tmp 22) ((l.drop U).take N) Tryz.sl_u8.und Tryz.und_u8 Tryz.und_str (wn rfl) rfl rfl hcut ?_)
  go_ret3
  exact ⟨by rw [HL.out, if_neg (by omega)]; rfl, rfl⟩
 ·rcases f3 with rfl | rfl
  all_goals
   go_enter Tryz.func34, Tryz.ntmps34
   go_wp2_with (go_at_call 79; refine (length_any l _ _ _ _ 1 _ hr (by omega) (by omega)).mono ?_; rintro e w1 ⟨rfl, rfl⟩; rw [HD.out])
   go_ret3
   exact ⟨by rw [HL.out, if_pos (by omega)]; rfl, rfl⟩
theorem refGetBytes_any (l : List UInt8) (A : Option Addr) (n c B : Nat) (w : World) (hr : Rd w B 1 A n c (bcs l)) :
 Calls Tryz.prog 36 #[.slice A n c] w (RetS w (decS l)) := by
 obtain rfl : l.length = n := by have := hr.len; simpa [bcs] using this
 have hcap := hr.cap
 have hle := hr.le
 unfold maxLen at hcap
 obtain ⟨a, b, e, hd⟩ : ∃ a b e, dec l = (a, b, e) := ⟨_, _, _, rfl⟩
 have hf := dec_facts hd
 have HL : Hid (decS l = if e ≠ 0 then ([], 0, e) else if a < 0 then ([], 0, 6) else if (l.length : Int) - b < a then ([], 0, 5) else ((l.drop b.toNat).take a.toNat, b + a, 0)) := by
  show _ = _
  unfold decS lenDec; rw [hd]
  simp only [Int.natCast_one, Int.ediv_one]
  by_cases h1 : e = 0
  ·subst h1
   by_cases h2 : a < 0
   ·simp [h2]
   ·by_cases h3 : (l.length : Int) - b < a <;> simp [h2, h3]
  ·simp [h1]
 have HD := Lib.hid hd
 clear hd
 rcases hf with ⟨rfl, f2, f3, f4, f5, f6⟩ | ⟨rfl, rfl, f3⟩
 ·obtain ⟨U, rfl⟩ := Int.eq_ofNat_of_zero_le (show 0 ≤ b by omega)
  by_cases h1 : a < 0
  ·go_enter Tryz.func36, Tryz.ntmps36
   go_wp2_with (go_at_call 87; refine (refGetInt_any l _ _ _ _ _ hr).mono ?_; rintro e w1 ⟨rfl, rfl⟩; rw [HD.out])
   go_ret3
   exact ⟨by rw [HL.out, if_neg (by omega), if_pos (by omega)]; rfl, rfl⟩
  ·obtain ⟨N, rfl⟩ := Int.eq_ofNat_of_zero_le (show 0 ≤ a by omega)
   by_cases h2 : (l.length : Int) - U < N
   ·go_enter Tryz.func36, Tryz.ntmps36
    go_wp2_with (go_at_call 87; refine (refGetInt_any l _ _ _ _ _ hr).mono ?_; rintro e w1 ⟨rfl, rfl⟩; rw [HD.out])
    go_ret3
    exact ⟨by rw [HL.out, if_neg (by omega), if_neg (by omega), if_pos (by omega)]; rfl, rfl⟩
   ·go_enter Tryz.func36, Tryz.ntmps36
    go_wp2_with (first | (go_at_call 87; refine (refGetInt_any l _ _ _ _ _ hr).mono ?_; rintro e w1 ⟨rfl, rfl⟩; rw [HD.out]) | (with_reducible refine slLH (.tmp 25) (.tmp 26) (.tmp 29) U (U + N) Tryz.sl_u8 (wn rfl) rfl rfl rfl rfl hr (by omega) (by omega) (by omega) (by omega) ?_))
    intro A' hcut
    rw [cut_bcs] at hcut
    go_wp2_with (with_reducible refine convStr (.tmp 30) ((l.drop U).take N) Tryz.sl_u8.und Tryz.und_u8 Tryz.und_str (wn rfl) rfl rfl hcut ?_)
    go_ret3
    exact ⟨by rw [HL.out, if_neg (by omega), if_neg (by omega), if_neg (by omega)]; rfl, rfl⟩
 ·rcases f3 with rfl | rfl
  all_goals
   go_enter Tryz.func36, Tryz.ntmps36
   go_wp2_with (go_at_call 87; refine (refGetInt_any l _ _ _ _ _ hr).mono ?_; rintro e w1 ⟨rfl, rfl⟩; rw [HD.out])
   go_ret3
   exact ⟨by rw [HL.out, if_pos (by omega)]; rfl, rfl⟩
theorem Tryz.sl_int : SlTy Tryz.prog 22 3 (.int .i64 0) 1 8 := ⟨by kernel_rfl, by kernel_rfl, rfl, by decide⟩
def RetL (w : World) (e : TypeId) (size : Nat) (xs : List Value) (u err : Int) (en : Ending) (w' : World) : Prop :=
 ∃ v n, en = .returned (.tuple #[v, .int .i64 u, .int .i64 err]) ∧ w'.ownsRow w.heap.size e size v n xs ∧ Below w.heap.size w w'
section
variable {α : Type} {one : List UInt8 → α × Int × Int} {l : List UInt8}
theorem many_step {k at_ : Nat} {acc : List α} {x : α} {u : Int} {r : List α × Int × Int} (h : one (l.drop at_) = (x, u, 0)) (hd : many one l (k + 1) at_ acc = r) : many one l k (at_ + u.toNat) (acc ++ [x]) = r := by
 rw [many, h] at hd; simpa using hd
theorem many_err {k at_ : Nat} {acc : List α} {x : α} {u e : Int} {r : List α × Int × Int} (h : one (l.drop at_) = (x, u, e)) (he : e ≠ 0) (hd : many one l (k + 1) at_ acc = r) : r = ([], 0, e) := by
 rw [many, h] at hd; simp [he] at hd; exact hd.symm
theorem many_end {at_ : Nat} {acc : List α} {r : List α × Int × Int} (hd : many one l 0 at_ acc = r) : r = (acc, (at_ : Int), 0) := by
 rw [many] at hd; exact hd.symm
end
theorem dec_facts' {l : List UInt8} {n u e : Int} (h : dec l = (n, u, e)) : (e = 0 ∧ 1 ≤ u ∧ u ≤ l.length) ∨ (n = 0 ∧ u = 0 ∧ (e = 5 ∨ e = 6)) := by
 rcases dec_facts h with ⟨a, b, c, d, _⟩ | h
 ·exact Or.inl ⟨a, b, d⟩
 ·exact Or.inr h
theorem drop_bcs (l : List UInt8) (U : Nat) : ((bcs l).drop U).take (l.length - U) = bcs (l.drop U) := by
 rw [bcs, bcs, List.map_drop]
 exact List.take_of_length_le (by simp)
theorem getInt_list (l : List UInt8) (A : Option Addr) (n c B : Nat) (w : World) (hr : Rd w B 1 A n c (bcs l)) (hB : B ≤ w.heap.size) (hlen : l.length ≤ 1099511627776) :
 Calls Tryz.prog 92 #[.slice A n c, .int .i64 1, .func (.func 80) #[] #[]] w (RetL w 3 1 ((decI l).1.map iv) (decI l).2.1 (decI l).2.2) := by
 obtain rfl : l.length = n := by have := hr.len; simpa [bcs] using this
 have hcap := hr.cap
 have hle := hr.le
 unfold maxLen at hcap
 obtain ⟨a, b, e, hd⟩ : ∃ a b e, lenDec l 1 = (a, b, e) := ⟨_, _, _, rfl⟩
 have hf := lenDec_facts (by omega) hd
 have HL : Hid (decI l = if e ≠ 0 then ([], 0, e) else many dec l a.toNat b.toNat []) := by
  show _ = _
  unfold decI decList; rw [hd]
 have HD := Lib.hid hd
 clear hd
 rcases hf with ⟨rfl, f2, f3, f4, f5, f6, f7, f8⟩ | ⟨rfl, rfl, f3⟩
 ·obtain ⟨N, rfl⟩ := Int.eq_ofNat_of_zero_le f5
  obtain ⟨U, rfl⟩ := Int.eq_ofNat_of_zero_le (show 0 ≤ b by omega)
  have HM : Hid (many dec l N U [] = decI l) := by
   show _ = _
   rw [HL.out, if_neg (by omega)]; rfl
  clear HL
  go_enter Tryz.func92, Tryz.ntmps92
  go_wp2_with (go_at_call 79; refine (length_any l _ _ _ _ 1 _ hr (by omega) (by omega)).mono ?_; rintro e w1 ⟨rfl, rfl⟩; rw [HD.out])
  go_loopw [10, 12, 27] (fun atv v iv_ wr => ∃ (k j : Nat) (acc : List Int), k ≤ N ∧ iv_ = .int .i64 k ∧ atv = .int .i64 j ∧ j ≤ l.length ∧ acc.length = k ∧ wr.ownsRow w.heap.size 3 1 v acc.length (acc.map iv) ∧ Hid (many dec l (N - k) j acc = decI l) ∧ Below w.heap.size w wr)
   (fun _ _ iv_ _ => N - (intOf iv_).toNat)
  case atStart => exact ⟨0, U, [], Nat.zero_le _, rfl, rfl, by omega, rfl, World.ownsRow_nil _ _ _ _, HM, Below.refl _ _⟩
  case round =>
   clear HM
   obtain ⟨k, j, acc, hk, rfl, rfl, hj, hacc, hown, hm, hb⟩ := hrel
   have HA := Lib.hid hacc
   clear hacc
   have hrw := hr.below (hb.mono hB)
   by_cases hlt : k < N
   ·obtain ⟨x, u, e, ho⟩ : ∃ x u e, dec (l.drop j) = (x, u, e) := ⟨_, _, _, rfl⟩
    have hof := dec_facts' ho
    rw [List.length_drop] at hof
    have hm2 : many dec l (N - (k + 1) + 1) j acc = decI l := by rw [show N - (k + 1) + 1 = N - k from by omega]; exact hm.out
    have HO := Lib.hid ho
    rcases hof with ⟨rfl, g2, g3⟩ | ⟨g1, rfl, g3⟩
    ·have hst := many_step ho hm2
     obtain ⟨V, rfl⟩ := Int.eq_ofNat_of_zero_le (show 0 ≤ u by omega)
     have HST := Lib.hid hst
     clear ho hm hm2 hst
     go_wp2_with (with_reducible refine slL (.tmp 31) (.tmp 32) j Tryz.sl_u8 (wn rfl) rfl rfl rfl hrw (by omega) (by omega) ?_)
     intro A' hcut
     rw [drop_bcs] at hcut
     go_wp2_with fail
     refine (getInt_any (l.drop j) _ _ _ _ _ hcut).mono ?_
     rintro e w1 ⟨rfl, rfl⟩
     rw [HO.out]
     clear hcut hrw
     go_wp2_with (at_builtin; with_reducible refine app1 _ _ Tryz.sl_int (wn rfl) rfl rfl rfl hown hb (Nat.le_refl _) rfl (by have := HA.out; omega) (by have := HA.out; omega) ?_)
     intro v' w' h3 h4 _
     clear hown hb
     go_wp2
     go_roundw
     case rel => exact ⟨k + 1, j + V, acc ++ [x], by omega, by go_num, by go_num, by omega, by have := HA.out; simp; omega, ownsRow_count h3 (by simp) (by simp [iv]), by have := HST.out; rwa [Int.toNat_natCast] at this, h4⟩
     case measure => (simp [intOf]; try omega)
    ·have hst := many_err ho (by omega) hm2
     have HST := Lib.hid hst
     clear ho hm hm2 hst
     rcases g3 with rfl | rfl
     all_goals
      go_wp2_with (with_reducible refine slL (.tmp 31) (.tmp 32) j Tryz.sl_u8 (wn rfl) rfl rfl rfl hrw (by omega) (by omega) ?_)
      intro A' hcut
      rw [drop_bcs] at hcut
      go_wp2_with fail
      refine (getInt_any (l.drop j) _ _ _ _ _ hcut).mono ?_
      rintro e w1 ⟨rfl, rfl⟩
      rw [HO.out]
      clear hcut hrw
      go_wp2
      go_ret3
      exact ⟨.slice none 0 0, 0, by rw [HST.out]; rfl, by rw [HST.out]; exact World.ownsRow_nil _ _ _ _, hb⟩
   ·obtain rfl : k = N := by omega
    have hm0 := hm.out
    rw [Nat.sub_self] at hm0
    have hst := many_end hm0
    have HST := Lib.hid hst
    clear hm hst hlt hm0
    go_wp2
    go_ret3
    exact ⟨u12, acc.length, by rw [HST.out]; rfl, by rw [HST.out]; exact hown, hb⟩
 ·rcases f3 with rfl | rfl
  all_goals
   go_enter Tryz.func92, Tryz.ntmps92
   go_wp2_with (go_at_call 79; refine (length_any l _ _ _ _ 1 _ hr (by omega) (by omega)).mono ?_; rintro e w1 ⟨rfl, rfl⟩; rw [HD.out])
   go_ret3
   exact ⟨.slice none 0 0, 0, by rw [HL.out, if_pos (by omega)]; rfl, by rw [HL.out, if_pos (by omega)]; exact World.ownsRow_nil _ _ _ _, Below.refl _ _⟩
theorem refGetInts_any (l : List UInt8) (A : Option Addr) (n c B : Nat) (w : World) (hr : Rd w B 1 A n c (bcs l)) (hB : B ≤ w.heap.size) (hlen : l.length ≤ 1099511627776) :
 Calls Tryz.prog 88 #[.slice A n c] w (RetL w 3 1 ((decI l).1.map iv) (decI l).2.1 (decI l).2.2) := by
 obtain rfl : l.length = n := by have := hr.len; simpa [bcs] using this
 have hcap := hr.cap
 have hle := hr.le
 unfold maxLen at hcap
 obtain ⟨a, b, e, hd⟩ : ∃ a b e, lenDec l 1 = (a, b, e) := ⟨_, _, _, rfl⟩
 have hf := lenDec_facts (by omega) hd
 have HL : Hid (decI l = if e ≠ 0 then ([], 0, e) else many dec l a.toNat b.toNat []) := by
  show _ = _
  unfold decI decList; rw [hd]
 have HD := Lib.hid hd
 clear hd
 rcases hf with ⟨rfl, f2, f3, f4, f5, f6, f7, f8⟩ | ⟨rfl, rfl, f3⟩
 ·obtain ⟨N, rfl⟩ := Int.eq_ofNat_of_zero_le f5
  obtain ⟨U, rfl⟩ := Int.eq_ofNat_of_zero_le (show 0 ≤ b by omega)
  have HM : Hid (many dec l N U [] = decI l) := by
   show _ = _
   rw [HL.out, if_neg (by omega)]; rfl
  clear HL
  go_enter Tryz.func88, Tryz.ntmps88
  go_wp2_with (go_at_call 114; refine (refLength_any l _ _ _ _ 1 _ hr (by omega) (by omega)).mono ?_; rintro e w1 ⟨rfl, rfl⟩; rw [HD.out])
  go_loopw [6, 8, 9] (fun atv v iv_ wr => ∃ (k j : Nat) (acc : List Int), k ≤ N ∧ iv_ = .int .i64 k ∧ atv = .int .i64 j ∧ j ≤ l.length ∧ acc.length = k ∧ wr.ownsRow w.heap.size 3 1 v acc.length (acc.map iv) ∧ Hid (many dec l (N - k) j acc = decI l) ∧ Below w.heap.size w wr)
   (fun _ _ iv_ _ => N - (intOf iv_).toNat)
  case atStart => exact ⟨0, U, [], Nat.zero_le _, rfl, rfl, by omega, rfl, World.ownsRow_nil _ _ _ _, HM, Below.refl _ _⟩
  case round =>
   clear HM
   obtain ⟨k, j, acc, hk, rfl, rfl, hj, hacc, hown, hm, hb⟩ := hrel
   have HA := Lib.hid hacc
   clear hacc
   have hrw := hr.below (hb.mono hB)
   by_cases hlt : k < N
   ·obtain ⟨x, u, e, ho⟩ : ∃ x u e, dec (l.drop j) = (x, u, e) := ⟨_, _, _, rfl⟩
    have hof := dec_facts' ho
    rw [List.length_drop] at hof
    have hm2 : many dec l (N - (k + 1) + 1) j acc = decI l := by rw [show N - (k + 1) + 1 = N - k from by omega]; exact hm.out
    have HO := Lib.hid ho
    rcases hof with ⟨rfl, g2, g3⟩ | ⟨g1, rfl, g3⟩
    ·have hst := many_step ho hm2
     obtain ⟨V, rfl⟩ := Int.eq_ofNat_of_zero_le (show 0 ≤ u by omega)
     have HST := Lib.hid hst
     clear ho hm hm2 hst
     go_wp2_with (with_reducible refine slL (.tmp 28) (.tmp 29) j Tryz.sl_u8 (wn rfl) rfl rfl rfl hrw (by omega) (by omega) ?_)
     intro A' hcut
     rw [drop_bcs] at hcut
     go_wp2_with fail
     refine (refGetInt_any (l.drop j) _ _ _ _ _ hcut).mono ?_
     rintro e w1 ⟨rfl, rfl⟩
     rw [HO.out]
     clear hcut hrw
     go_wp2_with (at_builtin; with_reducible refine app1 _ _ Tryz.sl_int (wn rfl) rfl rfl rfl hown hb (Nat.le_refl _) rfl (by have := HA.out; omega) (by have := HA.out; omega) ?_)
     intro v' w' h3 h4 _
     clear hown hb
     go_wp2
     go_roundw
     case rel => exact ⟨k + 1, j + V, acc ++ [x], by omega, by go_num, by go_num, by omega, by have := HA.out; simp; omega, ownsRow_count h3 (by simp) (by simp [iv]), by have := HST.out; rwa [Int.toNat_natCast] at this, h4⟩
     case measure => (simp [intOf]; try omega)
    ·have hst := many_err ho (by omega) hm2
     have HST := Lib.hid hst
     clear ho hm hm2 hst
     rcases g3 with rfl | rfl
     all_goals
      go_wp2_with (with_reducible refine slL (.tmp 28) (.tmp 29) j Tryz.sl_u8 (wn rfl) rfl rfl rfl hrw (by omega) (by omega) ?_)
      intro A' hcut
      rw [drop_bcs] at hcut
      go_wp2_with fail
      refine (refGetInt_any (l.drop j) _ _ _ _ _ hcut).mono ?_
      rintro e w1 ⟨rfl, rfl⟩
      rw [HO.out]
      clear hcut hrw
      go_wp2
      go_ret3
      exact ⟨.slice none 0 0, 0, by rw [HST.out]; rfl, by rw [HST.out]; exact World.ownsRow_nil _ _ _ _, hb⟩
   ·obtain rfl : k = N := by omega
    have hm0 := hm.out
    rw [Nat.sub_self] at hm0
    have hst := many_end hm0
    have HST := Lib.hid hst
    clear hm hst hlt hm0
    go_wp2
    go_ret3
    exact ⟨u8, acc.length, by rw [HST.out]; rfl, by rw [HST.out]; exact hown, hb⟩
 ·rcases f3 with rfl | rfl
  all_goals
   go_enter Tryz.func88, Tryz.ntmps88
   go_wp2_with (go_at_call 114; refine (refLength_any l _ _ _ _ 1 _ hr (by omega) (by omega)).mono ?_; rintro e w1 ⟨rfl, rfl⟩; rw [HD.out])
   go_ret3
   exact ⟨.slice none 0 0, 0, by rw [HL.out, if_pos (by omega)]; rfl, by rw [HL.out, if_pos (by omega)]; exact World.ownsRow_nil _ _ _ _, Below.refl _ _⟩
theorem getInts_any (l : List UInt8) (A : Option Addr) (n c B : Nat) (w : World) (hr : Rd w B 1 A n c (bcs l)) (hB : B ≤ w.heap.size) (hlen : l.length ≤ 1099511627776) :
 Calls Tryz.prog 42 #[.slice A n c] w (RetL w 3 1 ((decI l).1.map iv) (decI l).2.1 (decI l).2.2) := by
 have H := getInt_list l A n c B w hr hB hlen
 go_enter Tryz.func42, Tryz.ntmps42
 go_wp2_with fail
 refine H.mono ?_
 clear H
 rintro e w1 ⟨v, m, rfl, hown, hb⟩
 go_wp2_with fail
 go_ret3
 exact ⟨_, _, rfl, hown, hb⟩
def RetA3 (w : World) (cs : List Value) (u err : Int) (en : Ending) (w' : World) : Prop :=
 en = .returned (.tuple #[.agg cs.toArray, .int .i64 u, .int .i64 err]) ∧ Below w.heap.size w w'
theorem take_bcs (l : List UInt8) (k : Nat) : (bcs l).take k = bcs (l.take k) := by rw [bcs, bcs, List.map_take]
theorem getDigest_any (l : List UInt8) (A : Option Addr) (n c B : Nat) (w : World) (hr : Rd w B 1 A n c (bcs l)) (hB : B ≤ w.heap.size) (h16 : 16 ≤ n) :
 Calls Tryz.prog 94 #[.slice A n c] w (RetA3 w (bcs (l.take 16)) 16 0) := by
 have hl : l.length = n := by have := hr.len; simpa [bcs] using this
 have hle := hr.le
 have hd16 : (bcs (l.take 16)).length = 16 := by rw [bcs_length, List.length_take]; omega
 obtain ⟨b, off, rfl, hb, hc0⟩ := (hr.alloc hB (.cells digZero 27)).cells (by omega)
 have hc : ∀ j u, (bcs (l.take 16))[j]? = some u → (w.alloc (.cells digZero 27)).cell? ⟨b, off + j, none⟩ = some u := by
  intro j u hj
  refine hc0 j u ?_
  rw [← take_bcs, List.getElem?_take] at hj
  split at hj
  ·exact hj
  ·cases hj
 have harr := fun w => run_arrayAt (P := Tryz.prog) w (arr := 27) (e := 5) (n := 16) (len := 16) (c := c) (A := some ⟨b, off, none⟩) kr_ (by omega)
 have H16 := Lib.hid hd16
 have HC := Lib.hid hc
 clear hl hd16 hc hc0
 go_enter Tryz.func94, Tryz.ntmps94
 go_wp2_with (first | (with_reducible refine alAgg Tryz.ag_dig (wn rfl) rfl ?_) | (with_reducible refine ldAgg (.tmp 7) (bcs (l.take 16)) Tryz.ag_dig (wn rfl) rfl rfl H16.out HC.out ?_) | (with_reducible refine stNew (.tmp 2) (.tmp 8) Tryz.ag_dig (wn rfl) rfl rfl rfl Tryz.ag_dig.zs (by rw [List.size_toArray]; exact H16.out) (by simpa using bcs_one (l.take 16)) ?_))
 (try simp only [Exit.inBlock, Exit.then])
 refine bodyPost_ret (v := .tuple #[.agg (bcs (l.take 16)).toArray, .int .i64 16, .int .i64 0]) ?_ rfl ?_
 ·exact res_cell3 (bcs (l.take 16)) Tryz.results94 Tryz.ag_dig _ rfl H16.out (cells_new _ _ _)
 ·exact ⟨rfl, (Below.refl _ _).alloc (Nat.le_refl _) _⟩
theorem Tryz.sl_dig : SlTy Tryz.prog 23 27 (.agg digZero) 16 16 := ⟨by kernel_rfl, by kernel_rfl, by simp [digZero, Value.cells], by decide⟩
theorem rd_aggN (w : World) (cs : List Value) (t : TypeId) (size n : Nat) (hs : cs.length = n * size) (h : n ≤ maxLen) : Rd (w.alloc (.cells cs.toArray t)) (w.heap.size + 1) size (some ⟨w.heap.size, 0, none⟩) n n cs := by
 refine ⟨hs, Nat.le_refl _, h, fun _ => ⟨w.heap.size, 0, rfl, by omega, cells_new w cs t⟩⟩
theorem dig_cut (l : List UInt8) (U k : Nat) : (l.drop U).take ((k + 1) * 16) = (l.drop U).take (k * 16) ++ (l.drop (U + k * 16)).take 16 := by
 rw [show (k + 1) * 16 = k * 16 + 16 from by omega, List.take_add, List.drop_drop]
theorem getDig_list (l : List UInt8) (A : Option Addr) (n c B : Nat) (w : World) (hr : Rd w B 1 A n c (bcs l)) (hB : B ≤ w.heap.size) (hlen : l.length ≤ 1099511627776) :
 Calls Tryz.prog 93 #[.slice A n c, .int .i64 16, .func (.func 94) #[] #[]] w (RetL w 27 16 (bcs (decD l).1) (decD l).2.1 (decD l).2.2) := by
 obtain rfl : l.length = n := by have := hr.len; simpa [bcs] using this
 have hcap := hr.cap
 have hle := hr.le
 unfold maxLen at hcap
 obtain ⟨a, b, e, hd⟩ : ∃ a b e, lenDec l 16 = (a, b, e) := ⟨_, _, _, rfl⟩
 have hf := lenDec_facts (by omega) hd
 have HL : Hid (decD l = if e ≠ 0 then ([], 0, e) else ((l.drop b.toNat).take (a.toNat * 16), b + a * 16, 0)) := by
  show _ = _
  unfold decD; rw [hd]
 have HD := Lib.hid hd
 clear hd
 rcases hf with ⟨rfl, f2, f3, f4, f5, f6, f7, f8⟩ | ⟨rfl, rfl, f3⟩
 ·obtain ⟨N, rfl⟩ := Int.eq_ofNat_of_zero_le f5
  obtain ⟨U, rfl⟩ := Int.eq_ofNat_of_zero_le (show 0 ≤ b by omega)
  go_enter Tryz.func93, Tryz.ntmps93
  go_wp2_with (go_at_call 79; refine (length_any l _ _ _ _ 16 _ hr (by omega) (by omega)).mono ?_; rintro e w1 ⟨rfl, rfl⟩; rw [HD.out])
  go_loopw [10, 12, 27] (fun atv v iv_ wr => ∃ k : Nat, k ≤ N ∧ iv_ = .int .i64 k ∧ atv = .int .i64 ((U : Int) + k * 16) ∧ wr.ownsRow w.heap.size 27 16 v k (bcs ((l.drop U).take (k * 16))) ∧ Below w.heap.size w wr)
   (fun _ _ iv_ _ => N - (intOf iv_).toNat)
  case atStart => exact ⟨0, Nat.zero_le _, rfl, by go_num, World.ownsRow_nil _ _ _ _, Below.refl _ _⟩
  case round =>
   obtain ⟨k, hk, rfl, rfl, hown, hb⟩ := hrel
   have hrw := hr.below (hb.mono hB)
   by_cases hlt : k < N
   ·have HT := Lib.hid (dig_cut l U k)
    go_wp2_with (with_reducible refine slL (.tmp 31) (.tmp 32) (U + k * 16) Tryz.sl_u8 (wn rfl) rfl rfl rfl hrw (by omega) (by omega) ?_)
    intro A' hcut
    rw [drop_bcs] at hcut
    go_wp2_with fail
    refine (getDigest_any (l.drop (U + k * 16)) _ _ _ _ _ hcut (by have := hb.size; omega) (by omega)).mono ?_
    rintro e w1 ⟨rfl, hb1⟩
    have hd16 : (bcs ((l.drop (U + k * 16)).take 16)).length = 16 := by rw [bcs_length, List.length_take, List.length_drop]; omega
    obtain ⟨D, hD⟩ : ∃ D, D = (l.drop (U + k * 16)).take 16 := ⟨_, rfl⟩
    rw [← hD] at hd16 ⊢
    have hownw := ownsRow_below hown hb1 (Nat.le_refl _)
    have hbw := hb.trans (hb1.mono hb.size)
    have H16 := Lib.hid hd16
    have HDD := Lib.hid hD
    clear hcut hrw hown hb hb1 hd16 hD
    go_wp2_with (first | (with_reducible refine alAgg Tryz.ag_dig (wn rfl) rfl ?_) | (with_reducible refine stNew (.tmp 13) (.tmp 35) Tryz.ag_dig (wn rfl) rfl rfl rfl Tryz.ag_dig.zs (by rw [List.size_toArray]; exact H16.out) (by simpa using bcs_one D) ?_) | (with_reducible refine ldAgg (.tmp 13) (bcs D) Tryz.ag_dig (wn rfl) rfl rfl H16.out (by intro j u hu; rw [World.cell?_alloc_at _ _ _ _ rfl]; simpa using hu) ?_) | (with_reducible refine bsAgg1 (.tmp 42) Tryz.sl_dig (wn rfl) rfl rfl (by rw [List.size_toArray]; exact H16.out) (by decide) ?_) | (at_builtin; with_reducible refine appR _ _ Tryz.sl_dig (wn rfl) rfl rfl rfl ((hownw.alloc _).alloc _) (rd_aggN _ (bcs D) _ 16 1 H16.out (by decide)) (bcs_one D) ((hbw.alloc hbw.size _).alloc (by have := hbw.size; simp; omega) _) (Nat.le_refl _) (by omega) (by omega) ?_))
    intro v' w' h3 h4 _
    clear hownw hbw
    go_wp2
    go_roundw
    case rel =>
     refine ⟨k + 1, by omega, by go_num, by go_num, ownsRow_count h3 rfl ?_, h4⟩
     rw [HT.out, bcs_append, HDD.out]
    case measure => (simp [intOf]; try omega)
   ·obtain rfl : k = N := by omega
    clear hlt hrw
    go_wp2
    go_ret3
    exact ⟨u12, k, by rw [HL.out, if_neg (by omega)]; rfl, by rw [HL.out, if_neg (by omega)]; exact hown, hb⟩
 ·rcases f3 with rfl | rfl
  all_goals
   go_enter Tryz.func93, Tryz.ntmps93
   go_wp2_with (go_at_call 79; refine (length_any l _ _ _ _ 16 _ hr (by omega) (by omega)).mono ?_; rintro e w1 ⟨rfl, rfl⟩; rw [HD.out])
   go_ret3
   exact ⟨.slice none 0 0, 0, by rw [HL.out, if_pos (by omega)]; rfl, by rw [HL.out, if_pos (by omega)]; exact World.ownsRow_nil _ _ _ _, Below.refl _ _⟩
theorem getDigs_any (l : List UInt8) (A : Option Addr) (n c B : Nat) (w : World) (hr : Rd w B 1 A n c (bcs l)) (hB : B ≤ w.heap.size) (hlen : l.length ≤ 1099511627776) :
 Calls Tryz.prog 44 #[.slice A n c] w (RetL w 27 16 (bcs (decD l).1) (decD l).2.1 (decD l).2.2) := by
 have H := getDig_list l A n c B w hr hB hlen
 go_enter Tryz.func44, Tryz.ntmps44
 go_wp2_with fail
 refine H.mono ?_
 clear H
 rintro e w1 ⟨v, m, rfl, hown, hb⟩
 go_wp2_with fail
 go_ret3
 exact ⟨_, _, rfl, hown, hb⟩
theorem refGetDigs_any (l : List UInt8) (A : Option Addr) (n c B : Nat) (w : World) (hr : Rd w B 1 A n c (bcs l)) (hB : B ≤ w.heap.size) (hlen : l.length ≤ 1099511627776) :
 Calls Tryz.prog 89 #[.slice A n c] w (RetL w 27 16 (bcs (decD l).1) (decD l).2.1 (decD l).2.2) := by
 obtain rfl : l.length = n := by have := hr.len; simpa [bcs] using this
 have hcap := hr.cap
 have hle := hr.le
 unfold maxLen at hcap
 obtain ⟨a, b, e, hd⟩ : ∃ a b e, lenDec l 16 = (a, b, e) := ⟨_, _, _, rfl⟩
 have hf := lenDec_facts (by omega) hd
 have HL : Hid (decD l = if e ≠ 0 then ([], 0, e) else ((l.drop b.toNat).take (a.toNat * 16), b + a * 16, 0)) := by
  show _ = _
  unfold decD; rw [hd]
 have HD := Lib.hid hd
 clear hd
 rcases hf with ⟨rfl, f2, f3, f4, f5, f6, f7, f8⟩ | ⟨rfl, rfl, f3⟩
 ·obtain ⟨N, rfl⟩ := Int.eq_ofNat_of_zero_le f5
  obtain ⟨U, rfl⟩ := Int.eq_ofNat_of_zero_le (show 0 ≤ b by omega)
  go_enter Tryz.func89, Tryz.ntmps89
  go_wp2_with (go_at_call 114; refine (refLength_any l _ _ _ _ 16 _ hr (by omega) (by omega)).mono ?_; rintro e w1 ⟨rfl, rfl⟩; rw [HD.out])
  go_loopw [6, 8, 9] (fun atv v iv_ wr => ∃ k : Nat, k ≤ N ∧ iv_ = .int .i64 k ∧ atv = .int .i64 ((U : Int) + k * 16) ∧ wr.ownsRow w.heap.size 27 16 v k (bcs ((l.drop U).take (k * 16))) ∧ Below w.heap.size w wr)
   (fun _ _ iv_ _ => N - (intOf iv_).toNat)
  case atStart => exact ⟨0, Nat.zero_le _, rfl, by go_num, World.ownsRow_nil _ _ _ _, Below.refl _ _⟩
  case round =>
   obtain ⟨k, hk, rfl, rfl, hown, hb⟩ := hrel
   have hrw := hr.below (hb.mono hB)
   by_cases hlt : k < N
   ·have HT := Lib.hid (dig_cut l U k)
    obtain ⟨wo, rfl⟩ : ∃ wo : World, wo = wr := ⟨_, rfl⟩
    go_wp2_with (with_reducible refine alAgg Tryz.ag_dig (wn rfl) rfl ?_)
    go_loopw [11] (fun iv_ w2 => ∃ (i : Nat) (cur : Array Value), i ≤ 16 ∧ iv_ = .int .i64 i ∧ w2 = wo.alloc (.cells cur 27) ∧ cur.size = 16 ∧ Hid (∀ m, m < i → cur[m]? = (bcs (l.drop (U + k * 16)))[m]?)) (fun iv_ _ => 16 - (intOf iv_).toNat)
    case atStart => exact ⟨0, digZero, by omega, rfl, rfl, Tryz.ag_dig.zs, (by intro m hm; omega)⟩
    case round =>
     obtain ⟨i, cur, hi, rfl, rfl, hcur, hpre⟩ := hrel
     by_cases hi16 : i < 16
     ·obtain ⟨y, hy, hyc⟩ : ∃ y, l[U + k * 16 + i]? = some y ∧ ∃ b off, A = some ⟨b, off, none⟩ ∧ b < B ∧ (wo.alloc (.cells cur 27)).cell? ⟨b, off + (U + k * 16 + i), none⟩ = some (.int .u8 (y.toNat : Int)) := by
       obtain ⟨b, off, u, e, hbB, hu, hc⟩ := (hrw.alloc (by have := hb.size; omega) (.cells cur 27)).at1 (show U + k * 16 + i < l.length by omega)
       rw [bcs, List.getElem?_map] at hu
       obtain ⟨y, hy, hyu⟩ := Option.map_eq_some_iff.1 hu
       exact ⟨y, hy, b, off, e, hbB, by rw [hc, ← hyu]; rfl⟩
      obtain ⟨b, off, rfl, hbB, hyc⟩ := hyc
      have hblt : b < wo.heap.size := by have := hb.size; omega
      have HC2 := Lib.hid hcur
      have HY := Lib.hid hy
      obtain ⟨old, hci⟩ : ∃ old, (wo.alloc (.cells cur 27)).cell? ⟨wo.heap.size, i, none⟩ = some old :=
       ⟨cur[i]'(by omega), by rw [World.cell?_alloc_at _ _ _ _ rfl]; simp [hcur, hi16]⟩
      clear hcur hy
      go_wp2
      go_roundw
      case rel =>
       refine ⟨i + 1, cur.setIfInBounds i (.int .u8 (y.toNat : Int)), by omega, by go_num, rfl, by rw [Array.size_setIfInBounds]; exact HC2.out, ?_⟩
       intro m hm
       rw [Array.getElem?_setIfInBounds, bcs, List.getElem?_map, List.getElem?_drop]
       by_cases hmi : i = m
       ·subst hmi
        rw [if_pos rfl, if_pos (by rw [HC2.out]; omega), HY.out]; rfl
       ·rw [if_neg hmi, hpre.out m (by omega), bcs, List.getElem?_map, List.getElem?_drop]
      case measure => (simp [intOf]; try omega)
     ·obtain rfl : i = 16 := by omega
      have hdl : 16 ≤ (l.drop (U + k * 16)).length := by rw [List.length_drop]; omega
      obtain ⟨D, hD⟩ : ∃ D, D = (l.drop (U + k * 16)).take 16 := ⟨_, rfl⟩
      have hd16 : (bcs D).length = 16 := by rw [bcs_length, hD, List.length_take]; omega
      have hcd : cur = (bcs D).toArray := by
       apply Array.ext_getElem?
       intro m
       by_cases hm : m < 16
       ·rw [hpre.out m hm, hD, ← take_bcs]
        simp [List.getElem?_take, hm]
       ·rw [Array.getElem?_eq_none (by omega), Array.getElem?_eq_none (by rw [List.size_toArray, hd16]; omega)]
      subst hcd
      have H16 := Lib.hid hd16
      have HDD := Lib.hid hD
      clear hd16 hD hdl hcur hpre hi16 hrw
      go_wp2_with (first | (with_reducible refine ldAgg (.tmp 10) (bcs D) Tryz.ag_dig (wn rfl) rfl rfl H16.out (by intro j u hu; rw [World.cell?_alloc_at _ _ _ _ rfl]; simpa using hu) ?_) | (with_reducible refine bsAgg1 (.tmp 39) Tryz.sl_dig (wn rfl) rfl rfl (by rw [List.size_toArray]; exact H16.out) (by decide) ?_) | (at_builtin; with_reducible refine appR _ _ Tryz.sl_dig (wn rfl) rfl rfl rfl ((hown.alloc _).alloc _) (rd_aggN _ (bcs D) _ 16 1 H16.out (by decide)) (bcs_one D) ((hb.alloc hb.size _).alloc (by have := hb.size; simp; omega) _) (Nat.le_refl _) (by omega) (by omega) ?_))
      intro v' w' h3 h4 _
      clear hown hb
      go_wp2
      go_roundw
      case rel =>
       refine ⟨k + 1, by omega, by go_num, by go_num, ownsRow_count h3 rfl ?_, h4⟩
       rw [HT.out, bcs_append, HDD.out]
      case measure => (simp [intOf]; try omega)
   ·obtain rfl : k = N := by omega
    clear hlt hrw
    go_wp2
    go_ret3
    exact ⟨u8, k, by rw [HL.out, if_neg (by omega)]; rfl, by rw [HL.out, if_neg (by omega)]; exact hown, hb⟩
 ·rcases f3 with rfl | rfl
  all_goals
   go_enter Tryz.func89, Tryz.ntmps89
   go_wp2_with (go_at_call 114; refine (refLength_any l _ _ _ _ 16 _ hr (by omega) (by omega)).mono ?_; rintro e w1 ⟨rfl, rfl⟩; rw [HD.out])
   go_ret3
   exact ⟨.slice none 0 0, 0, by rw [HL.out, if_pos (by omega)]; rfl, by rw [HL.out, if_pos (by omega)]; exact World.ownsRow_nil _ _ _ _, Below.refl _ _⟩
theorem decGo_canon : ∀ (l : List UInt8) (k acc : Nat) (n u : Int), k ≤ 9 → decGo l k acc = (n, u, 0) →
 (k : Int) < u ∧ ∃ z, l.take (u.toNat - k) = encN (9 - k) z ∧ n = unzz (acc + z * 128 ^ k) ∧ (k = 0 ∨ 0 < z)
 | [], k, acc, n, u, hk, h => by simp [decGo] at h
 | c :: t, k, acc, n, u, hk, h => by
  rw [decGo] at h
  by_cases h1 : (k = 9 ∧ 1 < c.toNat) ∨ (0 < k ∧ c.toNat = 0)
  ·rw [if_pos h1] at h; simp at h
  ·rw [if_neg h1] at h
   by_cases h2 : c.toNat < 128
   ·rw [if_pos h2] at h
    simp only [Prod.mk.injEq, and_true] at h
    obtain ⟨h3, h4⟩ := h
    refine ⟨by omega, c.toNat, ?_, ?_, by omega⟩
    ·rw [encN_last _ _ h2, show u.toNat - k = 1 from by omega]
     simp
    ·rw [← h3, Nat.mod_eq_of_lt h2]
   ·rw [if_neg h2] at h
    have hk9 : k + 1 ≤ 9 := by omega
    obtain ⟨h5, z, h6, h7, h8⟩ := decGo_canon t (k + 1) _ n u hk9 h
    have hz : 0 < z := by omega
    have hc := c.toNat_lt
    refine ⟨by omega, z * 128 + (c.toNat - 128), ?_, ?_, by omega⟩
    ·have e1 : 9 - k = (9 - (k + 1)) + 1 := by omega
     have e2 : u.toNat - k = (u.toNat - (k + 1)) + 1 := by omega
     rw [e2, List.take_succ_cons, h6, e1, encN_step _ _ (by omega)]
     have e3 : (z * 128 + (c.toNat - 128)) % 128 + 128 = c.toNat := by omega
     have e4 : (z * 128 + (c.toNat - 128)) / 128 = z := by omega
     rw [e3, e4]
     simp
    ·rw [h7]
     congr 1
     rw [Nat.pow_succ, Nat.add_mul, show c.toNat % 128 = c.toNat - 128 from by omega, Nat.mul_assoc, Nat.mul_comm 128 (128 ^ k)]
     omega
theorem dec_canon {l : List UInt8} {n u : Int} (h : dec l = (n, u, 0)) : l.take u.toNat = enc n := by
 obtain ⟨h1, z, h2, h3, _⟩ := decGo_canon l 0 0 n u (by omega) h
 simp at h2 h3
 rw [h2, h3, enc, zz_unzz]
theorem lenDec_dec {l : List UInt8} {least : Nat} {n u : Int} (h : lenDec l least = (n, u, 0)) : dec l = (n, u, 0) := by
 obtain ⟨a, b, c, hd⟩ : ∃ a b c, dec l = (a, b, c) := ⟨_, _, _, rfl⟩
 unfold lenDec at h
 rw [hd] at h ⊢
 simp only at h
 split at h
 ·rename_i hc; simp only [Prod.mk.injEq] at h; exact absurd h.2.2 hc
 ·rename_i hc
  split at h
  ·simp at h
  ·split at h
   ·simp at h
   ·simp only [Prod.mk.injEq] at h
    obtain ⟨rfl, rfl, _⟩ := h
    have : c = 0 := by omega
    rw [this]
theorem decS_canon {l s : List UInt8} {u : Int} (h : decS l = (s, u, 0)) : l.take u.toNat = encS s ∧ 0 ≤ u ∧ u ≤ l.length := by
 obtain ⟨a, b, c, hd⟩ : ∃ a b c, lenDec l 1 = (a, b, c) := ⟨_, _, _, rfl⟩
 have hf := lenDec_facts (by omega) hd
 unfold decS at h
 rw [hd] at h
 by_cases h1 : c = 0
 ·subst h1
  have hc := dec_canon (lenDec_dec hd)
  simp at h
  obtain ⟨rfl, rfl⟩ := h
  refine ⟨?_, by omega, by omega⟩
  unfold encS
  have e : ((l.drop b.toNat).take a.toNat).length = a.toNat := by rw [List.length_take, List.length_drop]; omega
  rw [e, show ((a.toNat : Nat) : Int) = a from by omega, ← hc, show (b + a).toNat = b.toNat + a.toNat from by omega, List.take_add]
 ·simp [h1] at h
section
variable {α : Type} {one : List UInt8 → α × Int × Int} {e : α → List UInt8}
theorem many_canon (l : List UInt8) (hone : ∀ m x u, one m = (x, u, 0) → m.take u.toNat = e x ∧ 0 ≤ u ∧ u ≤ m.length) : ∀ (n at_ : Nat) (acc r : List α) (u : Int), at_ ≤ l.length → many one l n at_ acc = (r, u, 0) →
 ∃ xs : List α, r = acc ++ xs ∧ xs.length = n ∧ (at_ : Int) ≤ u ∧ u ≤ l.length ∧ l.take u.toNat = l.take at_ ++ (xs.map e).flatten
 | 0, at_, acc, r, u, hle, h => by
  rw [many] at h
  simp only [Prod.mk.injEq] at h
  obtain ⟨rfl, rfl, _⟩ := h
  exact ⟨[], by simp, rfl, by omega, by omega, by simp⟩
 | n + 1, at_, acc, r, u, hle, h => by
  obtain ⟨x, v, c, hx⟩ : ∃ x v c, one (l.drop at_) = (x, v, c) := ⟨_, _, _, rfl⟩
  rw [many, hx] at h
  by_cases hc : c = 0
  ·subst hc
   simp only [ne_eq, not_true_eq_false, if_false] at h
   obtain ⟨h1, h2, h3⟩ := hone _ _ _ hx
   rw [List.length_drop] at h3
   obtain ⟨xs, rfl, h5, h6, h7, h8⟩ := many_canon l hone n (at_ + v.toNat) _ r u (by omega) h
   refine ⟨x :: xs, by simp, by simp [h5], by omega, h7, ?_⟩
   rw [h8, List.take_add, h1]
   simp
  ·simp [hc] at h
end
theorem decList_canon {α : Type} {one : List UInt8 → α × Int × Int} {e : α → List UInt8} (hone : ∀ m x u, one m = (x, u, 0) → m.take u.toNat = e x ∧ 0 ≤ u ∧ u ≤ m.length) {l : List UInt8} {r : List α} {u : Int} (h : decList one l = (r, u, 0)) :
 l.take u.toNat = enc r.length ++ (r.map e).flatten ∧ 0 ≤ u ∧ u ≤ l.length := by
 obtain ⟨a, b, c, hd⟩ : ∃ a b c, lenDec l 1 = (a, b, c) := ⟨_, _, _, rfl⟩
 have hf := lenDec_facts (by omega) hd
 unfold decList at h
 rw [hd] at h
 by_cases h1 : c = 0
 ·subst h1
  have hc := dec_canon (lenDec_dec hd)
  simp only [ne_eq, not_true_eq_false, if_false] at h
  obtain ⟨xs, h2, h3, h4, h5, h6⟩ := many_canon l hone a.toNat b.toNat [] r u (by omega) h
  simp only [List.nil_append] at h2
  subst h2
  refine ⟨?_, by omega, h5⟩
  rw [h6, hc, h3, show ((a.toNat : Nat) : Int) = a from by omega]
 ·simp [h1] at h
theorem dec_canon' (m : List UInt8) (x u : Int) (h : dec m = (x, u, 0)) : m.take u.toNat = enc x ∧ 0 ≤ u ∧ u ≤ m.length := by
 refine ⟨dec_canon h, ?_⟩
 rcases dec_facts h with ⟨_, h1, _, h2, _⟩ | ⟨_, h1, h2⟩ <;> omega
theorem decI_canon {l : List UInt8} {r : List Int} {u : Int} (h : decI l = (r, u, 0)) : l.take u.toNat = encI r ∧ 0 ≤ u ∧ u ≤ l.length := decList_canon dec_canon' h
theorem decD_canon {l D : List UInt8} {u : Int} (h : decD l = (D, u, 0)) : l.take u.toNat = encD (D.length / 16) D ∧ D.length % 16 = 0 ∧ 0 ≤ u ∧ u ≤ l.length := by
 obtain ⟨a, b, c, hd⟩ : ∃ a b c, lenDec l 16 = (a, b, c) := ⟨_, _, _, rfl⟩
 have hf := lenDec_facts (by omega) hd
 unfold decD at h
 rw [hd] at h
 by_cases h1 : c = 0
 ·subst h1
  have hc := dec_canon (lenDec_dec hd)
  simp at h
  obtain ⟨rfl, rfl⟩ := h
  have e : ((l.drop b.toNat).take (a.toNat * 16)).length = a.toNat * 16 := by rw [List.length_take, List.length_drop]; omega
  refine ⟨?_, by rw [e]; omega, by omega, by omega⟩
  unfold encD
  rw [e, show ((a.toNat * 16 / 16 : Nat) : Int) = a from by omega, ← hc, show (b + a * 16).toNat = b.toNat + a.toNat * 16 from by omega, List.take_add]
 ·simp [h1] at h
end Go.Proofs.YtgjgjimgomhbmaaGreatDoor
namespace Go.Proofs.YtgjgjimgomhbmaaGreatDoor
open Go.RowKit Go.ChangeShapes Go.WideShapes
section
variable {H : Type} {enc : TypeId × Value → H} {P : Program} {w : World} {base : Nat} {held : Bool}
theorem chunk_get {α : Type} (f : Nat → List α) (n s : Nat) (hs : 0 < s) (hl : ∀ i, i < n → (f i).length = s) (j : Nat) (u : α) (h : ((List.range n).flatMap f)[j]? = some u) :
 j / s < n ∧ (f (j / s))[j % s]? = some u := by
 induction n generalizing j with
 | zero => simp at h
 | succ n ih =>
  rw [List.range_succ, List.flatMap_append] at h
  have hlen : ((List.range n).flatMap f).length = n * s := by
   clear h ih
   induction n with
   | zero => simp
   | succ n ih2 =>
    rw [List.range_succ, List.flatMap_append, List.length_append, ih2 (fun i hi => hl i (by omega))]
    simp [hl n (by omega), Nat.add_mul]
  rcases Nat.lt_or_ge j (n * s) with hj | hj
  ·rw [List.getElem?_append_left (by omega)] at h
   obtain ⟨h1, h2⟩ := ih (fun i hi => hl i (by omega)) j h
   exact ⟨by omega, h2⟩
  ·rw [List.getElem?_append_right (by omega), hlen] at h
   simp only [List.flatMap_cons, List.flatMap_nil, List.append_nil] at h
   have hlt : j - n * s < s := by
    have := (List.getElem?_eq_some_iff.1 h).1
    rw [hl n (by omega)] at this; exact this
   have hd : j / s = n := by
    rw [show j = (j - n * s) + n * s from by omega, Nat.add_mul_div_right _ _ hs, Nat.div_eq_of_lt hlt, Nat.zero_add]
   have hm : j % s = j - n * s := by
    rw [show j = (j - n * s) + n * s from by omega, Nat.add_mul_mod_self_right, Nat.mod_eq_of_lt hlt]; omega
   rw [hd, hm]
   exact ⟨by omega, h⟩
theorem br_slice {α : Type} {t e : TypeId} {s : Nat} (f : α → List Value) (R : α → DataW H → Prop) (ht : P.underlying t = some (.slice e)) (hs : P.cellsOf e = s) (hpos : 0 < s)
 (el : ∀ fuel cs' d pl, cs'.length = s → DataW.trod enc P w base (fun _ => true) held fuel e cs' = some (d, pl) → ∃ x : α, cs' = f x ∧ R x d)
 {fuel : Nat} {cs : List Value} {x : DataW H × List MemPlace} (h : DataW.trod enc P w base (fun _ => true) held fuel t cs = some x) :
 ∃ (A : Option Addr) (n c : Nat) (xs : List α) (D sp : List (DataW H)), cs = [.slice A n c] ∧ xs.length = n ∧ Rd w w.heap.size s A n c (xs.flatMap f) ∧
  (∀ y ∈ xs, (f y).length = s) ∧ (x.1 = .slice D sp ∨ x.1 = .nil ∧ n = 0) ∧ D.length = n ∧ (∀ (i : Nat) (y : α), xs[i]? = some y → ∃ d, D[i]? = some d ∧ R y d) := by
 rcases Deep.open_slice ht h with ⟨rfl, rfl⟩ | ⟨a, len, cap, m, k, D, Pl, rfl, hb, hl, hm, hmc, rfl, hel⟩
 ·exact ⟨none, 0, 0, [], [], [], rfl, rfl, Rd.nil _ _ _, by simp, Or.inr ⟨rfl, rfl⟩, rfl, by simp⟩
 ·simp only [if_true] at hmc
  subst hmc
  by_cases h0 : len = 0
  ·subst h0
   exact ⟨some a, 0, m, [], [], _, rfl, rfl, ⟨by simp, Nat.zero_le _, hm, fun hh => absurd hh (by omega)⟩, by simp, Or.inl rfl, rfl, by simp⟩
  have each : ∀ i, i < len → ∃ y : α, w.cells? base (a.add (i * s)) s = some (f y) ∧ (f y).length = s ∧ R y (D i) := by
   intro i hi
   obtain ⟨cs', hc, ht'⟩ := hel i (by omega)
   rw [hs] at hc
   have hcl := (World.cells?_some hc).2.1
   obtain ⟨y, rfl, hR⟩ := el k cs' _ _ hcl ht'
   exact ⟨y, hc, hcl, hR⟩
  obtain ⟨y0, _⟩ := each 0 (by omega)
  have : Inhabited α := ⟨y0⟩
  obtain ⟨F, hF⟩ := Deep.choose_lt each
  obtain ⟨hc0, hl0, _⟩ := hF 0 (by omega)
  have hget : ∀ i, i < len → ∀ j u, (f (F i))[j]? = some u → w.cell? (a.add (i * s + j)) = some u := by
   intro i hi j u hj
   have hjl := (List.getElem?_eq_some_iff.1 hj).1
   rw [(hF i hi).2.1] at hjl
   have := (World.cells?_some (hF i hi).1).2.2 j hjl
   rw [hj, Deep.add_add] at this
   exact this
  have hspot : a = ⟨a.block, a.off, none⟩ := by
   obtain ⟨u, hu⟩ : ∃ u, (f (F 0))[0]? = some u := ⟨(f (F 0))[0]'(by omega), List.getElem?_eq_getElem (by omega)⟩
   have hc := hget 0 (by omega) 0 u hu
   rw [Nat.zero_mul, Nat.zero_add] at hc
   cases a with
   | mk b o spo =>
    cases spo with
    | none => rfl
    | some q =>
     exfalso
     simp only [Addr.add, if_true] at hc
     unfold World.cell? at hc
     split at hc <;> simp at hc
  have hadd : ∀ j, a.add j = ⟨a.block, a.off + j, none⟩ := by
   intro j
   unfold Addr.add
   split
   ·rename_i hj; subst hj; exact hspot
   ·rfl
  refine ⟨some a, len, m, (List.range len).map F, (List.range len).map D, _, rfl, by simp, ?_, ?_, Or.inl rfl, by simp, ?_⟩
  ·have hfl : ((List.range len).map F).flatMap f = (List.range len).flatMap fun i => f (F i) := by rw [List.flatMap_map]
   rw [hfl]
   refine ⟨?_, hl, hm, fun _ => ⟨a.block, a.off, congrArg some hspot, ?_, fun j u hj => ?_⟩⟩
   ·rw [List.length_flatMap]
    have e : (List.range len).map (fun i => (f (F i)).length) = (List.range len).map fun _ => s := List.map_congr_left fun i hi => (hF i (List.mem_range.1 hi)).2.1
    rw [e, List.map_const', List.length_range]; simp [List.sum_replicate_nat]
   ·obtain ⟨u, hu⟩ : ∃ u, (f (F 0))[0]? = some u := ⟨(f (F 0))[0]'(by omega), List.getElem?_eq_getElem (by omega)⟩
    have hc := hget 0 (by omega) 0 u hu
    rw [hadd] at hc
    exact World.block_lt_of_cell? w ⟨a.block, _, none⟩ hc
   ·obtain ⟨h1, h2⟩ := chunk_get (fun i => f (F i)) len s hpos (fun i hi => (hF i hi).2.1) j u hj
    have := hget _ h1 _ _ h2
    rw [hadd] at this
    rw [show j = j / s * s + j % s from (Nat.div_add_mod' j s).symm]
    exact this
  ·intro y hy
   obtain ⟨i, hi, rfl⟩ := List.mem_map.1 hy
   exact (hF i (List.mem_range.1 hi)).2.1
  ·intro i y hy
   rw [List.getElem?_map] at hy
   obtain ⟨i', hi', rfl⟩ := Option.map_eq_some_iff.1 hy
   have hlt : i < len := by
    have := (List.getElem?_eq_some_iff.1 hi').1
    simpa using this
   have : i' = i := by
    have h := List.getElem?_range hlt
    rw [h] at hi'; exact (Option.some.inj hi').symm
   subst this
   exact ⟨D i', by rw [List.getElem?_map, hi']; rfl, (hF i' hlt).2.2⟩
theorem br_arr {t e : TypeId} {n : Nat} {k : IntKind} (ht : P.underlying t = some (.array n e)) (he : P.underlying e = some (.int k)) (hc : P.cellsOf e = 1) (hct : P.cellsOf t = n)
 {fuel : Nat} {cs : List Value} {x : DataW H × List MemPlace} {spare : Nat → Bool} (h : DataW.trod enc P w base spare held fuel t cs = some x) :
 ∃ zs : List Int, cs = zs.map (Value.int k) ∧ zs.length = n ∧ (∀ z ∈ zs, (Lit.int k z).wf = true) ∧ x = (.agg (zs.map fun z => .lit (.int k z)), []) := by
 obtain ⟨xs, m, _, rfl, hl, hxn, hel⟩ := DataW.trod_array ht h
 rw [hct] at hl
 have each : ∀ i, i < n → ∃ z, cs[i]? = some (.int k z) ∧ (Lit.int k z).wf = true ∧ xs[i]? = some (.lit (.int k z), []) := by
  intro i hi
  have h1 := hel i hi
  rw [hc, Nat.mul_one] at h1
  have hi' : i < cs.length := by omega
  have h2 : (cs.drop i).take 1 = [cs[i]] := by rw [List.drop_eq_getElem_cons hi']; rfl
  rw [h2] at h1
  have hi2 : i < xs.length := by omega
  rw [List.getElem?_eq_getElem hi2] at h1
  obtain ⟨z, hz1, hz2, hz3⟩ := DataW.trod_int he h1
  injection hz1 with hz1 _
  exact ⟨z, by rw [List.getElem?_eq_getElem hi', hz1], hz3, by rw [List.getElem?_eq_getElem hi2, hz2]⟩
 obtain ⟨F, hF⟩ := Deep.choose_lt each
 refine ⟨(List.range n).map F, ?_, by simp, ?_, ?_⟩
 ·apply List.ext_getElem?
  intro i
  by_cases hi : i < n
  ·rw [(hF i hi).1]; simp [hi]
  ·rw [List.getElem?_eq_none (by omega), List.getElem?_eq_none (by simp; omega)]
 ·intro z hz
  obtain ⟨i, hi, rfl⟩ := List.mem_map.1 hz
  exact (hF i (List.mem_range.1 hi)).2.1
 ·have e : xs = (List.range n).map fun i => ((.lit (.int k (F i)), []) : DataW H × List MemPlace) := by
   apply List.ext_getElem?
   intro i
   by_cases hi : i < n
   ·rw [(hF i hi).2.2]; simp [hi]
   ·rw [List.getElem?_eq_none (by omega), List.getElem?_eq_none (by simp; omega)]
  rw [e]
  simp [Function.comp_def]
theorem flat_one {α β : Type} (f : α → β) : ∀ l : List α, l.map f = l.flatMap fun x => [f x]
 | [] => rfl
 | x :: l => by rw [List.map_cons, List.flatMap_cons, flat_one f l]; rfl
theorem u8_list (zs : List Int) (h : ∀ z ∈ zs, (Lit.int .u8 z).wf = true) : zs.map (Value.int .u8) = bcs (zs.map fun z => UInt8.ofNat z.toNat) := by
 rw [bcs, List.map_map]
 refine List.map_congr_left fun z hz => ?_
 have hb := h z hz
 have hb' : 0 ≤ z ∧ z ≤ 255 := by simpa [Lit.wf, IntKind.min, IntKind.max, IntKind.signed, IntKind.bits] using hb
 simp only [Function.comp_def, bc]
 congr 1
 simp
 omega
theorem bcs_flat (xs : List (List UInt8)) : xs.flatMap bcs = bcs xs.flatten := by
 rw [bcs, List.map_flatten, List.flatMap_def]; rfl
theorem br_dig {t b : TypeId} {n : Nat} (ht : P.underlying t = some (.array n b)) (hb : P.underlying b = some (.int .u8)) (hcb : P.cellsOf b = 1) (hct : P.cellsOf t = n) {W : World} {r : Reach} {b0 : Nat} {v : Value} {d : DataW H} {pl : List MemPlace}
 (hval : Value.okWide P W r b0 t v) (h : DataW.Trod enc P w base (fun _ => true) held t v d pl) : ∃ l : List UInt8, v = .agg (bcs l).toArray ∧ l.length = n := by
 simp only [Value.okWide, ht] at hval
 obtain ⟨cs, rfl, _, _⟩ := hval
 obtain ⟨fuel, hf⟩ := h
 obtain ⟨zs, hcs, hl, hz, _⟩ := br_arr ht hb hcb hct hf
 refine ⟨zs.map fun z => UInt8.ofNat z.toNat, ?_, by rw [List.length_map]; exact hl⟩
 have h2 : cs.toList = zs.map (Value.int .u8) := hcs
 rw [← u8_list zs hz, ← h2]
end
end Go.Proofs.YtgjgjimgomhbmaaGreatDoor
namespace Go.Proofs.YtgjgjimgomhbmaaGreatDoor
open Go.RowKit
end Go.Proofs.YtgjgjimgomhbmaaGreatDoor
