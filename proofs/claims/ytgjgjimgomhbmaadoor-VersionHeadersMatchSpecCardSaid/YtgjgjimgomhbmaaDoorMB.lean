/-
  MB: several texts in one. No statement is proved here.
-/
import Derived.Test.YtgjgjimgomhbmaaDoorMA
import Derived.Deep.DeepCutAuto
import Derived.ProofKit
import Derived.OpenShut
import Derived.Deep.Slices
import Derived.SizedLaws
import Derived.Deep.CondSized
import Derived.IntWalk
import Derived.Laws.StructEq
import Derived.Test.YtgjgjimgomhbmaaDoorRows
import Derived.Laws.OwnMore
import Derived.Laws.EntriesVeiled
set_option linter.unusedVariables false
set_option linter.unusedSimpArgs false
namespace Go.Proofs.YtgjgjimgomhbmaaDoor
open Go.RowKit
theorem Tryd.und_str : Tryd.prog.underlying 9 = some .string := by kernel_rfl
theorem Tryd.und_u8 : Tryd.prog.underlying 5 = some (.int .u8) := by kernel_rfl
theorem sha_stOf (m : List UInt8) : sha m = outOf (stOf (m ++ padding m.length)) := rfl
set_option maxRecDepth 100000 in
set_option maxHeartbeats 1000000 in
theorem strSum_any (m : List UInt8) (v : Value) (w : World) (ht : Tabs w) (hm : IsStr m v) (hl : m.length ≤ 1000000000000) : Calls Tryd.prog 82 #[v] w fun e w' => e = .returned (.agg (bcs (sha m)).toArray) ∧ Below w.heap.size w w' := by
  obtain ⟨blk, hok, rfl⟩ := hm
  generalize hn : m.length = n at *
  go_enter Tryd.func82, Tryd.ntmps82
  go_wp2_with (first | (with_reducible refine bxArr (cs := stCells (stOf m) blk n) (.tmp 0) (wn rfl) rfl rfl ?_) | (with_reducible refine alArr (z := zerosB 32) Tryd.ag_b32 (wn rfl) rfl ?_))
  intro w1 h1 hb
  go_wp2_with (first | (with_reducible refine alArr (z := zerosB 32) Tryd.ag_b32 (wn rfl) rfl ?_))
  intro w2 h2 hb2
  have hg := h1.lt
  replace h1 := h1.below hb2 h1.lt
  replace hb := hb.trans (hb2.mono hb.size)
  clear hb2
  have hg2 := h2.lt
  generalize w1.heap.size = g2 at *
  have cn := h1.cell (stCells_at_n (stOf m) n hok.len)
  have hp := padLen_pos n
  have HN := Lib.hid hn
  clear hn
  have hown := World.ownsRow_lit (base := w2.heap.size) (e := 5) (size := 1) w2 #[.int .u8 128] 1 (Nat.le_refl _) (by unfold maxLen; omega) rfl
  have hb3 : Below w2.heap.size w2 (w2.alloc (.cells #[.int .u8 128] 5)) := (Below.refl _ _).alloc (Nat.le_refl _) _
  go_wp2_with fail
  go_loopw [4] (fun v wr => ∃ k : Nat, k ≤ padLen n - 1 ∧ wr.ownsRow w2.heap.size 5 1 v (1 + k) (bcs (128 :: List.replicate k 0)) ∧ Below w2.heap.size w2 wr) (fun v _ => padLen n - (match v with | .slice _ m _ => m | _ => 0))
  case atStart => exact ⟨0, by omega, hown, hb3⟩
  case round =>
    clear hown hb3
    obtain ⟨k, hk, hown, hb3⟩ := hrel
    obtain ⟨A3, c3, rfl, _⟩ := Rd.of_own hown
    have cn := (hb3.cell (p := ⟨w.heap.size, 72, none⟩) (show w.heap.size < w2.heap.size by omega)).trans cn
    have hpd := pad_done n k hk
    by_cases hd : k = padLen n - 1
    · have hd' : (n + 1 + k) % 64 = 56 := hpd.2 hd
      have HD := Lib.hid hd
      have hbq : (((n : Int) + (1 + (k : Int))) % 64 != 56) = false := by rw [bne_eq_false_iff_eq]; omega
      clear hpd hd hd'
      go_wp2_with fail
      clear hbq
      go_loopw [4, 23] (fun v iv_ wr => ∃ i : Nat, i ≤ 8 ∧ iv_ = .int .i64 i ∧ wr.ownsRow w2.heap.size 5 1 v (1 + k + i) (bcs (128 :: (List.replicate k 0 ++ (be8 (8 * n)).take i))) ∧ Below w2.heap.size w2 wr) (fun _ iv_ _ => 8 - (intOf iv_).toNat)
      case atStart => exact ⟨0, by omega, rfl, by simpa using hown, hb3⟩
      case round =>
        clear hown hb3 cn
        rename_i wo wr
        obtain ⟨i, hi8, rfl, hown, hb3⟩ := hrel
        obtain ⟨A4, c4, rfl, _⟩ := Rd.of_own hown
        by_cases hi : i < 8
        · have e1 : (56 - 8 * (i : Int)).toNat = 56 - 8 * i := by omega
          go_wp2_with (at_builtin; with_reducible refine app1 _ _ Tryd.sl_u8 (wn rfl) rfl rfl rfl hown hb3 (Nat.le_refl _) rfl (by omega) (by omega) ?_)
          intro v5 w5 hown5 hb5 _
          rw [shr_byte, bcs_snoc] at hown5
          clear hown hb3
          have hnx := be8_next (8 * n) i hi
          have HNX := Lib.hid hnx
          clear hnx
          go_wp2_with fail
          go_roundw
          case rel => exact ⟨i + 1, by omega, by go_num, ownsRow_count hown5 (by omega) (by rw [← HNX.out]; congr 1; simp), hb5⟩
          case measure => simp [intOf]; omega
        · obtain rfl : i = 8 := by omega
          have hpd : 128 :: (List.replicate k 0 ++ (be8 (8 * n)).take 8) = padding n := by rw [HD.out]; rfl
          rw [hpd] at hown
          obtain ⟨_, _, hv, hrd⟩ := Rd.of_own hown
          cases hv
          have hpl : (padding n).length = 1 + k + 8 := by rw [← hpd]; simp [be8]; omega
          have HPL := Lib.hid hpl
          clear hpd hpl hown
          replace h1 := h1.below hb3 h1.lt
          replace h2 := h2.below hb3 h2.lt
          replace hb := hb.trans (hb3.mono hb.size)
          clear hb3 cn
          have hIs : IsStr m (.agg (stCells (stOf m) blk n).toArray) := ⟨blk, hok, by rw [HN.out]⟩
          have ht' := ht.below hb ht.size
          have hadd := add_any m (padding n) _ wr ht' hIs (by rw [HN.out, HPL.out]; omega)
          have hk64 := padLen_pos n
          clear hIs ht'
          have hsha : sha m = outOf (stOf (m ++ padding n)) := by rw [← HN.out]; exact sha_stOf m
          have HS := Lib.hid hsha
          clear hsha
          generalize m ++ padding n = M at *
          unfold sv at hadd
          go_wp2_with (first | (with_reducible refine ldArr (.tmp 1) Tryd.ag_str (wn rfl) rfl rfl (stCells_len _ _ hok.len) h1 ?_) | (with_reducible refine convStr (.tmp 37) (padding n) Tryd.sl_u8.und Tryd.und_u8 Tryd.und_str (wn rfl) rfl rfl hrd ?_))
          refine hadd.mono ?_
          rintro e w5 ⟨v', rfl, ⟨blk2, hok2, rfl⟩, hb5⟩
          replace h1 := h1.below hb5 h1.lt
          replace h2 := h2.below hb5 h2.lt
          replace hb := hb.trans (hb5.mono hb.size)
          clear hb5 hadd hrd
          go_wp2_with (with_reducible refine stArr (cs := stCells (stOf M) blk2 M.length) (.tmp 1) (.tmp 39) Tryd.ag_str (wn rfl) rfl rfl rfl h1 (stCells_len _ _ hok.len) (stCells_len _ _ hok2.len) (stCells_one _ _ _) ?_)
          intro w6 h1 hkeep hbel
          replace h2 := hkeep _ _ _ (by omega) h2
          replace hb := hb.trans (hbel _ (Nat.le_refl _))
          clear hkeep hbel
          go_wp2_with (with_reducible refine alArr (z := zerosB 32) Tryd.ag_b32 (wn rfl) rfl ?_)
          intro wa h12 hba
          have hg12 := h2.lt
          have hg12' := h1.lt
          replace h1 := h1.below hba h1.lt
          replace h2 := h2.below hba h2.lt
          replace hb := hb.trans (hba.mono hb.size)
          clear hba
          generalize w6.heap.size = g12 at *
          have k1 : g12 ≠ w.heap.size := by omega
          have k2 : g12 ≠ g2 := by omega
          have k3 : w.heap.size ≤ g12 := by omega
          clear hg12 hg12'
          have hshl : (sha m).length = 32 := by rw [HS.out]; exact outOf_len _
          have HSL := Lib.hid hshl
          have HG := Lib.hid (fun (s : St) => outOf_get s)
          clear hshl
          generalize stOf M = sq at *
          rw [← laidB_0 (sha m)] at h12
          go_wp2_with fail
          go_loopw [40] (fun iv_ wr => ∃ i : Nat, i ≤ 32 ∧ iv_ = .int .i64 i ∧ Arr wr w.heap.size 105 (stCells sq blk2 M.length) ∧ Arr wr g2 109 (zerosB 32) ∧ Arr wr g12 109 (laidB (sha m) 32 i) ∧ Below w.heap.size w wr) (fun iv_ _ => 32 - (intOf iv_).toNat)
          case atStart => exact ⟨0, by omega, rfl, h1, h2, h12, hb⟩
          case round =>
            clear h1 h2 h12 hb
            rename_i wo2 wr
            obtain ⟨i, hi32, rfl, h1, h2, h12, hb⟩ := hrel
            by_cases hi : i < 32
            · have c1 : wr.cell? ⟨w.heap.size, i / 4, none⟩ = some (.int .u32 (nth sq.list (i / 4))) := h1.cell (stCells_get sq _ _ (by omega))
              have c2 := h12.cell (laidB_at (sha m) 32 i HSL.out hi)
              have f1 := h12.thaw i
              have i1 : ((i : Int) / 4).toNat = i / 4 := by omega
              have i2 : (24 - 8 * ((i : Int) % 4)).toNat = 24 - 8 * (i % 4) := by omega
              have hgb := laidB_next (sha m) 32 i _ HSL.out (by rw [HS.out]; exact HG.out sq i hi)
              have HB := Lib.hid hgb
              clear hgb
              go_wp2_with fail
              rw [out_byte]
              go_roundw
              case rel =>
                refine ⟨i + 1, by omega, by go_num, h1.other k1 _ _, h2.other k2 _ _, ?_, hb.setCell (show w.heap.size ≤ g12 from k3) _⟩
                rw [← HB.out]
                exact h12.set i _
              case measure => (simp [intOf]; try omega)
            · obtain rfl : i = 32 := by omega
              rw [laidB_n _ _ HSL.out] at h12
              have hl32 : (bcs (sha m)).length = 32 := by rw [bcs_length]; exact HSL.out
              have HL32 := Lib.hid hl32
              clear hl32
              go_wp2_with (first | (with_reducible refine ldArr (.tmp 6) Tryd.ag_b32 (wn rfl) rfl rfl HL32.out h12 ?_) | (with_reducible refine stArr (.tmp 2) (.tmp 57) Tryd.ag_b32 (wn rfl) rfl rfl rfl h2 (zerosB_len _) HL32.out (bcs_one _) ?_))
              intro wz h2 hkeep hbel
              go_wp2_with fail
              refine bodyPost_ret (v := .agg (bcs (sha m)).toArray) ?_ rfl ⟨rfl, hb.trans (hbel _ (by omega))⟩
              exact res_cell1 (bcs (sha m)) Tryd.results82 Tryd.ag_b32 _ rfl HL32.out (fun j u hu => by rw [Nat.zero_add]; exact h2.cell hu)
    · have hd' : ¬ (n + 1 + k) % 64 = 56 := fun h => hd (hpd.1 h)
      have hk' : k < padLen n - 1 := by omega
      have hbq : (((n : Int) + (1 + (k : Int))) % 64 != 56) = true := by rw [bne_iff_ne]; omega
      clear hpd hd
      go_wp2_with (at_builtin; with_reducible refine app1 _ _ Tryd.sl_u8 (wn rfl) rfl rfl rfl hown hb3 (Nat.le_refl _) rfl (by omega) (by omega) ?_)
      intro v5 w5 hown5 hb5 _
      clear hown hb3
      obtain ⟨A5, c5, rfl, _⟩ := Rd.of_own hown5
      go_wp2_with fail
      go_roundw
      case rel => exact ⟨k + 1, by omega, ownsRow_count hown5 (by omega) (by rw [show (Value.int .u8 0) = bc 0 from rfl, bcs_snoc]; congr 1; rw [List.cons_append, ← List.replicate_succ']), hb5⟩
      case measure => simp; omega
end Go.Proofs.YtgjgjimgomhbmaaDoor
namespace Go.Proofs.YtgjgjimgomhbmaaDoor
open Go.RowKit
end Go.Proofs.YtgjgjimgomhbmaaDoor
namespace Go.Proofs.YtgjgjimgomhbmaaDoor
open Go.RowKit
theorem bcs_at {l : List UInt8} {i : Nat} (h : i < l.length) : ∃ b, l[i]? = some b ∧ (bcs l)[i]? = some (bc b) := ⟨l[i], List.getElem?_eq_getElem h, by unfold bcs; rw [List.getElem?_map, List.getElem?_eq_getElem h]; rfl⟩
theorem take_next {l : List UInt8} {i : Nat} {b : UInt8} (h : l[i]? = some b) : l.take i ++ [b] = l.take (i + 1) := by
  have hi := (List.getElem?_eq_some_iff.1 h).1
  rw [List.take_succ_eq_append_getElem hi]
  congr 2
  rw [List.getElem?_eq_getElem hi] at h
  exact (Option.some.inj h).symm
end Go.Proofs.YtgjgjimgomhbmaaDoor
namespace Go.Proofs.YtgjgjimgomhbmaaDoor
open Go.RowKit
end Go.Proofs.YtgjgjimgomhbmaaDoor
namespace Go.Proofs.YtgjgjimgomhbmaaDoor
open Go.RowKit
end Go.Proofs.YtgjgjimgomhbmaaDoor
namespace Go.Proofs.YtgjgjimgomhbmaaDoor
open Go.RowKit
set_option maxRecDepth 100000 in
set_option maxHeartbeats 400000 in
theorem bytes_any (s : List UInt8) (w : World) (h : s.length ≤ 70368744177664) :
    Calls Tryd.prog 81 #[sv s] w (RetRow w 5 1 (encS s).length (bcs (encS s))) := by
  have hsz : (⟨s.toArray⟩ : ByteArray).size = s.length := by simp [ByteArray.size]
  have hel := enc_len s.length
  have HL := Lib.hid (show (enc s.length).length + s.length = (encS s).length by simp [encS])
  have HS := Lib.hid (show bcs (enc s.length) ++ bcs s = bcs (encS s) by simp [encS, bcs_append])
  unfold sv
  go_enter Tryd.func81, Tryd.ntmps81
  go_wp2_with fail
  refine (int_any _ _ (by omega) (by omega)).mono ?_
  rintro e w1 ⟨v, rfl, hown, hb⟩
  go_wp2_with (at_builtin; with_reducible refine appS _ _ ⟨s.toArray⟩ Tryd.sl_u8 Tryd.und_str (wn rfl) rfl rfl rfl hown hb (Nat.le_refl _) (by rw [hsz]; omega) ?_)
  intro v' w' h3 h4 _
  clear hown hb
  go_wp2
  go_ret
  exact ⟨_, rfl, ownsRow_count h3 HL.out HS.out, h4⟩
set_option maxRecDepth 100000 in
set_option maxHeartbeats 400000 in
theorem refBytes_any (s : List UInt8) (w : World) (h : s.length ≤ 70368744177664) :
    Calls Tryd.prog 93 #[sv s] w (RetRow w 5 1 (encS s).length (bcs (encS s))) := by
  have hsz : (⟨s.toArray⟩ : ByteArray).size = s.length := by simp [ByteArray.size]
  have hel := enc_len s.length
  have HL := Lib.hid (show (enc s.length).length + s.length = (encS s).length by simp [encS])
  have HS := Lib.hid (show bcs (enc s.length) ++ bcs s = bcs (encS s) by simp [encS, bcs_append])
  unfold sv
  go_enter Tryd.func93, Tryd.ntmps93
  go_wp2_with fail
  refine (refInt_any _ _ (by omega) (by omega)).mono ?_
  rintro e w1 ⟨v, rfl, hown, hb⟩
  go_wp2_with (at_builtin; with_reducible refine appS _ _ ⟨s.toArray⟩ Tryd.sl_u8 Tryd.und_str (wn rfl) rfl rfl rfl hown hb (Nat.le_refl _) (by rw [hsz]; omega) ?_)
  intro v' w' h3 h4 _
  clear hown hb
  go_wp2
  go_ret
  exact ⟨_, rfl, ownsRow_count h3 HL.out HS.out, h4⟩
end Go.Proofs.YtgjgjimgomhbmaaDoor
namespace Go.Proofs.YtgjgjimgomhbmaaDoor
open Go.RowKit
theorem sha_len (l : List UInt8) : (sha l).length = 32 := outOf_len _
end Go.Proofs.YtgjgjimgomhbmaaDoor
namespace Go.Proofs.YtgjgjimgomhbmaaDoor
open Go.RowKit
end Go.Proofs.YtgjgjimgomhbmaaDoor
namespace Go.Proofs.YtgjgjimgomhbmaaDoor
open Go.RowKit
end Go.Proofs.YtgjgjimgomhbmaaDoor
namespace Go.Proofs.YtgjgjimgomhbmaaDoor
open Go.RowKit
def tagByte (tag : Int) : UInt8 := UInt8.ofNat (tag % 256).toNat
theorem tagByte_int (tag : Int) : ((tagByte tag).toNat : Int) = tag % 256 := by
  unfold tagByte
  rw [ofNat_toNat8 _ (by omega)]
  omega
def partsOf (l : List (List UInt8)) : List UInt8 := (l.map encS).flatten
def inputOf (tag : Int) (l : List (List UInt8)) : List UInt8 := tagByte tag :: partsOf l
def ofDig (tag : Int) (l : List (List UInt8)) : List UInt8 := (sha (inputOf tag l)).take 16
theorem ofDig_len (tag : Int) (l : List (List UInt8)) : (ofDig tag l).length = 16 := by unfold ofDig; rw [List.length_take, sha_len]; rfl
theorem partsOf_next {l : List (List UInt8)} {i : Nat} {p : List UInt8} (h : l[i]? = some p) : partsOf (l.take (i + 1)) = partsOf (l.take i) ++ encS p := by
  have hi := (List.getElem?_eq_some_iff.1 h).1
  have e : l[i] = p := by rw [List.getElem?_eq_getElem hi] at h; exact Option.some.inj h
  unfold partsOf
  rw [List.take_succ_eq_append_getElem hi, e]
  simp
theorem partsOf_le (l : List (List UInt8)) (i : Nat) : (partsOf (l.take i)).length ≤ (partsOf l).length := by
  have e : partsOf l = partsOf (l.take i) ++ partsOf (l.drop i) := by
    unfold partsOf
    rw [← List.flatten_append, ← List.map_append, List.take_append_drop]
  rw [e, List.length_append]; omega
theorem Tryd.arr_b16 : Tryd.prog.underlying 37 = some (.array 16 5) := by kernel_rfl
theorem Tryd.ag_b16 : AgTy Tryd.prog 37 (zerosB 16).toArray 16 := ⟨by kernel_rfl, by kernel_rfl, by simp [zerosB]⟩
/-- A slice that reads as xs, whatever else is made. -/
def Reads (n : Nat) (xs : List Value) (v : Value) (w : World) : Prop := ∃ A c B, v = .slice A n c ∧ B ≤ w.heap.size ∧ Rd w B 1 A n c xs
theorem Reads.ext {n : Nat} {xs : List Value} {v : Value} {w w' : World} (h : Reads n xs v w) (hE : Ext w w') : Reads n xs v w' := by
  obtain ⟨A, c, B, h1, h2, h3⟩ := h
  exact ⟨A, c, B, h1, Nat.le_trans h2 hE.size, h3.below (hE.mono h2)⟩
/-- Block g holds a stream of message m. -/
def ArrStr (w : World) (g : Nat) (m : List UInt8) : Prop := ∃ blk, StrOK m blk ∧ Arr w g 105 (stCells (stOf m) blk m.length)
def GOf1 (B : Nat) (tb : UInt8) (i : Nat) (v : Value) (w : World) : Prop :=
  match i with
  | 0 => IsStr [] v
  | 3 => Reads 1 (bcs [tb]) v w
  | 4 => v = sv [tb]
  | 5 => IsStr [tb] v
  | 6 => ∃ g, v = .pointer (some ⟨g, 0, none⟩) ∧ Arr w g 105 zeros73 ∧ B ≤ g
  | _ => True
def GOf2 (m p : List UInt8) (i : Nat) (v : Value) (w : World) : Prop :=
  match i with
  | 0 => IsStr m v
  | 2 => Reads (encS p).length (bcs (encS p)) v w
  | 3 => v = sv (encS p)
  | 4 => IsStr (m ++ encS p) v
  | _ => True
set_option maxRecDepth 100000 in
set_option maxHeartbeats 2000000 in
theorem of_any (tag : Int) (l : List (List UInt8)) (A : Option Addr) (n c B : Nat) (w : World) (ht : Tabs w) (hr : Rd w B 1 A n c (l.map sv)) (hB : B ≤ w.heap.size) (hlen : (inputOf tag l).length ≤ 1000000000) (hlp : l.length ≤ 1000000000) :
    Calls Tryd.prog 50 #[.int .i64 tag, .slice A n c] w fun e w' => e = .returned (.agg (bcs (ofDig tag l)).toArray) ∧ Below w.heap.size w w' := by
  obtain rfl : l.length = n := by have := hr.len; simpa using this
  have htb := tagByte_int tag
  have HTB := Lib.hid htb
  have hin : inputOf tag l = [tagByte tag] ++ partsOf l := rfl
  have hdl := ofDig_len tag l
  have hod : ofDig tag l = (sha (inputOf tag l)).take 16 := rfl
  have HIN := Lib.hid hin
  have HDL := Lib.hid hdl
  have HOD := Lib.hid hod
  clear htb hin hdl hod
  generalize tagByte tag = tb at *
  generalize ofDig tag l = dig at *
  generalize inputOf tag l = inp at *
  go_enter Tryd.func50, Tryd.ntmps50
  go_wp2_with (with_reducible refine alArr (z := zerosB 16) Tryd.ag_b16 (wn rfl) rfl ?_)
  intro w1 h4 hb
  go_wp2_with fail
  refine aStart (by kernel_rfl) ?_
  replace h4 := h4.drew
  replace hb := hb.drew
  generalize w1.drew = wd at *
  refine aTake (i := 1) (v := .int .i64 tag) rfl (by kernel_rfl) (wn rfl) (fun _ _ _ h => h) (fun w => by kernel_rfl) ?_
  refine aTake (i := 2) (v := .int .u8 (tb.toNat : Int)) rfl (by kernel_rfl) (wn rfl) (fun _ _ _ h => h) (fun w => by rw [HTB.out]; go_simp; rw [IntKind.wrap_u8]) ?_
  refine rgFloat [(0, 9), (3, 12), (4, 13), (5, 14), (6, 5)] (GOf1 wd.heap.size tb) _ 1 rfl (by kernel_rfl) ?mono ?step ?fin
  case mono =>
    intro p hp v w w' h hE
    simp only [List.mem_cons, List.not_mem_nil, or_false] at hp
    rcases hp with rfl | rfl | rfl | rfl | rfl
    · exact h
    · exact Reads.ext h hE
    · exact h
    · exact h
    · obtain ⟨g, h1, h2, h3⟩ := h
      exact ⟨g, h1, h2.below hE h2.lt, h3⟩
  case step =>
    intro p hp
    simp only [List.mem_cons, List.not_mem_nil, or_false] at hp
    rcases hp with rfl | rfl | rfl | rfl | rfl
    · refine ⟨_, rfl, rfl, fun a w' hF hE hG => ?_⟩
      refine callOp 79 [] [] [] (by kernel_rfl) (wn rfl) rfl rfl rfl ?_
      refine (begin_any w').mono ?_
      rintro e w2 ⟨v, rfl, hv, hbv⟩
      exact ⟨v, rfl, ⟨v, rfl, hbv, hv⟩⟩
    · refine ⟨_, rfl, rfl, fun a w' hF hE hG => ?_⟩
      have hx : a.eval (.tmp 11) = bc tb := (hF.eval 11 (by kernel_rfl)).trans (by kernel_rfl)
      refine bsRow [bc tb] Tryd.sl_u8 (wn rfl) rfl (by rw [Array.toList_map]; show [(0, a.eval (.tmp 11))] = _; rw [hx]; rfl) rfl (by omega) (by omega) (by intro v hv; rw [List.mem_singleton.1 hv]; rfl) ?_
      intro A5 w5 hrd hb5
      exact ⟨_, rfl, hb5, A5, 1, _, rfl, Nat.le_refl _, hrd⟩
    · refine ⟨_, rfl, rfl, fun a w' hF hE hG => ?_⟩
      obtain ⟨A5, c5, B5, q1, q2, hrd⟩ : Reads 1 (bcs [tb]) (a.tmps.getD 12 undef) w' := hG (3, 12) (by simp) (by kernel_rfl)
      refine convStr (.tmp 12) [tb] Tryd.sl_u8.und Tryd.und_u8 Tryd.und_str (wn rfl) rfl q1 hrd ?_
      exact ⟨_, rfl, Below.refl _ _, rfl⟩
    · refine ⟨_, rfl, rfl, fun a w' hF hE hG => ?_⟩
      have g1 : IsStr [] (a.tmps.getD 9 undef) := hG (0, 9) (by simp) (by kernel_rfl)
      have g2 : a.tmps.getD 13 undef = sv [tb] := hG (4, 13) (by simp) (by kernel_rfl)
      refine callOp 80 [a.tmps.getD 9 undef, sv [tb]] [] [] (by kernel_rfl) (wn rfl) rfl rfl (by rw [← g2]; rfl) ?_
      refine (add_any [] [tb] _ w' (ht.below (hb.trans (hE.mono hb.size)) ht.size) g1 (by simp)).mono ?_
      rintro e w2 ⟨v, rfl, hv, hbv⟩
      exact ⟨v, rfl, ⟨v, rfl, hbv, hv⟩⟩
    · refine ⟨_, rfl, rfl, fun a w' hF hE hG => ?_⟩
      refine alArr (z := zeros73) Tryd.ag_str (wn rfl) rfl fun w2 hA hb2 => ?_
      exact ⟨_, rfl, hb2, _, rfl, hA, hE.size⟩
  case fin =>
    intro a wf hF hE hG
    obtain ⟨blk, hok, q7⟩ : IsStr [tb] (a.tmps.getD 14 undef) := hG (5, 14) (by simp)
    obtain ⟨g5, q8, h5, hg5⟩ := hG (6, 5) (by simp)
    have n45 : w.heap.size ≠ g5 := by have := h4.lt; omega
    replace h4 := h4.below hE h4.lt
    have hsz := hb.size
    replace hb := hb.trans (hE.mono hb.size)
    rw [hF.eq]
    simp only [putsX]
    rw [q7, q8]
    generalize a.tmps.getD 9 undef = x9
    generalize a.tmps.getD 12 undef = x12
    generalize a.tmps.getD 13 undef = x13
    clear hG hF hE
    refine aNext (i := 7) (by kernel_rfl) rfl ?_
    refine stArr (b := g5) (cs := stCells (stOf [tb]) blk [tb].length) (.tmp 5) (.tmp 14) Tryd.ag_str (wn rfl) rfl (by kernel_rfl) (by kernel_rfl) h5 zeros73_len (stCells_len _ _ hok.len) (stCells_one _ _ _) ?_
    intro w2 h5 hkeep hbel
    replace h4 := hkeep _ _ _ n45 h4
    replace hb := hb.trans (hbel _ (by omega))
    clear hkeep hbel
    have hS : ArrStr w2 g5 ([tb] ++ partsOf (l.take 0)) := ⟨blk, hok, h5⟩
    refine aDone (by kernel_rfl) ?_
    simp only [Act.put, List.setIfInBounds_toArray, List.set_cons_succ, List.set_cons_zero]
    clear h5 hok
    have hbg : w.heap.size ≤ g5 := by omega
    go_wp2_with fail
    go_loopw [17] (fun iv_ wr => ∃ i : Nat, i ≤ l.length ∧ iv_ = .int .i64 i ∧ ArrStr wr g5 ([tb] ++ partsOf (l.take i)) ∧ Arr wr w.heap.size 37 (zerosB 16) ∧ Below w.heap.size w wr) (fun iv_ _ => l.length - (intOf iv_).toNat)
    case atStart => exact ⟨0, by omega, rfl, hS, h4, hb⟩
    case round =>
      clear hS h4 hb hg5 hsz
      obtain ⟨i, hi, rfl, hS, h4, hb⟩ := hrel
      have hpl : ([tb] ++ partsOf (l.take i)).length ≤ 1000000000 := by
        have h1 := partsOf_le l i
        have h2 := hlen
        rw [HIN.out] at h2
        rw [List.length_append] at h2 ⊢
        omega
      by_cases hlt : i < l.length
      · obtain ⟨b, off, u, rfl, hbB, hu, hcell⟩ := (hr.below (hb.mono hB)).at1 hlt
        obtain ⟨p, hp, rfl⟩ : ∃ p : List UInt8, l[i]? = some p ∧ u = .string ⟨p.toArray⟩ := by
          rw [List.getElem?_map] at hu
          obtain ⟨x, hx, hxu⟩ := Option.map_eq_some_iff.1 hu
          exact ⟨x, hx, hxu.symm⟩
        have hnx := partsOf_next hp
        have hpl2 : ([tb] ++ partsOf (l.take i) ++ encS p).length ≤ 1000000000 := by
          have h1 := partsOf_le l (i + 1)
          rw [hnx] at h1
          have h2 := hlen
          rw [HIN.out] at h2
          rw [List.length_append] at h2 h1
          rw [List.length_append, List.length_append]
          omega
        have hpp : p.length ≤ 1000000000 := by
          have : p.length ≤ (encS p).length := by unfold encS; rw [List.length_append]; omega
          rw [List.length_append] at hpl2
          omega
        have HNX := Lib.hid hnx
        clear hnx hp hu
        generalize hmi : [tb] ++ partsOf (l.take i) = m at *
        have HMI := Lib.hid hmi
        clear hmi
        obtain ⟨blk, hok, h5⟩ := hS
        go_wp2_with fail
        refine aStart (by kernel_rfl) ?_
        replace h4 := h4.drew
        replace h5 := h5.drew
        replace hb := hb.drew
        clear hcell
        generalize wr.drew = wd at *
        refine aTake (i := 1) (v := sv p) rfl (by kernel_rfl) (wn rfl) (fun _ _ _ h => h) (fun w => by kernel_rfl) ?_
        refine rgFloat [(0, 21), (2, 23), (3, 24), (4, 25)] (GOf2 m p) _ 1 rfl (by kernel_rfl) ?mono ?step ?fin
        case mono =>
          intro q hq v w w' h hE
          simp only [List.mem_cons, List.not_mem_nil, or_false] at hq
          rcases hq with rfl | rfl | rfl | rfl
          · exact h
          · exact Reads.ext h hE
          · exact h
          · exact h
        case step =>
          intro q hq
          simp only [List.mem_cons, List.not_mem_nil, or_false] at hq
          rcases hq with rfl | rfl | rfl | rfl
          · refine ⟨_, rfl, rfl, fun a w' hF hE hG => ?_⟩
            refine ldArr (b := g5) (.tmp 5) Tryd.ag_str (wn rfl) rfl ((hF.eval 5 (by kernel_rfl)).trans (by kernel_rfl)) (stCells_len _ _ hok.len) (h5.below hE h5.lt) ?_
            exact ⟨_, rfl, Below.refl _ _, blk, hok, rfl⟩
          · refine ⟨_, rfl, rfl, fun a w' hF hE hG => ?_⟩
            refine callOp 81 [sv p] [] [] (by kernel_rfl) (wn rfl) rfl rfl (by show [a.eval (.tmp 22)] = _; rw [hF.eval 22 (by kernel_rfl)]; kernel_rfl) ?_
            refine (bytes_any p w' (by omega)).mono ?_
            rintro e w2 hret
            obtain ⟨A5, c5, rfl, _, hrd, hb2⟩ := hret.open
            exact ⟨_, rfl, ⟨_, rfl, hb2, A5, c5, _, rfl, Nat.le_refl _, hrd⟩⟩
          · refine ⟨_, rfl, rfl, fun a w' hF hE hG => ?_⟩
            obtain ⟨A5, c5, B5, q1, q2, hrd⟩ : Reads (encS p).length (bcs (encS p)) (a.tmps.getD 23 undef) w' := hG (2, 23) (by simp) (by kernel_rfl)
            refine convStr (.tmp 23) (encS p) Tryd.sl_u8.und Tryd.und_u8 Tryd.und_str (wn rfl) rfl q1 hrd ?_
            exact ⟨_, rfl, Below.refl _ _, rfl⟩
          · refine ⟨_, rfl, rfl, fun a w' hF hE hG => ?_⟩
            have g1 : IsStr m (a.tmps.getD 21 undef) := hG (0, 21) (by simp) (by kernel_rfl)
            have g2 : a.tmps.getD 24 undef = sv (encS p) := hG (3, 24) (by simp) (by kernel_rfl)
            refine callOp 80 [a.tmps.getD 21 undef, sv (encS p)] [] [] (by kernel_rfl) (wn rfl) rfl rfl (by rw [← g2]; rfl) ?_
            refine (add_any m (encS p) _ w' (ht.below (hb.trans (hE.mono hb.size)) ht.size) g1 (by rw [List.length_append] at hpl2; omega)).mono ?_
            rintro e w2 ⟨v, rfl, hv, hbv⟩
            exact ⟨v, rfl, ⟨v, rfl, hbv, hv⟩⟩
        case fin =>
          intro a wf hF hE hG
          obtain ⟨blk2, hok2, q7⟩ : IsStr (m ++ encS p) (a.tmps.getD 25 undef) := hG (4, 25) (by simp)
          replace h4 := h4.below hE h4.lt
          replace h5 := h5.below hE h5.lt
          replace hb := hb.trans (hE.mono hb.size)
          rw [hF.eq]
          simp only [putsX]
          rw [q7]
          generalize a.tmps.getD 21 undef = x21
          generalize a.tmps.getD 23 undef = x23
          generalize a.tmps.getD 24 undef = x24
          clear hG hF hE
          refine aNext (i := 5) (by kernel_rfl) rfl ?_
          refine stArr (b := g5) (cs := stCells (stOf (m ++ encS p)) blk2 (m ++ encS p).length) (.tmp 5) (.tmp 25) Tryd.ag_str (wn rfl) rfl (by kernel_rfl) (by kernel_rfl) h5 (stCells_len _ _ hok.len) (stCells_len _ _ hok2.len) (stCells_one _ _ _) ?_
          intro w2 h5 hkeep hbel
          replace h4 := hkeep _ _ _ n45 h4
          replace hb := hb.trans (hbel _ hbg)
          clear hkeep hbel
          refine aDone (by kernel_rfl) ?_
          simp only [Act.put, List.setIfInBounds_toArray, List.set_cons_succ, List.set_cons_zero]
          have hS : ArrStr w2 g5 ([tb] ++ partsOf (l.take (i + 1))) := by
            rw [HNX.out, ← List.append_assoc, HMI.out]
            exact ⟨blk2, hok2, h5⟩
          clear h5 hok hok2
          go_wp2_with fail
          go_roundw
          case rel => exact ⟨i + 1, by omega, by go_num, hS, h4, hb⟩
          case measure => (simp [intOf]; try omega)
      · obtain rfl : i = l.length := by omega
        rw [List.take_of_length_le (Nat.le_refl _), ← HIN.out] at hS
        obtain ⟨blk, hok, h5⟩ := hS
        clear hpl hlt
        have hsha := sha_len (inp)
        have HSL := Lib.hid (show (bcs (sha (inp))).length = 32 by rw [bcs_length]; exact hsha)
        have hpre : ∀ (j : Nat) (u : Value), (bcs (dig))[j]? = some u → (bcs (sha (inp)))[j]? = some u := by
          intro j u hu
          rw [HOD.out] at hu
          have hj : j < 16 := by have := (List.getElem?_eq_some_iff.1 hu).1; rw [bcs_length, List.length_take] at this; omega
          unfold bcs at hu ⊢
          rw [List.map_take, List.getElem?_take, if_pos hj] at hu
          exact hu
        have HPRE := Lib.hid hpre
        have HDB := Lib.hid (show (bcs (dig)).length = 16 by rw [bcs_length]; exact HDL.out)
        clear hsha hpre
        go_wp2_with (with_reducible refine ldArr (.tmp 5) Tryd.ag_str (wn rfl) rfl rfl (stCells_len _ _ hok.len) h5 ?_)
        refine (strSum_any inp _ wr (ht.below hb ht.size) ⟨blk, hok, rfl⟩ (by omega)).mono ?_
        rintro e w2 ⟨rfl, hb2⟩
        replace h4 := h4.below hb2 h4.lt
        replace hb := hb.trans (hb2.mono hb.size)
        clear hb2 h5 hok
        go_wp2_with (with_reducible refine alArr (z := zerosB 32) Tryd.ag_b32 (wn rfl) rfl ?_)
        intro w3 h8 hb3
        have h48 := h4.lt
        replace h4 := h4.below hb3 h4.lt
        replace hb := hb.trans (hb3.mono hb.size)
        clear hb3
        generalize w2.heap.size = g8 at *
        go_wp2_with (with_reducible refine stArr (cs := bcs (sha inp)) (.tmp 8) (.tmp 28) Tryd.ag_b32 (wn rfl) rfl rfl rfl h8 (zerosB_len _) HSL.out (bcs_one _) ?_)
        intro w4 h8 hkeep hbel
        replace h4 := hkeep _ _ _ (by omega) h4
        replace hb := hb.trans (hbel _ (by omega))
        clear hkeep hbel
        go_wp2_with (first | (with_reducible refine saPtr (.tmp 29) Tryd.arr_b16 (wn rfl) rfl rfl (by omega) ?_) | (with_reducible refine ldAgg (b := g8) (off := 0) (.tmp 30) (bcs dig) Tryd.ag_b16 (wn rfl) rfl rfl HDB.out (fun j u hu => by rw [Nat.zero_add]; exact h8.cell (HPRE.out j u hu)) ?_) | (with_reducible refine stArr (cs := bcs dig) (.tmp 4) (.tmp 31) Tryd.ag_b16 (wn rfl) rfl rfl rfl h4 (zerosB_len _) HDB.out (bcs_one _) ?_))
        intro w5 h4 hkeep hbel
        go_wp2_with fail
        refine bodyPost_ret (v := .agg (bcs dig).toArray) ?_ rfl ⟨rfl, hb.trans (hbel _ (by omega))⟩
        exact res_cell1 (bcs dig) Tryd.results50 Tryd.ag_b16 _ rfl HDB.out (fun j u hu => by rw [Nat.zero_add]; exact h4.cell hu)
end Go.Proofs.YtgjgjimgomhbmaaDoor
namespace Go.Proofs.YtgjgjimgomhbmaaDoor
open Go.RowKit
end Go.Proofs.YtgjgjimgomhbmaaDoor
namespace Go.Proofs.YtgjgjimgomhbmaaDoor
open Go.RowKit
set_option maxRecDepth 100000 in
set_option maxHeartbeats 1000000 in
theorem input_any (tag : Int) (l : List (List UInt8)) (A : Option Addr) (n c B : Nat) (w : World) (hr : Rd w B 1 A n c (l.map sv)) (hB : B ≤ w.heap.size) (hlen : (inputOf tag l).length ≤ 1000000000) (hlp : l.length ≤ 1000000000) :
    Calls Tryd.prog 84 #[.int .i64 tag, .slice A n c] w (RetRow w 5 1 (inputOf tag l).length (bcs (inputOf tag l))) := by
  obtain rfl : l.length = n := by have := hr.len; simpa using this
  have htb := tagByte_int tag
  have hin : inputOf tag l = [tagByte tag] ++ partsOf l := rfl
  have HIN := Lib.hid hin
  have HTB : Hid (bcs [tagByte tag] = [.int .u8 (tag % 256)]) := by show _ = _; rw [← htb]; rfl
  have HLEN := Lib.hid hlen
  clear htb hin hlen
  generalize tagByte tag = tb at *
  generalize inputOf tag l = inp at *
  have hown0 := World.ownsRow_lit (base := w.heap.size) (e := 5) (size := 1) w #[.int .u8 (tag % 256)] 1 (Nat.le_refl _) (by unfold maxLen; omega) rfl
  have hb0 : Below w.heap.size w (w.alloc (.cells #[.int .u8 (tag % 256)] 5)) := (Below.refl _ _).alloc (Nat.le_refl _) _
  replace hown0 := ownsRow_count (xs' := bcs ([tb] ++ partsOf (l.take 0))) (n' := ([tb] ++ partsOf (l.take 0)).length) hown0 rfl (by rw [show [tb] ++ partsOf (l.take 0) = [tb] from rfl, HTB.out])
  go_enter Tryd.func84, Tryd.ntmps84
  go_wp2_with fail
  go_loopw [5, 6] (fun v iv_ wr => ∃ i : Nat, i ≤ l.length ∧ iv_ = .int .i64 i ∧ wr.ownsRow w.heap.size 5 1 v ([tb] ++ partsOf (l.take i)).length (bcs ([tb] ++ partsOf (l.take i))) ∧ Below w.heap.size w wr) (fun _ iv_ _ => l.length - (intOf iv_).toNat)
  case atStart => exact ⟨0, by omega, rfl, hown0, hb0⟩
  case round =>
    clear hown0 hb0
    obtain ⟨i, hi, rfl, hown, hb⟩ := hrel
    by_cases hlt : i < l.length
    · obtain ⟨b, off, u, rfl, hbB, hu, hcell⟩ := (hr.below (hb.mono hB)).at1 hlt
      obtain ⟨p, hp, rfl⟩ : ∃ p : List UInt8, l[i]? = some p ∧ u = .string ⟨p.toArray⟩ := by
        rw [List.getElem?_map] at hu
        obtain ⟨x, hx, hxu⟩ := Option.map_eq_some_iff.1 hu
        exact ⟨x, hx, hxu.symm⟩
      have hnx := partsOf_next hp
      have hpl2 : ([tb] ++ partsOf (l.take i)).length + (encS p).length ≤ 1000000000 := by
        have h1 := partsOf_le l (i + 1)
        rw [hnx, List.length_append] at h1
        have h2 := HLEN.out
        rw [HIN.out, List.length_append] at h2
        rw [List.length_append]
        omega
      have hpp : p.length ≤ 1000000000 := by
        have : p.length ≤ (encS p).length := by unfold encS; rw [List.length_append]; omega
        omega
      have HNX : Hid (([tb] ++ partsOf (l.take i)) ++ encS p = [tb] ++ partsOf (l.take (i + 1))) := by show _ = _; rw [hnx, List.append_assoc]
      clear hnx hp hu
      generalize hmi : [tb] ++ partsOf (l.take i) = m at *
      clear hmi
      have q1 := refBytes_any p wr (by omega)
      unfold sv at q1
      go_wp2_with fail
      refine q1.mono ?_
      rintro e w2 hret
      obtain ⟨A5, c5, rfl, _, hrd, hb2⟩ := hret.open
      have hown2 := ownsRow_below hown hb2 (Nat.le_refl _)
      replace hb := hb.trans (hb2.mono hb.size)
      clear hown hb2 hret q1 hcell
      go_wp2_with (at_builtin; with_reducible refine appR _ _ Tryd.sl_u8 (wn rfl) rfl rfl rfl hown2 hrd (bcs_one _) hb (Nat.le_refl _) (by omega) (by omega) ?_)
      intro v3 w3 hown3 hb3 _
      clear hown2 hb hrd
      replace hown3 := ownsRow_count (xs' := bcs ([tb] ++ partsOf (l.take (i + 1)))) (n' := ([tb] ++ partsOf (l.take (i + 1))).length) hown3 (by rw [← HNX.out, List.length_append]) (by rw [← HNX.out, bcs_append])
      go_wp2_with fail
      go_roundw
      case rel => exact ⟨i + 1, by omega, by go_num, hown3, hb3⟩
      case measure => (simp [intOf]; try omega)
    · obtain rfl : i = l.length := by omega
      rw [List.take_of_length_le (Nat.le_refl _), ← HIN.out] at hown
      go_wp2_with fail
      go_ret
      exact ⟨_, rfl, hown, hb⟩
theorem set_pad {d : List UInt8} {n i : Nat} {b : UInt8} (hb : d[i]? = some b) (hn : i < n) : (bcs (d.take i ++ List.replicate (n - i) 0)).set i (bc b) = bcs (d.take (i + 1) ++ List.replicate (n - (i + 1)) 0) := by
  have hi := (List.getElem?_eq_some_iff.1 hb).1
  have e5 : ∀ (p q : List Value) (x y : Value), (p ++ x :: q).set p.length y = p ++ y :: q := by
    intro p q x y
    induction p with
    | nil => rfl
    | cons a p ih => simp
  have hl : (bcs (d.take i)).length = i := by rw [bcs_length, List.length_take]; omega
  have h3 := e5 (bcs (d.take i)) (bcs (List.replicate (n - (i + 1)) 0)) (bc 0) (bc b)
  rw [hl] at h3
  rw [show n - i = (n - (i + 1)) + 1 from by omega, List.replicate_succ, ← take_next hb, bcs_append, bcs_append, bcs_append, List.append_assoc]
  exact h3
theorem pad_at (d : List UInt8) (i n : Nat) (h1 : i ≤ d.length) (h2 : i < n) : (bcs (d.take i ++ List.replicate (n - i) 0))[i]? = some (.int .u8 0) := by
  have hl : (d.take i).length = i := by rw [List.length_take]; omega
  have h : (d.take i ++ List.replicate (n - i) 0)[i]? = some (0 : UInt8) := by
    rw [List.getElem?_append_right (by omega), hl, List.getElem?_replicate, if_pos (by omega)]
  unfold bcs
  rw [List.getElem?_map, h]
  rfl
theorem zeros_pad (d : List UInt8) : zerosB 16 = bcs (d.take 0 ++ List.replicate (16 - 0) 0) := rfl
set_option maxRecDepth 100000 in
set_option maxHeartbeats 1000000 in
theorem short_any (l : List UInt8) (A : Option Addr) (n c B : Nat) (w : World) (ht : TabsR w) (hr : Rd w B 1 A n c (bcs l)) (hB : B ≤ w.heap.size) (hn : n ≤ 1000000000) :
    Calls Tryd.prog 83 #[.slice A n c] w fun e w' => e = .returned (.agg (bcs ((sha l).take 16)).toArray) ∧ Below w.heap.size w w' := by
  have HS := Lib.hid (show (bcs (sha l)).length = 32 by rw [bcs_length]; exact sha_len l)
  have HD := Lib.hid (show (bcs ((sha l).take 16)).length = 16 by rw [bcs_length, List.length_take, sha_len]; rfl)
  go_enter Tryd.func83, Tryd.ntmps83
  go_wp2_with (with_reducible refine alArr (z := zerosB 16) Tryd.ag_b16 (wn rfl) rfl ?_)
  intro w1 h2 hb
  replace hr := hr.below (hb.mono hB)
  have hB1 := Nat.le_trans hB hb.size
  go_wp2_with fail
  refine (refSum_any l A n c B w1 (ht.below hb ht.size) hr hB1 (by omega)).mono ?_
  rintro e w2 ⟨rfl, hb2⟩
  replace h2 := h2.below hb2 h2.lt
  replace hb := hb.trans (hb2.mono hb.size)
  clear hb2 hr
  go_wp2_with (with_reducible refine alArr (z := zerosB 32) Tryd.ag_b32 (wn rfl) rfl ?_)
  intro w3 h3 hb3
  have n23 := h2.lt
  have n2 : w.heap.size ≤ w2.heap.size := hb.size
  replace h2 := h2.below hb3 h2.lt
  replace hb := hb.trans (hb3.mono hb.size)
  clear hb3
  generalize w2.heap.size = g3 at *
  go_wp2_with (with_reducible refine stArr (cs := bcs (sha l)) (.tmp 3) (.tmp 7) Tryd.ag_b32 (wn rfl) rfl rfl rfl h3 (zerosB_len _) HS.out (bcs_one _) ?_)
  intro w4 h3 hkeep hbel
  replace h2 := hkeep _ _ _ (by omega) h2
  replace hb := hb.trans (hbel _ (by omega))
  clear hkeep hbel
  have h4 : Arr (w4.alloc (.cells (zerosB 16).toArray 37)) w4.heap.size 37 (zerosB 16) := Arr.new w4 _ _
  have hb5 : Below w4.heap.size w4 (w4.alloc (.cells (zerosB 16).toArray 37)) := (Below.refl _ _).alloc (Nat.le_refl _) _
  have n34 := h3.lt
  replace h2 := h2.below hb5 h2.lt
  replace h3 := h3.below hb5 h3.lt
  have n4 : w.heap.size ≤ w4.heap.size := hb.size
  replace hb := hb.trans (hb5.mono hb.size)
  rw [zeros_pad (sha l)] at h4
  clear hb5
  go_wp2_with fail
  generalize w4.heap.size = g4 at *
  go_loopw [5] (fun iv_ wr => ∃ i : Nat, i ≤ 16 ∧ iv_ = .int .i64 i ∧ Arr wr w.heap.size 37 (zerosB 16) ∧ Arr wr g3 109 (bcs (sha l)) ∧ Arr wr g4 37 (bcs ((sha l).take i ++ List.replicate (16 - i) 0)) ∧ Below w.heap.size w wr) (fun iv_ _ => 16 - (intOf iv_).toNat)
  case atStart => exact ⟨0, by omega, rfl, h2, h3, h4, hb⟩
  case round =>
    clear h2 h3 h4 hb
    obtain ⟨i, hi, rfl, h2, h3, h4, hb⟩ := hrel
    by_cases hlt : i < 16
    · obtain ⟨b, hb1, hb2⟩ := bcs_at (l := sha l) (i := i) (by rw [sha_len]; omega)
      have hc : wr.cell? ⟨g3, i, none⟩ = some (.int .u8 (b.toNat : Int)) := h3.cell hb2
      have hc4 : wr.cell? ⟨g4, i, none⟩ = some (.int .u8 0) := h4.cell (pad_at (sha l) i 16 (by rw [sha_len]; omega) hlt)
      have hf := h4.thaw i
      have hnx := set_pad hb1 hlt
      have HNX := Lib.hid hnx
      clear hnx hb1 hb2
      go_wp2_with fail
      go_roundw
      case rel => exact ⟨i + 1, by omega, by go_num, h2.other (by omega) i _, h3.other (by omega) i _, by rw [← HNX.out]; exact h4.set i _, hb.setCell (p := ⟨g4, i, none⟩) (by show w.heap.size ≤ g4; omega) _⟩
      case measure => (simp [intOf]; try omega)
    · obtain rfl : i = 16 := by omega
      rw [show (sha l).take 16 ++ List.replicate (16 - 16) 0 = (sha l).take 16 from by simp] at h4
      go_wp2_with (first | (with_reducible refine ldArr (.tmp 4) Tryd.ag_b16 (wn rfl) rfl rfl HD.out h4 ?_) | (with_reducible refine stArr (cs := bcs ((sha l).take 16)) (.tmp 2) (.tmp 18) Tryd.ag_b16 (wn rfl) rfl rfl rfl h2 (zerosB_len _) HD.out (bcs_one _) ?_))
      intro w5 h2 hkeep hbel
      go_wp2_with fail
      refine bodyPost_ret (v := .agg (bcs ((sha l).take 16)).toArray) ?_ rfl ⟨rfl, hb.trans (hbel _ (Nat.le_refl _))⟩
      exact res_cell1 (bcs ((sha l).take 16)) Tryd.results83 Tryd.ag_b16 _ rfl HD.out (fun j u hu => by rw [Nat.zero_add]; exact h2.cell hu)
end Go.Proofs.YtgjgjimgomhbmaaDoor
namespace Go.Proofs.YtgjgjimgomhbmaaDoor
open Go.RowKit
set_option maxRecDepth 100000 in
set_option maxHeartbeats 1000000 in
theorem refOf_any (tag : Int) (l : List (List UInt8)) (A : Option Addr) (n c B : Nat) (w : World) (ht : TabsR w) (hr : Rd w B 1 A n c (l.map sv)) (hB : B ≤ w.heap.size) (hlen : (inputOf tag l).length ≤ 1000000000) (hlp : l.length ≤ 1000000000) :
    Calls Tryd.prog 51 #[.int .i64 tag, .slice A n c] w fun e w' => e = .returned (.agg (bcs (ofDig tag l)).toArray) ∧ Below w.heap.size w w' := by
  have hod : (sha (inputOf tag l)).take 16 = ofDig tag l := rfl
  have HOD := Lib.hid hod
  have HD := Lib.hid (show (bcs (ofDig tag l)).length = 16 by rw [bcs_length]; exact ofDig_len tag l)
  clear hod
  generalize ofDig tag l = dig at *
  go_enter Tryd.func51, Tryd.ntmps51
  go_wp2_with (with_reducible refine alArr (z := zerosB 16) Tryd.ag_b16 (wn rfl) rfl ?_)
  intro w1 h4 hb
  go_wp2_with fail
  refine (input_any tag l A n c B w1 (hr.below (hb.mono hB)) (Nat.le_trans hB hb.size) hlen hlp).mono ?_
  rintro e w2 hret
  obtain ⟨A2, c2, rfl, _, hrd, hb2⟩ := hret.open
  replace h4 := h4.below hb2 h4.lt
  replace hb := hb.trans (hb2.mono hb.size)
  clear hb2 hret
  go_wp2_with fail
  refine (short_any (inputOf tag l) A2 _ c2 _ w2 (ht.below hb ht.size) hrd (Nat.le_refl _) hlen).mono ?_
  rintro e w3 ⟨rfl, hb3⟩
  replace h4 := h4.below hb3 h4.lt
  replace hb := hb.trans (hb3.mono hb.size)
  rw [HOD.out]
  clear hb3 hrd
  go_wp2_with (with_reducible refine stArr (cs := bcs dig) (.tmp 4) (.tmp 8) Tryd.ag_b16 (wn rfl) rfl rfl rfl h4 (zerosB_len _) HD.out (bcs_one _) ?_)
  intro w4 h4 hkeep hbel
  go_wp2_with fail
  refine bodyPost_ret (v := .agg (bcs dig).toArray) ?_ rfl ⟨rfl, hb.trans (hbel _ (Nat.le_refl _))⟩
  exact res_cell1 (bcs dig) Tryd.results51 Tryd.ag_b16 _ rfl HD.out (fun j u hu => by rw [Nat.zero_add]; exact h4.cell hu)
end Go.Proofs.YtgjgjimgomhbmaaDoor
namespace Go.Proofs.YtgjgjimgomhbmaaDoor
open Go.RowKit
set_option maxRecDepth 100000 in
set_option maxHeartbeats 400000 in
theorem listInt_any (l : List Int) (A : Option Addr) (n c B : Nat) (w : World) (hr : Rd w B 1 A n c (l.map iv)) (hB : B ≤ w.heap.size) (hl : ∀ x ∈ l, isI64 x) (hlen : (encI l).length ≤ 70368744177664) :
    Calls Tryd.prog 73 #[.slice A n c, .func (.func 74) #[] #[]] w (RetRow w 5 1 (encI l).length (bcs (encI l))) := by
  obtain rfl : l.length = n := by have := hr.len; simpa using this
  have hcap := hr.cap
  have hle := hr.le
  have hcb : (enc l.length).length + (l.map enc).flatten.length = (encI l).length := by simp [encI]
  have HCB := Lib.hid hcb
  unfold maxLen at hcap
  go_enter Tryd.func73, Tryd.ntmps73
  go_wp2_with fail
  refine (int_any _ _ (by omega) (by omega)).mono ?_
  rintro e w1 ⟨v, rfl, hown, hb⟩
  clear hcb
  go_wp2_with fail
  go_loopw [5, 13] (fun v i wr => ∃ k : Nat, k ≤ l.length ∧ i = .int .i64 k ∧ wr.ownsRow w.heap.size 5 1 v (enc l.length ++ ((l.take k).map enc).flatten).length (bcs (enc l.length ++ ((l.take k).map enc).flatten)) ∧ Below w.heap.size w wr)
    (fun _ i _ => l.length - (intOf i).toNat)
  case atStart => exact ⟨0, Nat.zero_le _, rfl, by simpa using hown, hb⟩
  case round =>
    clear hown hb
    obtain ⟨k, hk, rfl, hown, hb⟩ := hrel
    by_cases hlt : k < l.length
    · obtain ⟨b, off, u, rfl, hbB, hu, hcell⟩ := hr.at1 hlt
      obtain ⟨x, hx, rfl⟩ : ∃ x, l[k]? = some x ∧ u = .int .i64 x := by
        rw [List.getElem?_map] at hu
        obtain ⟨x, hx, hxu⟩ := Option.map_eq_some_iff.1 hu
        exact ⟨x, hx, hxu.symm⟩
      have hcell' := (hb.cell (p := ⟨b, off + k, none⟩) (by show b < _; omega)).trans hcell
      obtain ⟨hx1, hx2⟩ := hl x (List.mem_of_getElem? hx)
      have hft := flat_take enc l k x hx
      have hfl := flat_take_le enc l (k + 1)
      have HF := Lib.hid hft
      have HX := Lib.hid hx
      have hel := enc_len x
      have HN : (enc l.length ++ ((l.take k).map enc).flatten).length ≤ 70368744177664 - (enc x).length := by
        have := HCB.out; rw [hft, List.length_append] at hfl; rw [List.length_append]; omega
      clear hft hfl hx hu hcell
      go_wp2_with fail
      refine (int_any _ _ hx1 hx2).mono ?_
      rintro e w1 hret
      obtain ⟨A1, c1, rfl, hown1, hrd1, hb1⟩ := hret.open
      have hownw := ownsRow_below hown hb1 (Nat.le_refl _)
      have hbw := hb.trans (hb1.mono hb.size)
      clear hret hown hb hb1 hown1
      go_wp2_with (at_builtin; with_reducible refine appR _ _ Tryd.sl_u8 (wn rfl) rfl rfl rfl hownw hrd1 (bcs_one _) hbw (Nat.le_refl _) (by omega) (by omega) ?_)
      intro v' w' h3 h4 _
      clear hownw hbw hrd1 hcell'
      go_wp2
      go_roundw
      case rel =>
        refine ⟨k + 1, by omega, by go_num, ?_, h4⟩
        rw [HF.out]
        exact ownsRow_count h3 (by simp; omega) (by simp [bcs_append])
      case measure => simp [intOf]; omega
    · obtain rfl : k = l.length := by omega
      have HS := Lib.hid (show enc l.length ++ ((l.take l.length).map enc).flatten = encI l by simp [encI])
      clear hlt
      go_wp2
      go_ret
      rw [HS.out] at hown
      exact ⟨_, rfl, hown, hb⟩
end Go.Proofs.YtgjgjimgomhbmaaDoor
namespace Go.Proofs.YtgjgjimgomhbmaaDoor
open Go.RowKit
set_option maxRecDepth 100000 in
set_option maxHeartbeats 400000 in
theorem refInts_any (l : List Int) (A : Option Addr) (n c B : Nat) (w : World) (hr : Rd w B 1 A n c (l.map iv)) (hB : B ≤ w.heap.size) (hl : ∀ x ∈ l, isI64 x) (hlen : (encI l).length ≤ 70368744177664) :
    Calls Tryd.prog 45 #[.slice A n c] w (RetRow w 5 1 (encI l).length (bcs (encI l))) := by
  obtain rfl : l.length = n := by have := hr.len; simpa using this
  have hcap := hr.cap
  have hle := hr.le
  have hcb : (enc l.length).length + (l.map enc).flatten.length = (encI l).length := by simp [encI]
  have HCB := Lib.hid hcb
  unfold maxLen at hcap
  go_enter Tryd.func45, Tryd.ntmps45
  go_wp2_with fail
  refine (refInt_any _ _ (by omega) (by omega)).mono ?_
  rintro e w1 ⟨v, rfl, hown, hb⟩
  clear hcb
  go_wp2_with fail
  go_loopw [3, 4] (fun v i wr => ∃ k : Nat, k ≤ l.length ∧ i = .int .i64 k ∧ wr.ownsRow w.heap.size 5 1 v (enc l.length ++ ((l.take k).map enc).flatten).length (bcs (enc l.length ++ ((l.take k).map enc).flatten)) ∧ Below w.heap.size w wr)
    (fun _ i _ => l.length - (intOf i).toNat)
  case atStart => exact ⟨0, Nat.zero_le _, rfl, by simpa using hown, hb⟩
  case round =>
    clear hown hb
    obtain ⟨k, hk, rfl, hown, hb⟩ := hrel
    by_cases hlt : k < l.length
    · obtain ⟨b, off, u, rfl, hbB, hu, hcell⟩ := hr.at1 hlt
      obtain ⟨x, hx, rfl⟩ : ∃ x, l[k]? = some x ∧ u = .int .i64 x := by
        rw [List.getElem?_map] at hu
        obtain ⟨x, hx, hxu⟩ := Option.map_eq_some_iff.1 hu
        exact ⟨x, hx, hxu.symm⟩
      have hcell' := (hb.cell (p := ⟨b, off + k, none⟩) (by show b < _; omega)).trans hcell
      obtain ⟨hx1, hx2⟩ := hl x (List.mem_of_getElem? hx)
      have hft := flat_take enc l k x hx
      have hfl := flat_take_le enc l (k + 1)
      have HF := Lib.hid hft
      have HX := Lib.hid hx
      have hel := enc_len x
      have HN : (enc l.length ++ ((l.take k).map enc).flatten).length ≤ 70368744177664 - (enc x).length := by
        have := HCB.out; rw [hft, List.length_append] at hfl; rw [List.length_append]; omega
      clear hft hfl hx hu hcell
      go_wp2_with fail
      refine (refInt_any _ _ hx1 hx2).mono ?_
      rintro e w1 hret
      obtain ⟨A1, c1, rfl, hown1, hrd1, hb1⟩ := hret.open
      have hownw := ownsRow_below hown hb1 (Nat.le_refl _)
      have hbw := hb.trans (hb1.mono hb.size)
      clear hret hown hb hb1 hown1
      go_wp2_with (at_builtin; with_reducible refine appR _ _ Tryd.sl_u8 (wn rfl) rfl rfl rfl hownw hrd1 (bcs_one _) hbw (Nat.le_refl _) (by omega) (by omega) ?_)
      intro v' w' h3 h4 _
      clear hownw hbw hrd1 hcell'
      go_wp2
      go_roundw
      case rel =>
        refine ⟨k + 1, by omega, by go_num, ?_, h4⟩
        rw [HF.out]
        exact ownsRow_count h3 (by simp; omega) (by simp [bcs_append])
      case measure => simp [intOf]; omega
    · obtain rfl : k = l.length := by omega
      have HS := Lib.hid (show enc l.length ++ ((l.take l.length).map enc).flatten = encI l by simp [encI])
      clear hlt
      go_wp2
      go_ret
      rw [HS.out] at hown
      exact ⟨_, rfl, hown, hb⟩
set_option maxRecDepth 100000 in
set_option maxHeartbeats 400000 in
theorem ints_any (l : List Int) (A : Option Addr) (n c B : Nat) (w : World) (hr : Rd w B 1 A n c (l.map iv)) (hB : B ≤ w.heap.size) (hl : ∀ x ∈ l, isI64 x) (hlen : (encI l).length ≤ 70368744177664) :
    Calls Tryd.prog 43 #[.slice A n c] w (RetRow w 5 1 (encI l).length (bcs (encI l))) := by
  have H := listInt_any l A n c B w hr hB hl hlen
  go_enter Tryd.func43, Tryd.ntmps43
  go_wp2_with fail
  refine H.mono ?_
  clear H
  rintro e w1 ⟨v, rfl, hown, hb⟩
  go_wp2_with fail
  go_ret
  exact ⟨_, rfl, hown, hb⟩
end Go.Proofs.YtgjgjimgomhbmaaDoor
namespace Go.Proofs.YtgjgjimgomhbmaaDoor
open Go.RowKit
set_option maxRecDepth 100000 in
set_option maxHeartbeats 400000 in
theorem clone_any (xs : List Value) (p : Addr) (n c B : Nat) (w : World) (hr : Rd w B 1 (some p) n c xs) (hB : B ≤ w.heap.size) (h1 : ∀ u ∈ xs, u.oneCell' = true) (hn : n ≤ 70368744177664) :
    Calls Tryd.prog 90 #[.slice (some p) n c] w (RetRow w 5 1 n xs) := by
  have hown : (w.alloc (.cells #[] 5)).ownsRow w.heap.size 5 1 (.slice (some ⟨w.heap.size, 0, none⟩) 0 0) 0 [] := World.ownsRow_lit w #[] 0 (Nat.le_refl _) (Nat.zero_le _) rfl
  have hb : Below w.heap.size w (w.alloc (.cells #[] 5)) := (Below.refl _ _).alloc (Nat.le_refl _) _
  have hr2 := hr.alloc hB (.cells #[] 5)
  have hnil := @Lib.run_eql_slice_nil Tryd.prog
  go_enter Tryd.func90, Tryd.ntmps90
  go_wp2_with (at_builtin; with_reducible refine appR _ _ Tryd.sl_u8 (wn rfl) rfl rfl rfl hown hr2 h1 hb (Nat.le_refl _) (by omega) (by omega) ?_)
  intro v' w' h3 h4 _
  clear hown hb hr2 hnil
  go_wp2
  go_ret
  exact ⟨_, rfl, ownsRow_count h3 (by simp) (by simp), h4⟩
def digZero : Array Value := Array.replicate 16 (.int .u8 0)
theorem Tryd.ag_dig : AgTy Tryd.prog 37 digZero 16 := ⟨by kernel_rfl, by kernel_rfl, by simp [digZero]⟩
theorem rd_agg (w : World) (cs : List Value) (t : TypeId) (h : cs.length ≤ maxLen) : Rd (w.alloc (.cells cs.toArray t)) (w.heap.size + 1) 1 (some ⟨w.heap.size, 0, none⟩) cs.length cs.length cs := by
  refine ⟨by simp, Nat.le_refl _, h, fun _ => ⟨w.heap.size, 0, rfl, by omega, fun j u hu => ?_⟩⟩
  rw [World.cell?_alloc_at _ t w.heap.size (0 + j) rfl]
  simpa using hu
set_option maxRecDepth 100000 in
set_option maxHeartbeats 400000 in
theorem digest_any (D : List UInt8) (hD : D.length = 16) (w : World) :
    Calls Tryd.prog 76 #[.agg (bcs D).toArray] w (RetRow w 5 1 16 (bcs D)) := by
  have hr := rd_agg w (bcs D) 37 (by rw [bcs_length, hD]; decide)
  rw [bcs_length, hD] at hr
  have HD := Lib.hid hD
  clear hD
  go_enter Tryd.func76, Tryd.ntmps76
  go_wp2_with fail
  refine (clone_any _ _ _ _ _ _ hr (by simp) (bcs_one _) (by omega)).mono ?_
  rintro e w1 ⟨v, rfl, hown, hb⟩
  clear hr
  go_wp2_with fail
  go_ret
  exact ⟨_, rfl, ownsRow_base hown (by simp), ((Below.refl _ _).alloc (Nat.le_refl _) _).trans (hb.mono (by simp))⟩
set_option maxRecDepth 100000 in
set_option maxHeartbeats 400000 in
theorem listDig_any (D : List UInt8) (A : Option Addr) (n c B : Nat) (w : World) (hr : Rd w B 16 A n c (bcs D)) (hB : B ≤ w.heap.size) (hlen : (encD n D).length ≤ 70368744177664) :
    Calls Tryd.prog 75 #[.slice A n c, .func (.func 76) #[] #[]] w (RetRow w 5 1 (encD n D).length (bcs (encD n D))) := by
  have hD : D.length = n * 16 := by have := hr.len; rwa [bcs_length] at this
  have hcap := hr.cap
  have hle := hr.le
  have hcb : (enc n).length + D.length = (encD n D).length := by simp [encD]
  unfold maxLen at hcap
  go_enter Tryd.func75, Tryd.ntmps75
  go_wp2_with fail
  refine (int_any _ _ (by omega) (by omega)).mono ?_
  rintro e w1 ⟨v, rfl, hown, hb⟩
  have HCB := Lib.hid hcb
  have HD := Lib.hid hD
  clear hcb hD
  go_wp2_with fail
  go_loopw [5, 13] (fun v i wr => ∃ k : Nat, k ≤ n ∧ i = .int .i64 k ∧ wr.ownsRow w.heap.size 5 1 v (enc n ++ D.take (k * 16)).length (bcs (enc n ++ D.take (k * 16))) ∧ Below w.heap.size w wr)
    (fun _ i _ => n - (intOf i).toNat)
  case atStart => exact ⟨0, Nat.zero_le _, rfl, by simpa using hown, hb⟩
  case round =>
    clear hown hb
    obtain ⟨k, hk, rfl, hown, hb⟩ := hrel
    by_cases hlt : k < n
    · obtain ⟨b, off, rfl, hbB, hcell⟩ := hr.cells (by omega)
      obtain ⟨Dk, hDk⟩ : ∃ x, x = (D.drop (k * 16)).take 16 := ⟨_, rfl⟩
      have hk16 : Dk.length = 16 := by have := HD.out; rw [hDk, List.length_take, List.length_drop]; omega
      have htk : D.take ((k + 1) * 16) = D.take (k * 16) ++ Dk := by
        rw [hDk, show (k + 1) * 16 = k * 16 + 16 from by omega, List.take_add]
      have hcs : ∀ j u, (bcs Dk)[j]? = some u → wr.cell? ⟨b, off + k * 16 + j, none⟩ = some u := by
        intro j u hj
        refine (hb.cell (p := ⟨b, off + k * 16 + j, none⟩) (by show b < _; omega)).trans ?_
        rw [Nat.add_assoc]
        refine hcell _ _ ?_
        rw [← hj, hDk, bcs, bcs, List.getElem?_map, List.getElem?_map, List.getElem?_take, List.getElem?_drop]
        have hjl := (List.getElem?_eq_some_iff.1 hj).1
        rw [bcs_length, hk16] at hjl
        rw [if_pos hjl]
      have HC := Lib.hid hcs
      have HT := Lib.hid htk
      have HK := Lib.hid hk16
      have HN : (enc n ++ D.take (k * 16)).length ≤ 70368744177664 - 16 := by
        have h1 := congrArg List.length htk
        have h2 : (D.take ((k + 1) * 16)).length ≤ D.length := by rw [List.length_take]; omega
        have := HCB.out
        rw [List.length_append] at h1 ⊢
        omega
      clear hcell hDk hcs htk hk16
      go_wp2_with (first | (with_reducible refine ldAgg (.tmp 15) (bcs Dk) Tryd.ag_dig (wn rfl) rfl rfl (by rw [bcs_length]; exact HK.out) HC.out ?_) | (with_reducible refine alAgg Tryd.ag_dig (wn rfl) rfl ?_) | (with_reducible refine stNew (.tmp 7) (.tmp 16) Tryd.ag_dig (wn rfl) rfl rfl rfl Tryd.ag_dig.zs (by rw [List.size_toArray, bcs_length]; exact HK.out) (by simpa using bcs_one Dk) ?_) | (with_reducible refine ldAgg (.tmp 7) (bcs Dk) Tryd.ag_dig (wn rfl) rfl rfl (by rw [bcs_length]; exact HK.out) (by intro j u hu; rw [World.cell?_alloc_at _ _ _ _ rfl]; simpa using hu) ?_))
      refine (digest_any Dk HK.out _).mono ?_
      rintro e w1 hret
      obtain ⟨A1, c1, rfl, hown1, hrd1, hb1⟩ := hret.open
      have hownw := ownsRow_below (hown.alloc _) hb1 (Nat.le_refl _)
      have hbw := (hb.alloc hb.size _).trans (hb1.mono (by have := hb.size; simp; omega))
      clear hret hown hb hb1 hown1 HC
      go_wp2_with (at_builtin; with_reducible refine appR _ _ Tryd.sl_u8 (wn rfl) rfl rfl rfl hownw hrd1 (bcs_one _) hbw (Nat.le_refl _) (by omega) (by omega) ?_)
      intro v' w' h3 h4 _
      clear hownw hbw hrd1
      go_wp2
      go_roundw
      case rel =>
        refine ⟨k + 1, by omega, by go_num, ?_, h4⟩
        rw [HT.out]
        exact ownsRow_count h3 (by have := HK.out; simp; omega) (by simp [bcs_append])
      case measure => simp [intOf]; omega
    · obtain rfl : k = n := by omega
      have HS := Lib.hid (show enc k ++ D.take (k * 16) = encD k D by rw [← HD.out, List.take_length]; rfl)
      clear hlt
      go_wp2
      go_ret
      rw [HS.out] at hown
      exact ⟨_, rfl, hown, hb⟩
end Go.Proofs.YtgjgjimgomhbmaaDoor
namespace Go.Proofs.YtgjgjimgomhbmaaDoor
open Go.RowKit
set_option maxRecDepth 100000 in
set_option maxHeartbeats 400000 in
theorem refDigs_any (D : List UInt8) (A : Option Addr) (n c B : Nat) (w : World) (hr : Rd w B 16 A n c (bcs D)) (hB : B ≤ w.heap.size) (hlen : (encD n D).length ≤ 70368744177664) :
    Calls Tryd.prog 46 #[.slice A n c] w (RetRow w 5 1 (encD n D).length (bcs (encD n D))) := by
  have hD : D.length = n * 16 := by have := hr.len; rwa [bcs_length] at this
  have hcap := hr.cap
  have hle := hr.le
  have hcb : (enc n).length + D.length = (encD n D).length := by simp [encD]
  unfold maxLen at hcap
  go_enter Tryd.func46, Tryd.ntmps46
  go_wp2_with fail
  refine (refInt_any _ _ (by omega) (by omega)).mono ?_
  rintro e w1 ⟨v, rfl, hown, hb⟩
  have HCB := Lib.hid hcb
  have HD := Lib.hid hD
  clear hcb hD
  go_wp2_with fail
  go_loopw [3, 4] (fun v i wr => ∃ k : Nat, k ≤ n ∧ i = .int .i64 k ∧ wr.ownsRow w.heap.size 5 1 v (enc n ++ D.take (k * 16)).length (bcs (enc n ++ D.take (k * 16))) ∧ Below w.heap.size w wr)
    (fun _ i _ => n - (intOf i).toNat)
  case atStart => exact ⟨0, Nat.zero_le _, rfl, by simpa using hown, hb⟩
  case round =>
    clear hown hb
    obtain ⟨k, hk, rfl, hown, hb⟩ := hrel
    by_cases hlt : k < n
    · obtain ⟨b, off, rfl, hbB, hcell⟩ := hr.cells (by omega)
      obtain ⟨Dk, hDk⟩ : ∃ x, x = (D.drop (k * 16)).take 16 := ⟨_, rfl⟩
      have hk16 : Dk.length = 16 := by have := HD.out; rw [hDk, List.length_take, List.length_drop]; omega
      have htk : D.take ((k + 1) * 16) = D.take (k * 16) ++ Dk := by
        rw [hDk, show (k + 1) * 16 = k * 16 + 16 from by omega, List.take_add]
      have hcs : ∀ j u, (bcs Dk)[j]? = some u → wr.cell? ⟨b, off + k * 16 + j, none⟩ = some u := by
        intro j u hj
        refine (hb.cell (p := ⟨b, off + k * 16 + j, none⟩) (by show b < _; omega)).trans ?_
        rw [Nat.add_assoc]
        refine hcell _ _ ?_
        rw [← hj, hDk, bcs, bcs, List.getElem?_map, List.getElem?_map, List.getElem?_take, List.getElem?_drop]
        have hjl := (List.getElem?_eq_some_iff.1 hj).1
        rw [bcs_length, hk16] at hjl
        rw [if_pos hjl]
      have HC := Lib.hid hcs
      have HT := Lib.hid htk
      have HK := Lib.hid hk16
      have HN : (enc n ++ D.take (k * 16)).length ≤ 70368744177664 - 16 := by
        have h1 := congrArg List.length htk
        have h2 : (D.take ((k + 1) * 16)).length ≤ D.length := by rw [List.length_take]; omega
        have := HCB.out
        rw [List.length_append] at h1 ⊢
        omega
      clear hcell hDk hcs htk hk16
      have hrd : Rd wr B 1 (some ⟨b, off + k * 16, none⟩) 16 16 (bcs Dk) := ⟨by rw [bcs_length]; exact HK.out, by omega, by decide, fun _ => ⟨b, off + k * 16, rfl, hbB, HC.out⟩⟩
      clear HC
      go_wp2_with (at_builtin; with_reducible refine appR _ _ Tryd.sl_u8 (wn rfl) rfl rfl rfl hown hrd (bcs_one _) hb (Nat.le_refl _) (by omega) (by omega) ?_)
      intro v' w' h3 h4 _
      clear hown hb hrd
      go_wp2
      go_roundw
      case rel =>
        refine ⟨k + 1, by omega, by go_num, ?_, h4⟩
        rw [HT.out]
        exact ownsRow_count h3 (by have := HK.out; simp; omega) (by simp [bcs_append])
      case measure => simp [intOf]; omega
    · obtain rfl : k = n := by omega
      have HS := Lib.hid (show enc k ++ D.take (k * 16) = encD k D by rw [← HD.out, List.take_length]; rfl)
      clear hlt
      go_wp2
      go_ret
      rw [HS.out] at hown
      exact ⟨_, rfl, hown, hb⟩
set_option maxRecDepth 100000 in
set_option maxHeartbeats 400000 in
theorem digs_any (D : List UInt8) (A : Option Addr) (n c B : Nat) (w : World) (hr : Rd w B 16 A n c (bcs D)) (hB : B ≤ w.heap.size) (hlen : (encD n D).length ≤ 70368744177664) :
    Calls Tryd.prog 44 #[.slice A n c] w (RetRow w 5 1 (encD n D).length (bcs (encD n D))) := by
  have H := listDig_any D A n c B w hr hB hlen
  go_enter Tryd.func44, Tryd.ntmps44
  go_wp2_with fail
  refine H.mono ?_
  clear H
  rintro e w1 ⟨v, rfl, hown, hb⟩
  go_wp2_with fail
  go_ret
  exact ⟨_, rfl, hown, hb⟩
end Go.Proofs.YtgjgjimgomhbmaaDoor
namespace Go.Proofs.YtgjgjimgomhbmaaDoor
open Go.RowKit
def decGo : List UInt8 → Nat → Nat → Int × Int × Int
  | [], _, _ => (0, 0, 5)
  | c :: t, k, z => if (k = 9 ∧ 1 < c.toNat) ∨ (0 < k ∧ c.toNat = 0) then (0, 0, 6) else
    if c.toNat < 128 then (unzz (z + c.toNat % 128 * 128 ^ k), (k : Int) + 1, 0) else decGo t (k + 1) (z + c.toNat % 128 * 128 ^ k)
def dec (l : List UInt8) : Int × Int × Int := decGo l 0 0
theorem pow7 (k : Nat) : (128 : Nat) ^ k = 2 ^ (7 * k) := by rw [Nat.pow_mul]
theorem pow7_le {k : Nat} (h : k ≤ 8) : (128 : Nat) ^ k ≤ 72057594037927936 := Nat.le_trans (Nat.pow_le_pow_right (by omega) h) (by decide)
theorem get_or (x : UInt8) (z k : Nat) (hk : k < 9 ∨ (k ≤ 9 ∧ x.toNat ≤ 1)) (hz : z < 128 ^ k) :
    z + x.toNat % 128 * 128 ^ k < 18446744073709551616 ∧
    bits .or .u64 (z : Int) (IntKind.u64.wrap (IntKind.u64.wrap (bits .and .u8 (x.toNat : Int) 127) * 2 ^ (7 * k))) = ((z + x.toNat % 128 * 128 ^ k : Nat) : Int) := by
  have hprod : x.toNat % 128 * 128 ^ k ≤ 9223372036854775808 ∧ 128 ^ k ≤ 9223372036854775808 ∧ z + x.toNat % 128 * 128 ^ k < 18446744073709551616 := by
    rcases hk with hk | ⟨hk, hx⟩
    · have h1 := pow7_le (k := k) (by omega)
      have h2 : x.toNat % 128 * 128 ^ k ≤ 127 * 72057594037927936 := Nat.mul_le_mul (by omega) h1
      omega
    · have h1 : (128 : Nat) ^ k ≤ 9223372036854775808 := Nat.le_trans (Nat.pow_le_pow_right (by omega) hk) (by decide)
      have h2 : x.toNat % 128 * 128 ^ k ≤ 1 * 9223372036854775808 := Nat.mul_le_mul (by omega) h1
      omega
  refine ⟨hprod.2.2, ?_⟩
  rw [u8_and127, IntWalk.u64_in ((x.toNat % 128 : Nat) : Int) ⟨by omega, by omega⟩]
  have e : ((x.toNat % 128 : Nat) : Int) * 2 ^ (7 * k) = ((x.toNat % 128 * 128 ^ k : Nat) : Int) := by rw [pow7]; simp
  rw [e, IntWalk.u64_in _ ⟨by omega, by omega⟩, u64_or_nat _ _ (by omega) (by omega), pow7, nat_or_shift _ _ _ (by rw [← pow7]; exact hz)]
theorem get_and1 (Z : Nat) (h : Z < 18446744073709551616) : bits .and .u64 (Z : Int) 1 = (Z : Int) % 2 := by
  have h := u64_and_nat Z 1 h (by omega)
  rw [Nat.and_one_is_mod] at h
  exact h
theorem get_unzz (Z : Nat) (h : Z < 18446744073709551616) : bits .xor .i64 ((Z : Int) / 2) (-((Z : Int) % 2)) = unzz Z := by
  unfold unzz
  rcases Nat.mod_two_eq_zero_or_one Z with h0 | h0
  · rw [show (Z : Int) % 2 = 0 from by omega, if_neg (by omega)]
    have : bits .xor .i64 ((Z / 2 : Nat) : Int) ((0 : Nat) : Int) = _ := i64_xor_n (Z / 2) 0 (by omega) (by omega)
    rw [Nat.xor_zero] at this
    exact_mod_cast this
  · rw [show (Z : Int) % 2 = 1 from by omega, if_pos h0]
    have := i64_xor_m1 ((Z : Int) / 2) (by omega) (by omega)
    exact_mod_cast this
theorem dec_lt (l : List UInt8) (k : Nat) (x : UInt8) (h : l[k]? = some x) : l.drop k = x :: l.drop (k + 1) := by
  have hk : k < l.length := by
    rcases Nat.lt_or_ge k l.length with hh | hh
    · exact hh
    · rw [List.getElem?_eq_none hh] at h; cases h
  rw [List.drop_eq_getElem_cons hk]
  rw [List.getElem?_eq_getElem hk] at h
  rw [Option.some.inj h]
theorem dec_bad {l : List UInt8} {k z : Nat} {x : UInt8} {r : Int × Int × Int} (hx : l[k]? = some x) (hd : decGo (l.drop k) k z = r) (h : (9 ≤ k ∧ 1 < x.toNat ∧ k ≤ 9) ∨ (1 ≤ k ∧ x.toNat < 1)) : r = (0, 0, 6) := by
  rw [dec_lt l k x hx, decGo, if_pos (by omega)] at hd
  exact hd.symm
theorem dec_fin {l : List UInt8} {k z : Nat} {x : UInt8} {r : Int × Int × Int} (hx : l[k]? = some x) (hd : decGo (l.drop k) k z = r) (h : (k < 9 ∨ x.toNat ≤ 1) ∧ (k < 1 ∨ 0 < x.toNat)) (h2 : x.toNat < 128) :
    r = (unzz (z + x.toNat % 128 * 128 ^ k), (k : Int) + 1, 0) := by
  rw [dec_lt l k x hx, decGo, if_neg (by omega), if_pos h2] at hd
  exact hd.symm
theorem dec_more {l : List UInt8} {k z : Nat} {x : UInt8} {r : Int × Int × Int} (hx : l[k]? = some x) (hd : decGo (l.drop k) k z = r) (h : (k < 9 ∨ x.toNat ≤ 1) ∧ (k < 1 ∨ 0 < x.toNat)) (h2 : ¬ x.toNat < 128) :
    decGo (l.drop (k + 1)) (k + 1) (z + x.toNat % 128 * 128 ^ k) = r := by
  rw [dec_lt l k x hx, decGo, if_neg (by omega), if_neg h2] at hd
  exact hd
/-- The number that the low bits of the first k bytes make. -/
def valToW (l : List UInt8) : Nat → Nat
  | 0 => 0
  | k + 1 => valToW l k + (l.getD k 0).toNat % 128 * 128 ^ k
theorem valTo_lt (l : List UInt8) : ∀ k, valToW l k < 128 ^ k
  | 0 => by simp [valToW]
  | k + 1 => by
    have h := valTo_lt l k
    rw [valToW, Nat.pow_succ]
    have h2 : (l.getD k 0).toNat % 128 * 128 ^ k ≤ 127 * 128 ^ k := Nat.mul_le_mul_right _ (by omega)
    omega
theorem valTo_succ {l : List UInt8} {k : Nat} {x : UInt8} (h : l[k]? = some x) : valToW l (k + 1) = valToW l k + x.toNat % 128 * 128 ^ k := by
  rw [valToW, List.getD, h]; rfl
/-- What holds when the first k bytes have been found to go on. -/
def Lead (l : List UInt8) (k : Nat) : Prop := (k ≤ 9 → decGo (l.drop k) k (valToW l k) = dec l) ∧ (10 ≤ k → dec l = (0, 0, 6))
theorem lead_0 (l : List UInt8) : Lead l 0 := ⟨fun _ => rfl, fun h => absurd h (by omega)⟩
theorem lead_step {l : List UInt8} {k : Nat} {x : UInt8} (hk : k < 10) (hx : l[k]? = some x) (h2 : 128 ≤ x.toNat) (h : Lead l k) : Lead l (k + 1) := by
  refine ⟨fun h9 => ?_, fun h10 => ?_⟩
  · rw [valTo_succ hx]
    exact dec_more hx (h.1 (by omega)) ⟨by omega, by omega⟩ (by omega)
  · exact dec_bad hx (h.1 (by omega)) (by omega)
theorem lead_end {l : List UInt8} (h : Lead l l.length) (hl : l.length ≤ 9) : dec l = (0, 0, 5) := by
  rw [← h.1 hl, List.drop_length]; rfl
/-- The reference's way from the last byte to the first. -/
def Horner (l : List UInt8) (k m acc : Nat) : Prop := acc * 128 ^ m + valToW l m = valToW l k
theorem horner_step {l : List UInt8} {k m acc : Nat} {x : UInt8} (hx : l[m]? = some x) (h : Horner l k (m + 1) acc) : Horner l k m (acc * 128 + x.toNat % 128) := by
  unfold Horner at h ⊢
  rw [valTo_succ hx, Nat.pow_succ] at h
  rw [← h, Nat.add_mul, Nat.mul_assoc, Nat.mul_comm 128 (128 ^ m)]
  omega
theorem horner_le {l : List UInt8} {k m acc : Nat} (h : Horner l k m acc) : acc ≤ valToW l k := by
  unfold Horner at h
  have h1 : acc * 1 ≤ acc * 128 ^ m := Nat.mul_le_mul_left _ (Nat.one_le_pow _ _ (by omega))
  omega
theorem valTo_bound {l : List UInt8} {k : Nat} {x : UInt8} (hk : k < 9 ∨ (k ≤ 9 ∧ x.toNat ≤ 1)) (hx : l[k]? = some x) : valToW l (k + 1) < 18446744073709551616 := by
  rw [valTo_succ hx]
  exact (get_or x (valToW l k) k hk (valTo_lt l k)).1
theorem dec_step_lt (x : UInt8) (z k : Nat) (hz : z < 128 ^ k) : z + x.toNat % 128 * 128 ^ k < 128 ^ (k + 1) := by
  rw [Nat.pow_succ]
  have h : x.toNat % 128 * 128 ^ k ≤ 127 * 128 ^ k := Nat.mul_le_mul_right _ (by omega)
  omega
theorem decGo_facts : ∀ (l : List UInt8) (k z : Nat) (n u e : Int), k ≤ 9 → z < 128 ^ k → decGo l k z = (n, u, e) → (e = 0 ∧ (k : Int) + 1 ≤ u ∧ u ≤ 10 ∧ u ≤ k + l.length ∧ isI64 n) ∨ (n = 0 ∧ u = 0 ∧ (e = 5 ∨ e = 6))
  | [], k, z, n, u, e, hk, hz, h => by
    simp [decGo] at h; exact Or.inr (by omega)
  | c :: t, k, z, n, u, e, hk, hz, h => by
    rw [decGo] at h
    by_cases h1 : (k = 9 ∧ 1 < c.toNat) ∨ (0 < k ∧ c.toNat = 0)
    · rw [if_pos h1] at h; simp at h; exact Or.inr (by omega)
    · rw [if_neg h1] at h
      by_cases h2 : c.toNat < 128
      · rw [if_pos h2] at h
        simp only [Prod.mk.injEq] at h
        obtain ⟨h3, h4, h5⟩ := h
        have hZ := (get_or c z k (by omega) hz).1
        refine Or.inl ⟨h5.symm, by omega, by omega, by simp; omega, ?_⟩
        rw [← h3]
        exact ⟨unzz_lo _ hZ, unzz_hi _ hZ⟩
      · rw [if_neg h2] at h
        have hk9 : k + 1 ≤ 9 := by omega
        have := decGo_facts t (k + 1) _ n u e hk9 (dec_step_lt c z k hz) h
        simp only [List.length_cons]
        rcases this with ⟨a, b, c, d, f⟩ | h3
        · exact Or.inl ⟨a, by omega, c, by omega, f⟩
        · exact Or.inr h3
theorem dec_facts {l : List UInt8} {n u e : Int} (h : dec l = (n, u, e)) : (e = 0 ∧ 1 ≤ u ∧ u ≤ 10 ∧ u ≤ l.length ∧ isI64 n) ∨ (n = 0 ∧ u = 0 ∧ (e = 5 ∨ e = 6)) := by
  have := decGo_facts l 0 0 n u e (by omega) (by simp) h
  rcases this with ⟨a, b, c, d, f⟩ | h3
  · exact Or.inl ⟨a, by omega, c, by omega, f⟩
  · exact Or.inr h3
def lenDec (l : List UInt8) (least : Nat) : Int × Int × Int :=
  if (dec l).2.2 ≠ 0 then (0, 0, (dec l).2.2) else if (dec l).1 < 0 then (0, 0, 6) else if ((l.length : Int) - (dec l).2.1) / (least : Int) < (dec l).1 then (0, 0, 5) else ((dec l).1, (dec l).2.1, 0)
theorem lenDec_facts {l : List UInt8} {least : Nat} (hl : 1 ≤ least) {n u e : Int} (h : lenDec l least = (n, u, e)) : (e = 0 ∧ 1 ≤ u ∧ u ≤ 10 ∧ u ≤ l.length ∧ 0 ≤ n ∧ n * least + u ≤ l.length ∧ isI64 n) ∨ (n = 0 ∧ u = 0 ∧ (e = 5 ∨ e = 6)) := by
  obtain ⟨a, b, c, hd⟩ : ∃ a b c, dec l = (a, b, c) := ⟨_, _, _, rfl⟩
  have hf := dec_facts hd
  unfold lenDec at h
  rw [hd] at h
  simp only at h
  by_cases h1 : c ≠ 0
  · rw [if_pos h1] at h; simp only [Prod.mk.injEq] at h; exact Or.inr (by omega)
  · rw [if_neg h1] at h
    rcases hf with ⟨f1, f2, f3, f4, f5⟩ | hf
    · by_cases h2 : a < 0
      · rw [if_pos h2] at h; simp only [Prod.mk.injEq] at h; exact Or.inr (by omega)
      · rw [if_neg h2] at h
        by_cases h3 : ((l.length : Int) - b) / (least : Int) < a
        · rw [if_pos h3] at h; simp only [Prod.mk.injEq] at h; exact Or.inr (by omega)
        · rw [if_neg h3] at h; simp only [Prod.mk.injEq] at h
          obtain ⟨rfl, rfl, rfl⟩ := h
          refine Or.inl ⟨rfl, f2, f3, f4, by omega, ?_, f5⟩
          have hq : a ≤ ((l.length : Int) - b) / (least : Int) := by omega
          have h5 := (Int.le_ediv_iff_mul_le (by omega : (0 : Int) < least)).1 hq
          omega
    · omega
/-- What GetBytes computes. -/
def decS (l : List UInt8) : List UInt8 × Int × Int :=
  if (lenDec l 1).2.2 ≠ 0 then ([], 0, (lenDec l 1).2.2) else ((l.drop (lenDec l 1).2.1.toNat).take (lenDec l 1).1.toNat, (lenDec l 1).2.1 + (lenDec l 1).1, 0)
/-- What the decoders of lists compute: the elements one after the other. -/
def many {α : Type} (one : List UInt8 → α × Int × Int) (l : List UInt8) : Nat → Nat → List α → List α × Int × Int
  | 0, at_, acc => (acc, (at_ : Int), 0)
  | n + 1, at_, acc => if (one (l.drop at_)).2.2 ≠ 0 then ([], 0, (one (l.drop at_)).2.2) else many one l n (at_ + (one (l.drop at_)).2.1.toNat) (acc ++ [(one (l.drop at_)).1])
def decList {α : Type} (one : List UInt8 → α × Int × Int) (l : List UInt8) : List α × Int × Int :=
  if (lenDec l 1).2.2 ≠ 0 then ([], 0, (lenDec l 1).2.2) else many one l (lenDec l 1).1.toNat (lenDec l 1).2.1.toNat []
def decI (l : List UInt8) : List Int × Int × Int := decList dec l
/-- What GetDigests computes: the bytes of the digests, one behind the other. -/
def decD (l : List UInt8) : List UInt8 × Int × Int :=
  if (lenDec l 16).2.2 ≠ 0 then ([], 0, (lenDec l 16).2.2) else ((l.drop (lenDec l 16).2.1.toNat).take ((lenDec l 16).1.toNat * 16), (lenDec l 16).2.1 + (lenDec l 16).1 * 16, 0)
end Go.Proofs.YtgjgjimgomhbmaaDoor
namespace Go.Proofs.YtgjgjimgomhbmaaDoor
open Go.RowKit
/-- Three numbers are returned, the world is as it was. -/
def Ret3 (w : World) (r : Int × Int × Int) (en : Ending) (w' : World) : Prop := en = .returned (.tuple #[.int .i64 r.1, .int .i64 r.2.1, .int .i64 r.2.2]) ∧ w = w'
set_option maxRecDepth 100000 in
set_option maxHeartbeats 400000 in
theorem getInt_any (l : List UInt8) (A : Option Addr) (n c B : Nat) (w : World) (hr : Rd w B 1 A n c (bcs l)) :
    Calls Tryd.prog 67 #[.slice A n c] w (Ret3 w (dec l)) := by
  obtain rfl : l.length = n := by have := hr.len; simpa [bcs] using this
  have hcap := hr.cap
  have hle := hr.le
  unfold maxLen at hcap
  go_enter Tryd.func67, Tryd.ntmps67
  go_wp2
  go_step3
  go_wp2
  go_step3
  go_wp2
  go_loop [5, 6, 11] (fun zv uv iv => ∃ k z : Nat, uv = .int .i64 0 ∧ k ≤ l.length ∧ k ≤ 9 ∧ iv = .int .i64 k ∧ zv = .int .u64 z ∧ z < 18446744073709551616 ∧ Hid (z < 128 ^ k) ∧ Hid (decGo (l.drop k) k z = dec l))
    (fun _ _ i => l.length - (intOf i).toNat)
  case atStart => exact ⟨0, 0, rfl, Nat.zero_le _, by omega, rfl, rfl, by omega, (by show _ < _; decide), rfl⟩
  case round =>
    obtain ⟨k, z, rfl, hk, hk9, rfl, rfl, hz, hzk, hd⟩ := hrel
    by_cases hlt : k < l.length
    · obtain ⟨b, off, u, rfl, hbB, hu, hcell⟩ := hr.at1 hlt
      obtain ⟨x, hx, rfl⟩ : ∃ x, l[k]? = some x ∧ u = .int .u8 (x.toNat : Int) := by
        rw [bcs, List.getElem?_map] at hu
        obtain ⟨x, hx, hxu⟩ := Option.map_eq_some_iff.1 hu
        exact ⟨x, hx, hxu.symm⟩
      have hx256 := x.toNat_lt
      by_cases h1 : (k < 9 ∨ x.toNat ≤ 1) ∧ (k < 1 ∨ 0 < x.toNat)
      · obtain ⟨hZ, hor⟩ := get_or x z k (by omega) hzk.out
        have hstep := dec_step_lt x z k hzk.out
        by_cases h2 : x.toNat < 128
        · have hf := dec_fin hx hd.out h1 h2
          obtain ⟨Z, hZe⟩ : ∃ Z, Z = z + x.toNat % 128 * 128 ^ k := ⟨_, rfl⟩
          rw [← hZe] at hZ hor hstep hf
          have hand1 := get_and1 Z hZ
          have hfin := get_unzz Z hZ
          have HF := Lib.hid hf
          clear hx hu hstep hd hzk hZe hf
          by_cases h3 : k < 1
          · go_wp2
            (try rw [Exit.noGoto_ret]); go_ret3
            exact ⟨by rw [HF.out]; rfl, rfl⟩
          · by_cases h4 : k < 9
            · go_wp2
              (try rw [Exit.noGoto_ret]); go_ret3
              exact ⟨by rw [HF.out]; rfl, rfl⟩
            · obtain rfl : k = 9 := by omega
              rw [show (2 : Int) ^ (7 * 9) = 9223372036854775808 from by decide] at hor
              go_wp2
              (try rw [Exit.noGoto_ret]); go_ret3
              exact ⟨by rw [HF.out]; rfl, rfl⟩
        · have hm := dec_more hx hd.out h1 h2
          obtain ⟨Z, hZe⟩ : ∃ Z, Z = z + x.toNat % 128 * 128 ^ k := ⟨_, rfl⟩
          rw [← hZe] at hZ hor hstep hm
          have HM := Lib.hid hm
          have HS := Lib.hid hstep
          clear hx hu hstep hd hzk hZe hm
          by_cases h3 : k < 1
          all_goals
            go_wp2
            go_round
            case rel => exact ⟨k + 1, Z, rfl, by omega, by omega, by go_num, rfl, hZ, HS.out, HM.out⟩
            case measure => simp [intOf]; omega
      · have hf := dec_bad hx hd.out (by omega)
        have HF := Lib.hid hf
        clear hx hu hd hzk hf
        by_cases h3 : k < 9
        · have h4 : x.toNat < 1 := by omega
          go_wp2
          (try rw [Exit.noGoto_ret]); go_ret3
          exact ⟨by rw [HF.out]; rfl, rfl⟩
        · by_cases h4 : 1 < x.toNat
          all_goals
            go_wp2
            (try rw [Exit.noGoto_ret]); go_ret3
            exact ⟨by rw [HF.out]; rfl, rfl⟩
    · obtain rfl : k = l.length := by omega
      have HF : Hid (dec l = (0, 0, 5)) := by
        show _ = _
        rw [← hd.out, List.drop_length]; rfl
      clear hlt hd hzk
      go_wp2
      (try rw [Exit.noGoto_ret]); go_ret3
      exact ⟨by rw [HF.out]; rfl, rfl⟩
end Go.Proofs.YtgjgjimgomhbmaaDoor
namespace Go.Proofs.YtgjgjimgomhbmaaDoor
open Go.RowKit
theorem gi_cell {l : List UInt8} {w : World} {B b off n c j : Nat} (hr : Rd w B 1 (some ⟨b, off, none⟩) n c (bcs l)) (hj : j < l.length) : ∃ y, l[j]? = some y ∧ w.cell? ⟨b, off + j, none⟩ = some (.int .u8 (y.toNat : Int)) := by
  have hn : n = l.length := by have := hr.len; rw [bcs_length] at this; omega
  obtain ⟨b', off', u, e, _, hu, hc⟩ := hr.at1 (show j < n by omega)
  injection e with e
  injection e with e1 e2 e3
  subst e1; subst e2
  rw [bcs, List.getElem?_map] at hu
  obtain ⟨y, hy, hyu⟩ := Option.map_eq_some_iff.1 hu
  exact ⟨y, hy, by rw [hc, ← hyu]; rfl⟩
set_option maxRecDepth 100000 in
set_option maxHeartbeats 1000000 in
theorem refGetInt_any (l : List UInt8) (A : Option Addr) (n c B : Nat) (w : World) (hr : Rd w B 1 A n c (bcs l)) :
    Calls Tryd.prog 71 #[.slice A n c] w (Ret3 w (dec l)) := by
  obtain rfl : l.length = n := by have := hr.len; simpa [bcs] using this
  have hcap := hr.cap
  have hle := hr.le
  unfold maxLen at hcap
  go_enter Tryd.func71, Tryd.ntmps71
  go_wp2
  go_loop [5] (fun kv => ∃ k : Nat, k ≤ l.length ∧ k ≤ 10 ∧ kv = .int .i64 k ∧ Lead l k) (fun i => l.length - (intOf i).toNat)
  case atStart => exact ⟨0, Nat.zero_le _, by omega, rfl, lead_0 l⟩
  case round =>
    obtain ⟨k, hk, hk10, rfl, hd⟩ := hrel
    by_cases hlt : k < l.length
    · obtain ⟨b, off, u, rfl, hbB, hu, hcell⟩ := hr.at1 hlt
      obtain ⟨x, hx, rfl⟩ : ∃ x, l[k]? = some x ∧ u = .int .u8 (x.toNat : Int) := by
        rw [bcs, List.getElem?_map] at hu
        obtain ⟨x, hx, hxu⟩ := Option.map_eq_some_iff.1 hu
        exact ⟨x, hx, hxu.symm⟩
      have hx256 := x.toNat_lt
      by_cases h10 : k < 10
      · by_cases h2 : x.toNat < 128
        · by_cases h1 : (k < 9 ∨ x.toNat ≤ 1) ∧ (k < 1 ∨ 0 < x.toNat)
          · have hf := dec_fin hx (hd.1 (by omega)) h1 h2
            rw [← valTo_succ hx] at hf
            have hV := valTo_bound (by omega) hx
            have HF := Lib.hid hf
            have HH : Horner l (k + 1) (k + 1) 0 := by show _ = _; simp
            clear hf hd hx hu
            have HV := Lib.hid hV
            clear hV
            by_cases h3 : k < 1
            · go_wp2
              go_loop [6, 7] (fun av iv => ∃ (i : Int) (acc : Nat), -1 ≤ i ∧ i ≤ k ∧ iv = .int .i64 i ∧ av = .int .u64 acc ∧ acc < 18446744073709551616 ∧ Hid (Horner l (k + 1) (i + 1).toNat acc)) (fun _ i => (intOf i + 1).toNat)
              case atStart => exact ⟨_, 0, by omega, by omega, rfl, rfl, by omega, HH⟩
              case round =>
                obtain ⟨i, acc, hi1, hi2, rfl, rfl, hacc, hho⟩ := hrel
                by_cases hi0 : 0 ≤ i
                · obtain ⟨j, rfl⟩ := Int.eq_ofNat_of_zero_le hi0
                  obtain ⟨y, hy, hyc⟩ := gi_cell hr (show j < l.length by omega)
                  have hy256 := y.toNat_lt
                  have hst := horner_step hy (show Horner l (k + 1) (j + 1) acc by have := hho.out; rwa [show ((j : Int) + 1).toNat = j + 1 from by omega] at this)
                  have hle2 := Nat.lt_of_le_of_lt (horner_le hst) HV.out
                  have HST := Lib.hid hst
                  clear hst hho hy hcell HH
                  go_wp2
                  go_round
                  case rel => exact ⟨_, acc * 128 + y.toNat % 128, by omega, by omega, rfl, by go_num, hle2, by rw [show ((j : Int) - 1 + 1).toNat = j from by omega]; exact HST.out⟩
                  case measure => (simp [intOf]; try omega)
                · obtain rfl : i = -1 := by omega
                  have hfin : acc = valToW l (k + 1) := by have := hho.out; unfold Horner at this; simpa [valToW] using this
                  have HFIN := Lib.hid hfin
                  clear hho hfin hcell HH
                  by_cases hodd : acc % 2 = 1
                  all_goals
                    go_wp2
                    go_ret3
                    refine ⟨?_, rfl⟩
                    rw [HF.out, ← HFIN.out]
                    unfold unzz
                    first | rw [if_pos hodd] | rw [if_neg hodd]
                    rfl
            · by_cases h4 : k < 9
              · go_wp2
                go_loop [6, 7] (fun av iv => ∃ (i : Int) (acc : Nat), -1 ≤ i ∧ i ≤ k ∧ iv = .int .i64 i ∧ av = .int .u64 acc ∧ acc < 18446744073709551616 ∧ Hid (Horner l (k + 1) (i + 1).toNat acc)) (fun _ i => (intOf i + 1).toNat)
                case atStart => exact ⟨_, 0, by omega, by omega, rfl, rfl, by omega, HH⟩
                case round =>
                  obtain ⟨i, acc, hi1, hi2, rfl, rfl, hacc, hho⟩ := hrel
                  by_cases hi0 : 0 ≤ i
                  · obtain ⟨j, rfl⟩ := Int.eq_ofNat_of_zero_le hi0
                    obtain ⟨y, hy, hyc⟩ := gi_cell hr (show j < l.length by omega)
                    have hy256 := y.toNat_lt
                    have hst := horner_step hy (show Horner l (k + 1) (j + 1) acc by have := hho.out; rwa [show ((j : Int) + 1).toNat = j + 1 from by omega] at this)
                    have hle2 := Nat.lt_of_le_of_lt (horner_le hst) HV.out
                    have HST := Lib.hid hst
                    clear hst hho hy hcell HH
                    go_wp2
                    go_round
                    case rel => exact ⟨_, acc * 128 + y.toNat % 128, by omega, by omega, rfl, by go_num, hle2, by rw [show ((j : Int) - 1 + 1).toNat = j from by omega]; exact HST.out⟩
                    case measure => (simp [intOf]; try omega)
                  · obtain rfl : i = -1 := by omega
                    have hfin : acc = valToW l (k + 1) := by have := hho.out; unfold Horner at this; simpa [valToW] using this
                    have HFIN := Lib.hid hfin
                    clear hho hfin hcell HH
                    by_cases hodd : acc % 2 = 1
                    all_goals
                      go_wp2
                      go_ret3
                      refine ⟨?_, rfl⟩
                      rw [HF.out, ← HFIN.out]
                      unfold unzz
                      first | rw [if_pos hodd] | rw [if_neg hodd]
                      rfl
              · obtain rfl : k = 9 := by omega
                have hb : ((x.toNat : Int) == 0) = false := by rw [beq_eq_false_iff_ne]; omega
                go_wp2
                go_loop [6, 7] (fun av iv => ∃ (i : Int) (acc : Nat), -1 ≤ i ∧ i ≤ 9 ∧ iv = .int .i64 i ∧ av = .int .u64 acc ∧ acc < 18446744073709551616 ∧ Hid (Horner l (9 + 1) (i + 1).toNat acc)) (fun _ i => (intOf i + 1).toNat)
                case atStart => exact ⟨_, 0, by omega, by omega, rfl, rfl, by omega, HH⟩
                case round =>
                  obtain ⟨i, acc, hi1, hi2, rfl, rfl, hacc, hho⟩ := hrel
                  by_cases hi0 : 0 ≤ i
                  · obtain ⟨j, rfl⟩ := Int.eq_ofNat_of_zero_le hi0
                    obtain ⟨y, hy, hyc⟩ := gi_cell hr (show j < l.length by omega)
                    have hy256 := y.toNat_lt
                    have hst := horner_step hy (show Horner l (9 + 1) (j + 1) acc by have := hho.out; rwa [show ((j : Int) + 1).toNat = j + 1 from by omega] at this)
                    have hle2 := Nat.lt_of_le_of_lt (horner_le hst) HV.out
                    have HST := Lib.hid hst
                    clear hst hho hy hcell HH
                    go_wp2
                    go_round
                    case rel => exact ⟨_, acc * 128 + y.toNat % 128, by omega, by omega, rfl, by go_num, hle2, by rw [show ((j : Int) - 1 + 1).toNat = j from by omega]; exact HST.out⟩
                    case measure => (simp [intOf]; try omega)
                  · obtain rfl : i = -1 := by omega
                    have hfin : acc = valToW l (9 + 1) := by have := hho.out; unfold Horner at this; simpa [valToW] using this
                    have HFIN := Lib.hid hfin
                    clear hho hfin hcell HH
                    by_cases hodd : acc % 2 = 1
                    all_goals
                      go_wp2
                      go_ret3
                      refine ⟨?_, rfl⟩
                      rw [HF.out, ← HFIN.out]
                      unfold unzz
                      first | rw [if_pos hodd] | rw [if_neg hodd]
                      rfl
          · have hf := dec_bad hx (hd.1 (by omega)) (by omega)
            have HF := Lib.hid hf
            clear hx hu hd hf
            by_cases h3 : k < 9
            · have h4 : x.toNat < 1 := by omega
              go_wp2
              go_ret3
              exact ⟨by rw [HF.out]; rfl, rfl⟩
            · by_cases h4 : 1 < x.toNat
              · obtain rfl : k = 9 := by omega
                go_wp2
                go_ret3
                exact ⟨by rw [HF.out]; rfl, rfl⟩
              · obtain rfl : k = 9 := by omega
                have hb : ((x.toNat : Int) == 0) = true := by rw [beq_iff_eq]; omega
                go_wp2
                go_ret3
                exact ⟨by rw [HF.out]; rfl, rfl⟩
        · have hm := lead_step h10 hx (by omega) hd
          clear hx hu hd
          go_wp2
          go_round
          case rel => exact ⟨k + 1, by omega, by omega, by go_num, hm⟩
          case measure => (simp [intOf]; try omega)
      · have HF := Lib.hid (hd.2 (by omega))
        obtain rfl : k = 10 := by omega
        clear hd hx hu
        go_wp2
        go_ret3
        exact ⟨by rw [HF.out]; rfl, rfl⟩
    · obtain rfl : k = l.length := by omega
      by_cases h10 : l.length < 10
      · have HF := Lib.hid (lead_end hd (by omega))
        clear hd hlt
        go_wp2
        go_ret3
        exact ⟨by rw [HF.out]; rfl, rfl⟩
      · have HF := Lib.hid (hd.2 (by omega))
        clear hd hlt
        go_wp2
        go_ret3
        exact ⟨by rw [HF.out]; rfl, rfl⟩
end Go.Proofs.YtgjgjimgomhbmaaDoor
namespace Go.Proofs.YtgjgjimgomhbmaaDoor
open Go.RowKit
set_option maxRecDepth 100000 in
set_option maxHeartbeats 400000 in
theorem length_any (l : List UInt8) (A : Option Addr) (n c B least : Nat) (w : World) (hr : Rd w B 1 A n c (bcs l)) (hl1 : 1 ≤ least) (hl2 : least ≤ 1000) :
    Calls Tryd.prog 89 #[.slice A n c, .int .i64 least] w (Ret3 w (lenDec l least)) := by
  obtain rfl : l.length = n := by have := hr.len; simpa [bcs] using this
  have hcap := hr.cap
  have hle := hr.le
  unfold maxLen at hcap
  obtain ⟨a, b, e, hd⟩ : ∃ a b e, dec l = (a, b, e) := ⟨_, _, _, rfl⟩
  have hf := dec_facts hd
  have HL : Hid (lenDec l least = if e ≠ 0 then (0, 0, e) else if a < 0 then (0, 0, 6) else if ((l.length : Int) - b) / (least : Int) < a then (0, 0, 5) else (a, b, 0)) := by
    show _ = _
    unfold lenDec; rw [hd]
  have HD := Lib.hid hd
  clear hd
  rcases hf with ⟨rfl, f2, f3, f4, f5, f6⟩ | ⟨rfl, rfl, f3⟩
  · by_cases h1 : a < 0
    · go_enter Tryd.func89, Tryd.ntmps89
      go_wp2_with (go_at_call 67; refine (getInt_any l _ _ _ _ _ hr).mono ?_; rintro e w1 ⟨rfl, rfl⟩; rw [HD.out])
      go_ret3
      exact ⟨by rw [HL.out, if_neg (by omega), if_pos (by omega)]; rfl, rfl⟩
    · by_cases h2 : ((l.length : Int) - b) / (least : Int) < a
      · go_enter Tryd.func89, Tryd.ntmps89
        go_wp2_with (go_at_call 67; refine (getInt_any l _ _ _ _ _ hr).mono ?_; rintro e w1 ⟨rfl, rfl⟩; rw [HD.out])
        go_ret3
        exact ⟨by rw [HL.out, if_neg (by omega), if_neg (by omega), if_pos (by omega)]; rfl, rfl⟩
      · go_enter Tryd.func89, Tryd.ntmps89
        go_wp2_with (go_at_call 67; refine (getInt_any l _ _ _ _ _ hr).mono ?_; rintro e w1 ⟨rfl, rfl⟩; rw [HD.out])
        go_ret3
        exact ⟨by rw [HL.out, if_neg (by omega), if_neg (by omega), if_neg (by omega)]; rfl, rfl⟩
  · rcases f3 with rfl | rfl
    all_goals
      go_enter Tryd.func89, Tryd.ntmps89
      go_wp2_with (go_at_call 67; refine (getInt_any l _ _ _ _ _ hr).mono ?_; rintro e w1 ⟨rfl, rfl⟩; rw [HD.out])
      go_ret3
      exact ⟨by rw [HL.out, if_pos (by omega)]; rfl, rfl⟩
set_option maxRecDepth 100000 in
set_option maxHeartbeats 400000 in
theorem refLength_any (l : List UInt8) (A : Option Addr) (n c B least : Nat) (w : World) (hr : Rd w B 1 A n c (bcs l)) (hl1 : 1 ≤ least) (hl2 : least ≤ 1000) :
    Calls Tryd.prog 70 #[.slice A n c, .int .i64 least] w (Ret3 w (lenDec l least)) := by
  obtain rfl : l.length = n := by have := hr.len; simpa [bcs] using this
  have hcap := hr.cap
  have hle := hr.le
  unfold maxLen at hcap
  obtain ⟨a, b, e, hd⟩ : ∃ a b e, dec l = (a, b, e) := ⟨_, _, _, rfl⟩
  have hf := dec_facts hd
  have HL : Hid (lenDec l least = if e ≠ 0 then (0, 0, e) else if a < 0 then (0, 0, 6) else if ((l.length : Int) - b) / (least : Int) < a then (0, 0, 5) else (a, b, 0)) := by
    show _ = _
    unfold lenDec; rw [hd]
  have HD := Lib.hid hd
  clear hd
  rcases hf with ⟨rfl, f2, f3, f4, f5, f6⟩ | ⟨rfl, rfl, f3⟩
  · by_cases h1 : a < 0
    · go_enter Tryd.func70, Tryd.ntmps70
      go_wp2_with (go_at_call 71; refine (refGetInt_any l _ _ _ _ _ hr).mono ?_; rintro e w1 ⟨rfl, rfl⟩; rw [HD.out])
      go_ret3
      exact ⟨by rw [HL.out, if_neg (by omega), if_pos (by omega)]; rfl, rfl⟩
    · by_cases h2 : ((l.length : Int) - b) / (least : Int) < a
      · go_enter Tryd.func70, Tryd.ntmps70
        go_wp2_with (go_at_call 71; refine (refGetInt_any l _ _ _ _ _ hr).mono ?_; rintro e w1 ⟨rfl, rfl⟩; rw [HD.out])
        go_ret3
        exact ⟨by rw [HL.out, if_neg (by omega), if_neg (by omega), if_pos (by omega)]; rfl, rfl⟩
      · go_enter Tryd.func70, Tryd.ntmps70
        go_wp2_with (go_at_call 71; refine (refGetInt_any l _ _ _ _ _ hr).mono ?_; rintro e w1 ⟨rfl, rfl⟩; rw [HD.out])
        go_ret3
        exact ⟨by rw [HL.out, if_neg (by omega), if_neg (by omega), if_neg (by omega)]; rfl, rfl⟩
  · rcases f3 with rfl | rfl
    all_goals
      go_enter Tryd.func70, Tryd.ntmps70
      go_wp2_with (go_at_call 71; refine (refGetInt_any l _ _ _ _ _ hr).mono ?_; rintro e w1 ⟨rfl, rfl⟩; rw [HD.out])
      go_ret3
      exact ⟨by rw [HL.out, if_pos (by omega)]; rfl, rfl⟩
end Go.Proofs.YtgjgjimgomhbmaaDoor
namespace Go.Proofs.YtgjgjimgomhbmaaDoor
open Go.RowKit
end Go.Proofs.YtgjgjimgomhbmaaDoor
namespace Go.Proofs.YtgjgjimgomhbmaaDoor
open Go.RowKit
theorem Tryd.sl_int : SlTy Tryd.prog 22 3 (.int .i64 0) 1 8 := ⟨by kernel_rfl, by kernel_rfl, rfl, by decide⟩
/-- A list and two numbers are returned, the list in a new row. -/
def RetL (w : World) (e : TypeId) (size : Nat) (xs : List Value) (u err : Int) (en : Ending) (w' : World) : Prop :=
  ∃ v n, en = .returned (.tuple #[v, .int .i64 u, .int .i64 err]) ∧ w'.ownsRow w.heap.size e size v n xs ∧ Below w.heap.size w w'
section
variable {α : Type} {one : List UInt8 → α × Int × Int} {l : List UInt8}
theorem many_step {k at_ : Nat} {acc : List α} {x : α} {u : Int} {r : List α × Int × Int} (h : one (l.drop at_) = (x, u, 0)) (hd : many one l (k + 1) at_ acc = r) : many one l k (at_ + u.toNat) (acc ++ [x]) = r := by
  rw [many, h] at hd; simpa using hd
theorem many_err {k at_ : Nat} {acc : List α} {x : α} {u e : Int} {r : List α × Int × Int} (h : one (l.drop at_) = (x, u, e)) (he : e ≠ 0) (hd : many one l (k + 1) at_ acc = r) : r = ([], 0, e) := by
  rw [many, h] at hd; simp [he] at hd; exact hd.symm
theorem many_end {at_ : Nat} {acc : List α} {r : List α × Int × Int} (hd : many one l 0 at_ acc = r) : r = (acc, (at_ : Int), 0) := by
  rw [many] at hd; exact hd.symm
end
theorem dec_facts' {l : List UInt8} {n u e : Int} (h : dec l = (n, u, e)) : (e = 0 ∧ 1 ≤ u ∧ u ≤ l.length) ∨ (n = 0 ∧ u = 0 ∧ (e = 5 ∨ e = 6)) := by
  rcases dec_facts h with ⟨a, b, c, d, _⟩ | h
  · exact Or.inl ⟨a, b, d⟩
  · exact Or.inr h
theorem drop_bcs (l : List UInt8) (U : Nat) : ((bcs l).drop U).take (l.length - U) = bcs (l.drop U) := by
  rw [bcs, bcs, List.map_drop]
  exact List.take_of_length_le (by simp)
set_option maxRecDepth 100000 in
set_option maxHeartbeats 1000000 in
theorem getInt_list (l : List UInt8) (A : Option Addr) (n c B : Nat) (w : World) (hr : Rd w B 1 A n c (bcs l)) (hB : B ≤ w.heap.size) (hlen : l.length ≤ 1099511627776) :
    Calls Tryd.prog 66 #[.slice A n c, .int .i64 1, .func (.func 67) #[] #[]] w (RetL w 3 1 ((decI l).1.map iv) (decI l).2.1 (decI l).2.2) := by
  obtain rfl : l.length = n := by have := hr.len; simpa [bcs] using this
  have hcap := hr.cap
  have hle := hr.le
  unfold maxLen at hcap
  obtain ⟨a, b, e, hd⟩ : ∃ a b e, lenDec l 1 = (a, b, e) := ⟨_, _, _, rfl⟩
  have hf := lenDec_facts (by omega) hd
  have HL : Hid (decI l = if e ≠ 0 then ([], 0, e) else many dec l a.toNat b.toNat []) := by
    show _ = _
    unfold decI decList; rw [hd]
  have HD := Lib.hid hd
  clear hd
  rcases hf with ⟨rfl, f2, f3, f4, f5, f6, f7, f8⟩ | ⟨rfl, rfl, f3⟩
  · obtain ⟨N, rfl⟩ := Int.eq_ofNat_of_zero_le f5
    obtain ⟨U, rfl⟩ := Int.eq_ofNat_of_zero_le (show 0 ≤ b by omega)
    have HM : Hid (many dec l N U [] = decI l) := by
      show _ = _
      rw [HL.out, if_neg (by omega)]; rfl
    clear HL
    go_enter Tryd.func66, Tryd.ntmps66
    go_wp2_with (go_at_call 89; refine (length_any l _ _ _ _ 1 _ hr (by omega) (by omega)).mono ?_; rintro e w1 ⟨rfl, rfl⟩; rw [HD.out])
    go_loopw [10, 12, 27] (fun atv v iv_ wr => ∃ (k j : Nat) (acc : List Int), k ≤ N ∧ iv_ = .int .i64 k ∧ atv = .int .i64 j ∧ j ≤ l.length ∧ acc.length = k ∧ wr.ownsRow w.heap.size 3 1 v acc.length (acc.map iv) ∧ Hid (many dec l (N - k) j acc = decI l) ∧ Below w.heap.size w wr)
      (fun _ _ iv_ _ => N - (intOf iv_).toNat)
    case atStart => exact ⟨0, U, [], Nat.zero_le _, rfl, rfl, by omega, rfl, World.ownsRow_nil _ _ _ _, HM, Below.refl _ _⟩
    case round =>
      clear HM
      obtain ⟨k, j, acc, hk, rfl, rfl, hj, hacc, hown, hm, hb⟩ := hrel
      have HA := Lib.hid hacc
      clear hacc
      have hrw := hr.below (hb.mono hB)
      by_cases hlt : k < N
      · obtain ⟨x, u, e, ho⟩ : ∃ x u e, dec (l.drop j) = (x, u, e) := ⟨_, _, _, rfl⟩
        have hof := dec_facts' ho
        rw [List.length_drop] at hof
        have hm2 : many dec l (N - (k + 1) + 1) j acc = decI l := by rw [show N - (k + 1) + 1 = N - k from by omega]; exact hm.out
        have HO := Lib.hid ho
        rcases hof with ⟨rfl, g2, g3⟩ | ⟨g1, rfl, g3⟩
        · have hst := many_step ho hm2
          obtain ⟨V, rfl⟩ := Int.eq_ofNat_of_zero_le (show 0 ≤ u by omega)
          have HST := Lib.hid hst
          clear ho hm hm2 hst
          go_wp2_with (with_reducible refine slL (.tmp 31) (.tmp 32) j Tryd.sl_u8 (wn rfl) rfl rfl rfl hrw (by omega) (by omega) ?_)
          intro A' hcut
          rw [drop_bcs] at hcut
          go_wp2_with fail
          refine (getInt_any (l.drop j) _ _ _ _ _ hcut).mono ?_
          rintro e w1 ⟨rfl, rfl⟩
          rw [HO.out]
          clear hcut hrw
          go_wp2_with (at_builtin; with_reducible refine app1 _ _ Tryd.sl_int (wn rfl) rfl rfl rfl hown hb (Nat.le_refl _) rfl (by have := HA.out; omega) (by have := HA.out; omega) ?_)
          intro v' w' h3 h4 _
          clear hown hb
          go_wp2
          go_roundw
          case rel => exact ⟨k + 1, j + V, acc ++ [x], by omega, by go_num, by go_num, by omega, by have := HA.out; simp; omega, ownsRow_count h3 (by simp) (by simp [iv]), by have := HST.out; rwa [Int.toNat_natCast] at this, h4⟩
          case measure => (simp [intOf]; try omega)
        · have hst := many_err ho (by omega) hm2
          have HST := Lib.hid hst
          clear ho hm hm2 hst
          rcases g3 with rfl | rfl
          all_goals
            go_wp2_with (with_reducible refine slL (.tmp 31) (.tmp 32) j Tryd.sl_u8 (wn rfl) rfl rfl rfl hrw (by omega) (by omega) ?_)
            intro A' hcut
            rw [drop_bcs] at hcut
            go_wp2_with fail
            refine (getInt_any (l.drop j) _ _ _ _ _ hcut).mono ?_
            rintro e w1 ⟨rfl, rfl⟩
            rw [HO.out]
            clear hcut hrw
            go_wp2
            go_ret3
            exact ⟨.slice none 0 0, 0, by rw [HST.out]; rfl, by rw [HST.out]; exact World.ownsRow_nil _ _ _ _, hb⟩
      · obtain rfl : k = N := by omega
        have hm0 := hm.out
        rw [Nat.sub_self] at hm0
        have hst := many_end hm0
        have HST := Lib.hid hst
        clear hm hst hlt hm0
        go_wp2
        go_ret3
        exact ⟨u12, acc.length, by rw [HST.out]; rfl, by rw [HST.out]; exact hown, hb⟩
  · rcases f3 with rfl | rfl
    all_goals
      go_enter Tryd.func66, Tryd.ntmps66
      go_wp2_with (go_at_call 89; refine (length_any l _ _ _ _ 1 _ hr (by omega) (by omega)).mono ?_; rintro e w1 ⟨rfl, rfl⟩; rw [HD.out])
      go_ret3
      exact ⟨.slice none 0 0, 0, by rw [HL.out, if_pos (by omega)]; rfl, by rw [HL.out, if_pos (by omega)]; exact World.ownsRow_nil _ _ _ _, Below.refl _ _⟩
set_option maxRecDepth 100000 in
set_option maxHeartbeats 1000000 in
theorem refGetInts_any (l : List UInt8) (A : Option Addr) (n c B : Nat) (w : World) (hr : Rd w B 1 A n c (bcs l)) (hB : B ≤ w.heap.size) (hlen : l.length ≤ 1099511627776) :
    Calls Tryd.prog 39 #[.slice A n c] w (RetL w 3 1 ((decI l).1.map iv) (decI l).2.1 (decI l).2.2) := by
  obtain rfl : l.length = n := by have := hr.len; simpa [bcs] using this
  have hcap := hr.cap
  have hle := hr.le
  unfold maxLen at hcap
  obtain ⟨a, b, e, hd⟩ : ∃ a b e, lenDec l 1 = (a, b, e) := ⟨_, _, _, rfl⟩
  have hf := lenDec_facts (by omega) hd
  have HL : Hid (decI l = if e ≠ 0 then ([], 0, e) else many dec l a.toNat b.toNat []) := by
    show _ = _
    unfold decI decList; rw [hd]
  have HD := Lib.hid hd
  clear hd
  rcases hf with ⟨rfl, f2, f3, f4, f5, f6, f7, f8⟩ | ⟨rfl, rfl, f3⟩
  · obtain ⟨N, rfl⟩ := Int.eq_ofNat_of_zero_le f5
    obtain ⟨U, rfl⟩ := Int.eq_ofNat_of_zero_le (show 0 ≤ b by omega)
    have HM : Hid (many dec l N U [] = decI l) := by
      show _ = _
      rw [HL.out, if_neg (by omega)]; rfl
    clear HL
    go_enter Tryd.func39, Tryd.ntmps39
    go_wp2_with (go_at_call 70; refine (refLength_any l _ _ _ _ 1 _ hr (by omega) (by omega)).mono ?_; rintro e w1 ⟨rfl, rfl⟩; rw [HD.out])
    go_loopw [6, 8, 9] (fun atv v iv_ wr => ∃ (k j : Nat) (acc : List Int), k ≤ N ∧ iv_ = .int .i64 k ∧ atv = .int .i64 j ∧ j ≤ l.length ∧ acc.length = k ∧ wr.ownsRow w.heap.size 3 1 v acc.length (acc.map iv) ∧ Hid (many dec l (N - k) j acc = decI l) ∧ Below w.heap.size w wr)
      (fun _ _ iv_ _ => N - (intOf iv_).toNat)
    case atStart => exact ⟨0, U, [], Nat.zero_le _, rfl, rfl, by omega, rfl, World.ownsRow_nil _ _ _ _, HM, Below.refl _ _⟩
    case round =>
      clear HM
      obtain ⟨k, j, acc, hk, rfl, rfl, hj, hacc, hown, hm, hb⟩ := hrel
      have HA := Lib.hid hacc
      clear hacc
      have hrw := hr.below (hb.mono hB)
      by_cases hlt : k < N
      · obtain ⟨x, u, e, ho⟩ : ∃ x u e, dec (l.drop j) = (x, u, e) := ⟨_, _, _, rfl⟩
        have hof := dec_facts' ho
        rw [List.length_drop] at hof
        have hm2 : many dec l (N - (k + 1) + 1) j acc = decI l := by rw [show N - (k + 1) + 1 = N - k from by omega]; exact hm.out
        have HO := Lib.hid ho
        rcases hof with ⟨rfl, g2, g3⟩ | ⟨g1, rfl, g3⟩
        · have hst := many_step ho hm2
          obtain ⟨V, rfl⟩ := Int.eq_ofNat_of_zero_le (show 0 ≤ u by omega)
          have HST := Lib.hid hst
          clear ho hm hm2 hst
          go_wp2_with (with_reducible refine slL (.tmp 28) (.tmp 29) j Tryd.sl_u8 (wn rfl) rfl rfl rfl hrw (by omega) (by omega) ?_)
          intro A' hcut
          rw [drop_bcs] at hcut
          go_wp2_with fail
          refine (refGetInt_any (l.drop j) _ _ _ _ _ hcut).mono ?_
          rintro e w1 ⟨rfl, rfl⟩
          rw [HO.out]
          clear hcut hrw
          go_wp2_with (at_builtin; with_reducible refine app1 _ _ Tryd.sl_int (wn rfl) rfl rfl rfl hown hb (Nat.le_refl _) rfl (by have := HA.out; omega) (by have := HA.out; omega) ?_)
          intro v' w' h3 h4 _
          clear hown hb
          go_wp2
          go_roundw
          case rel => exact ⟨k + 1, j + V, acc ++ [x], by omega, by go_num, by go_num, by omega, by have := HA.out; simp; omega, ownsRow_count h3 (by simp) (by simp [iv]), by have := HST.out; rwa [Int.toNat_natCast] at this, h4⟩
          case measure => (simp [intOf]; try omega)
        · have hst := many_err ho (by omega) hm2
          have HST := Lib.hid hst
          clear ho hm hm2 hst
          rcases g3 with rfl | rfl
          all_goals
            go_wp2_with (with_reducible refine slL (.tmp 28) (.tmp 29) j Tryd.sl_u8 (wn rfl) rfl rfl rfl hrw (by omega) (by omega) ?_)
            intro A' hcut
            rw [drop_bcs] at hcut
            go_wp2_with fail
            refine (refGetInt_any (l.drop j) _ _ _ _ _ hcut).mono ?_
            rintro e w1 ⟨rfl, rfl⟩
            rw [HO.out]
            clear hcut hrw
            go_wp2
            go_ret3
            exact ⟨.slice none 0 0, 0, by rw [HST.out]; rfl, by rw [HST.out]; exact World.ownsRow_nil _ _ _ _, hb⟩
      · obtain rfl : k = N := by omega
        have hm0 := hm.out
        rw [Nat.sub_self] at hm0
        have hst := many_end hm0
        have HST := Lib.hid hst
        clear hm hst hlt hm0
        go_wp2
        go_ret3
        exact ⟨u8, acc.length, by rw [HST.out]; rfl, by rw [HST.out]; exact hown, hb⟩
  · rcases f3 with rfl | rfl
    all_goals
      go_enter Tryd.func39, Tryd.ntmps39
      go_wp2_with (go_at_call 70; refine (refLength_any l _ _ _ _ 1 _ hr (by omega) (by omega)).mono ?_; rintro e w1 ⟨rfl, rfl⟩; rw [HD.out])
      go_ret3
      exact ⟨.slice none 0 0, 0, by rw [HL.out, if_pos (by omega)]; rfl, by rw [HL.out, if_pos (by omega)]; exact World.ownsRow_nil _ _ _ _, Below.refl _ _⟩
set_option maxRecDepth 100000 in
set_option maxHeartbeats 400000 in
theorem getInts_any (l : List UInt8) (A : Option Addr) (n c B : Nat) (w : World) (hr : Rd w B 1 A n c (bcs l)) (hB : B ≤ w.heap.size) (hlen : l.length ≤ 1099511627776) :
    Calls Tryd.prog 36 #[.slice A n c] w (RetL w 3 1 ((decI l).1.map iv) (decI l).2.1 (decI l).2.2) := by
  have H := getInt_list l A n c B w hr hB hlen
  go_enter Tryd.func36, Tryd.ntmps36
  go_wp2_with fail
  refine H.mono ?_
  clear H
  rintro e w1 ⟨v, m, rfl, hown, hb⟩
  go_wp2_with fail
  go_ret3
  exact ⟨_, _, rfl, hown, hb⟩
end Go.Proofs.YtgjgjimgomhbmaaDoor
namespace Go.Proofs.YtgjgjimgomhbmaaDoor
open Go.RowKit
/-- A struct or array and two numbers are returned; nothing that was there has turned. -/
def RetA3 (w : World) (cs : List Value) (u err : Int) (en : Ending) (w' : World) : Prop :=
  en = .returned (.tuple #[.agg cs.toArray, .int .i64 u, .int .i64 err]) ∧ Below w.heap.size w w'
theorem take_bcs (l : List UInt8) (k : Nat) : (bcs l).take k = bcs (l.take k) := by rw [bcs, bcs, List.map_take]
set_option maxRecDepth 100000 in
set_option maxHeartbeats 400000 in
theorem getDigest_any (l : List UInt8) (A : Option Addr) (n c B : Nat) (w : World) (hr : Rd w B 1 A n c (bcs l)) (hB : B ≤ w.heap.size) (h16 : 16 ≤ n) :
    Calls Tryd.prog 69 #[.slice A n c] w (RetA3 w (bcs (l.take 16)) 16 0) := by
  have hl : l.length = n := by have := hr.len; simpa [bcs] using this
  have hle := hr.le
  have hd16 : (bcs (l.take 16)).length = 16 := by rw [bcs_length, List.length_take]; omega
  obtain ⟨b, off, rfl, hb, hc0⟩ := (hr.alloc hB (.cells digZero 37)).cells (by omega)
  have hc : ∀ j u, (bcs (l.take 16))[j]? = some u → (w.alloc (.cells digZero 37)).cell? ⟨b, off + j, none⟩ = some u := by
    intro j u hj
    refine hc0 j u ?_
    rw [← take_bcs, List.getElem?_take] at hj
    split at hj
    · exact hj
    · cases hj
  have harr := fun w => run_arrayAt (P := Tryd.prog) w (arr := 37) (e := 5) (n := 16) (len := 16) (c := c) (A := some ⟨b, off, none⟩) (by kernel_rfl) (by omega)
  have H16 := Lib.hid hd16
  have HC := Lib.hid hc
  clear hl hd16 hc hc0
  go_enter Tryd.func69, Tryd.ntmps69
  go_wp2_with (first | (with_reducible refine alAgg Tryd.ag_dig (wn rfl) rfl ?_) | (with_reducible refine ldAgg (.tmp 7) (bcs (l.take 16)) Tryd.ag_dig (wn rfl) rfl rfl H16.out HC.out ?_) | (with_reducible refine stNew (.tmp 2) (.tmp 8) Tryd.ag_dig (wn rfl) rfl rfl rfl Tryd.ag_dig.zs (by rw [List.size_toArray]; exact H16.out) (by simpa using bcs_one (l.take 16)) ?_))
  (try simp only [Exit.inBlock, Exit.then])
  refine bodyPost_ret (v := .tuple #[.agg (bcs (l.take 16)).toArray, .int .i64 16, .int .i64 0]) ?_ rfl ?_
  · exact res_cell3 (bcs (l.take 16)) Tryd.results69 Tryd.ag_dig _ rfl H16.out (cells_new _ _ _)
  · exact ⟨rfl, (Below.refl _ _).alloc (Nat.le_refl _) _⟩
end Go.Proofs.YtgjgjimgomhbmaaDoor
namespace Go.Proofs.YtgjgjimgomhbmaaDoor
open Go.RowKit
theorem Tryd.sl_dig : SlTy Tryd.prog 23 37 (.agg digZero) 16 16 := ⟨by kernel_rfl, by kernel_rfl, by simp [digZero, Value.cells], by decide⟩
theorem rd_aggN (w : World) (cs : List Value) (t : TypeId) (size n : Nat) (hs : cs.length = n * size) (h : n ≤ maxLen) : Rd (w.alloc (.cells cs.toArray t)) (w.heap.size + 1) size (some ⟨w.heap.size, 0, none⟩) n n cs := by
  refine ⟨hs, Nat.le_refl _, h, fun _ => ⟨w.heap.size, 0, rfl, by omega, cells_new w cs t⟩⟩
theorem dig_cut (l : List UInt8) (U k : Nat) : (l.drop U).take ((k + 1) * 16) = (l.drop U).take (k * 16) ++ (l.drop (U + k * 16)).take 16 := by
  rw [show (k + 1) * 16 = k * 16 + 16 from by omega, List.take_add, List.drop_drop]
set_option maxRecDepth 100000 in
set_option maxHeartbeats 1000000 in
theorem getDig_list (l : List UInt8) (A : Option Addr) (n c B : Nat) (w : World) (hr : Rd w B 1 A n c (bcs l)) (hB : B ≤ w.heap.size) (hlen : l.length ≤ 1099511627776) :
    Calls Tryd.prog 68 #[.slice A n c, .int .i64 16, .func (.func 69) #[] #[]] w (RetL w 37 16 (bcs (decD l).1) (decD l).2.1 (decD l).2.2) := by
  obtain rfl : l.length = n := by have := hr.len; simpa [bcs] using this
  have hcap := hr.cap
  have hle := hr.le
  unfold maxLen at hcap
  obtain ⟨a, b, e, hd⟩ : ∃ a b e, lenDec l 16 = (a, b, e) := ⟨_, _, _, rfl⟩
  have hf := lenDec_facts (by omega) hd
  have HL : Hid (decD l = if e ≠ 0 then ([], 0, e) else ((l.drop b.toNat).take (a.toNat * 16), b + a * 16, 0)) := by
    show _ = _
    unfold decD; rw [hd]
  have HD := Lib.hid hd
  clear hd
  rcases hf with ⟨rfl, f2, f3, f4, f5, f6, f7, f8⟩ | ⟨rfl, rfl, f3⟩
  · obtain ⟨N, rfl⟩ := Int.eq_ofNat_of_zero_le f5
    obtain ⟨U, rfl⟩ := Int.eq_ofNat_of_zero_le (show 0 ≤ b by omega)
    go_enter Tryd.func68, Tryd.ntmps68
    go_wp2_with (go_at_call 89; refine (length_any l _ _ _ _ 16 _ hr (by omega) (by omega)).mono ?_; rintro e w1 ⟨rfl, rfl⟩; rw [HD.out])
    go_loopw [10, 12, 27] (fun atv v iv_ wr => ∃ k : Nat, k ≤ N ∧ iv_ = .int .i64 k ∧ atv = .int .i64 ((U : Int) + k * 16) ∧ wr.ownsRow w.heap.size 37 16 v k (bcs ((l.drop U).take (k * 16))) ∧ Below w.heap.size w wr)
      (fun _ _ iv_ _ => N - (intOf iv_).toNat)
    case atStart => exact ⟨0, Nat.zero_le _, rfl, by go_num, World.ownsRow_nil _ _ _ _, Below.refl _ _⟩
    case round =>
      obtain ⟨k, hk, rfl, rfl, hown, hb⟩ := hrel
      have hrw := hr.below (hb.mono hB)
      by_cases hlt : k < N
      · have HT := Lib.hid (dig_cut l U k)
        go_wp2_with (with_reducible refine slL (.tmp 31) (.tmp 32) (U + k * 16) Tryd.sl_u8 (wn rfl) rfl rfl rfl hrw (by omega) (by omega) ?_)
        intro A' hcut
        rw [drop_bcs] at hcut
        go_wp2_with fail
        refine (getDigest_any (l.drop (U + k * 16)) _ _ _ _ _ hcut (by have := hb.size; omega) (by omega)).mono ?_
        rintro e w1 ⟨rfl, hb1⟩
        have hd16 : (bcs ((l.drop (U + k * 16)).take 16)).length = 16 := by rw [bcs_length, List.length_take, List.length_drop]; omega
        obtain ⟨D, hD⟩ : ∃ D, D = (l.drop (U + k * 16)).take 16 := ⟨_, rfl⟩
        rw [← hD] at hd16 ⊢
        have hownw := ownsRow_below hown hb1 (Nat.le_refl _)
        have hbw := hb.trans (hb1.mono hb.size)
        have H16 := Lib.hid hd16
        have HDD := Lib.hid hD
        clear hcut hrw hown hb hb1 hd16 hD
        go_wp2_with (first | (with_reducible refine alAgg Tryd.ag_dig (wn rfl) rfl ?_) | (with_reducible refine stNew (.tmp 13) (.tmp 35) Tryd.ag_dig (wn rfl) rfl rfl rfl Tryd.ag_dig.zs (by rw [List.size_toArray]; exact H16.out) (by simpa using bcs_one D) ?_) | (with_reducible refine ldAgg (.tmp 13) (bcs D) Tryd.ag_dig (wn rfl) rfl rfl H16.out (by intro j u hu; rw [World.cell?_alloc_at _ _ _ _ rfl]; simpa using hu) ?_) | (with_reducible refine bsAgg1 (.tmp 42) Tryd.sl_dig (wn rfl) rfl rfl (by rw [List.size_toArray]; exact H16.out) (by decide) ?_) | (at_builtin; with_reducible refine appR _ _ Tryd.sl_dig (wn rfl) rfl rfl rfl ((hownw.alloc _).alloc _) (rd_aggN _ (bcs D) _ 16 1 H16.out (by decide)) (bcs_one D) ((hbw.alloc hbw.size _).alloc (by have := hbw.size; simp; omega) _) (Nat.le_refl _) (by omega) (by omega) ?_))
        intro v' w' h3 h4 _
        clear hownw hbw
        go_wp2
        go_roundw
        case rel =>
          refine ⟨k + 1, by omega, by go_num, by go_num, ownsRow_count h3 rfl ?_, h4⟩
          rw [HT.out, bcs_append, HDD.out]
        case measure => (simp [intOf]; try omega)
      · obtain rfl : k = N := by omega
        clear hlt hrw
        go_wp2
        go_ret3
        exact ⟨u12, k, by rw [HL.out, if_neg (by omega)]; rfl, by rw [HL.out, if_neg (by omega)]; exact hown, hb⟩
  · rcases f3 with rfl | rfl
    all_goals
      go_enter Tryd.func68, Tryd.ntmps68
      go_wp2_with (go_at_call 89; refine (length_any l _ _ _ _ 16 _ hr (by omega) (by omega)).mono ?_; rintro e w1 ⟨rfl, rfl⟩; rw [HD.out])
      go_ret3
      exact ⟨.slice none 0 0, 0, by rw [HL.out, if_pos (by omega)]; rfl, by rw [HL.out, if_pos (by omega)]; exact World.ownsRow_nil _ _ _ _, Below.refl _ _⟩
set_option maxRecDepth 100000 in
set_option maxHeartbeats 400000 in
theorem getDigs_any (l : List UInt8) (A : Option Addr) (n c B : Nat) (w : World) (hr : Rd w B 1 A n c (bcs l)) (hB : B ≤ w.heap.size) (hlen : l.length ≤ 1099511627776) :
    Calls Tryd.prog 38 #[.slice A n c] w (RetL w 37 16 (bcs (decD l).1) (decD l).2.1 (decD l).2.2) := by
  have H := getDig_list l A n c B w hr hB hlen
  go_enter Tryd.func38, Tryd.ntmps38
  go_wp2_with fail
  refine H.mono ?_
  clear H
  rintro e w1 ⟨v, m, rfl, hown, hb⟩
  go_wp2_with fail
  go_ret3
  exact ⟨_, _, rfl, hown, hb⟩
end Go.Proofs.YtgjgjimgomhbmaaDoor
namespace Go.Proofs.YtgjgjimgomhbmaaDoor
open Go.RowKit
set_option maxRecDepth 100000 in
set_option maxHeartbeats 1000000 in
theorem refGetDigs_any (l : List UInt8) (A : Option Addr) (n c B : Nat) (w : World) (hr : Rd w B 1 A n c (bcs l)) (hB : B ≤ w.heap.size) (hlen : l.length ≤ 1099511627776) :
    Calls Tryd.prog 40 #[.slice A n c] w (RetL w 37 16 (bcs (decD l).1) (decD l).2.1 (decD l).2.2) := by
  obtain rfl : l.length = n := by have := hr.len; simpa [bcs] using this
  have hcap := hr.cap
  have hle := hr.le
  unfold maxLen at hcap
  obtain ⟨a, b, e, hd⟩ : ∃ a b e, lenDec l 16 = (a, b, e) := ⟨_, _, _, rfl⟩
  have hf := lenDec_facts (by omega) hd
  have HL : Hid (decD l = if e ≠ 0 then ([], 0, e) else ((l.drop b.toNat).take (a.toNat * 16), b + a * 16, 0)) := by
    show _ = _
    unfold decD; rw [hd]
  have HD := Lib.hid hd
  clear hd
  rcases hf with ⟨rfl, f2, f3, f4, f5, f6, f7, f8⟩ | ⟨rfl, rfl, f3⟩
  · obtain ⟨N, rfl⟩ := Int.eq_ofNat_of_zero_le f5
    obtain ⟨U, rfl⟩ := Int.eq_ofNat_of_zero_le (show 0 ≤ b by omega)
    go_enter Tryd.func40, Tryd.ntmps40
    go_wp2_with (go_at_call 70; refine (refLength_any l _ _ _ _ 16 _ hr (by omega) (by omega)).mono ?_; rintro e w1 ⟨rfl, rfl⟩; rw [HD.out])
    go_loopw [6, 8, 9] (fun atv v iv_ wr => ∃ k : Nat, k ≤ N ∧ iv_ = .int .i64 k ∧ atv = .int .i64 ((U : Int) + k * 16) ∧ wr.ownsRow w.heap.size 37 16 v k (bcs ((l.drop U).take (k * 16))) ∧ Below w.heap.size w wr)
      (fun _ _ iv_ _ => N - (intOf iv_).toNat)
    case atStart => exact ⟨0, Nat.zero_le _, rfl, by go_num, World.ownsRow_nil _ _ _ _, Below.refl _ _⟩
    case round =>
      obtain ⟨k, hk, rfl, rfl, hown, hb⟩ := hrel
      have hrw := hr.below (hb.mono hB)
      by_cases hlt : k < N
      · have HT := Lib.hid (dig_cut l U k)
        obtain ⟨wo, rfl⟩ : ∃ wo : World, wo = wr := ⟨_, rfl⟩
        go_wp2_with (with_reducible refine alAgg Tryd.ag_dig (wn rfl) rfl ?_)
        go_loopw [11] (fun iv_ w2 => ∃ (i : Nat) (cur : Array Value), i ≤ 16 ∧ iv_ = .int .i64 i ∧ w2 = wo.alloc (.cells cur 37) ∧ cur.size = 16 ∧ Hid (∀ m, m < i → cur[m]? = (bcs (l.drop (U + k * 16)))[m]?)) (fun iv_ _ => 16 - (intOf iv_).toNat)
        case atStart => exact ⟨0, digZero, by omega, rfl, rfl, Tryd.ag_dig.zs, (by intro m hm; omega)⟩
        case round =>
          obtain ⟨i, cur, hi, rfl, rfl, hcur, hpre⟩ := hrel
          by_cases hi16 : i < 16
          · obtain ⟨y, hy, hyc⟩ : ∃ y, l[U + k * 16 + i]? = some y ∧ ∃ b off, A = some ⟨b, off, none⟩ ∧ b < B ∧ (wo.alloc (.cells cur 37)).cell? ⟨b, off + (U + k * 16 + i), none⟩ = some (.int .u8 (y.toNat : Int)) := by
              obtain ⟨b, off, u, e, hbB, hu, hc⟩ := (hrw.alloc (by have := hb.size; omega) (.cells cur 37)).at1 (show U + k * 16 + i < l.length by omega)
              rw [bcs, List.getElem?_map] at hu
              obtain ⟨y, hy, hyu⟩ := Option.map_eq_some_iff.1 hu
              exact ⟨y, hy, b, off, e, hbB, by rw [hc, ← hyu]; rfl⟩
            obtain ⟨b, off, rfl, hbB, hyc⟩ := hyc
            have hblt : b < wo.heap.size := by have := hb.size; omega
            have HC2 := Lib.hid hcur
            have HY := Lib.hid hy
            obtain ⟨old, hci⟩ : ∃ old, (wo.alloc (.cells cur 37)).cell? ⟨wo.heap.size, i, none⟩ = some old :=
              ⟨cur[i]'(by omega), by rw [World.cell?_alloc_at _ _ _ _ rfl]; simp [hcur, hi16]⟩
            clear hcur hy
            go_wp2
            go_roundw
            case rel =>
              refine ⟨i + 1, cur.setIfInBounds i (.int .u8 (y.toNat : Int)), by omega, by go_num, rfl, by rw [Array.size_setIfInBounds]; exact HC2.out, ?_⟩
              intro m hm
              rw [Array.getElem?_setIfInBounds, bcs, List.getElem?_map, List.getElem?_drop]
              by_cases hmi : i = m
              · subst hmi
                rw [if_pos rfl, if_pos (by rw [HC2.out]; omega), HY.out]; rfl
              · rw [if_neg hmi, hpre.out m (by omega), bcs, List.getElem?_map, List.getElem?_drop]
            case measure => (simp [intOf]; try omega)
          · obtain rfl : i = 16 := by omega
            have hdl : 16 ≤ (l.drop (U + k * 16)).length := by rw [List.length_drop]; omega
            obtain ⟨D, hD⟩ : ∃ D, D = (l.drop (U + k * 16)).take 16 := ⟨_, rfl⟩
            have hd16 : (bcs D).length = 16 := by rw [bcs_length, hD, List.length_take]; omega
            have hcd : cur = (bcs D).toArray := by
              apply Array.ext_getElem?
              intro m
              by_cases hm : m < 16
              · rw [hpre.out m hm, hD, ← take_bcs]
                simp [List.getElem?_take, hm]
              · rw [Array.getElem?_eq_none (by omega), Array.getElem?_eq_none (by rw [List.size_toArray, hd16]; omega)]
            subst hcd
            have H16 := Lib.hid hd16
            have HDD := Lib.hid hD
            clear hd16 hD hdl hcur hpre hi16 hrw
            go_wp2_with (first | (with_reducible refine ldAgg (.tmp 10) (bcs D) Tryd.ag_dig (wn rfl) rfl rfl H16.out (by intro j u hu; rw [World.cell?_alloc_at _ _ _ _ rfl]; simpa using hu) ?_) | (with_reducible refine bsAgg1 (.tmp 39) Tryd.sl_dig (wn rfl) rfl rfl (by rw [List.size_toArray]; exact H16.out) (by decide) ?_) | (at_builtin; with_reducible refine appR _ _ Tryd.sl_dig (wn rfl) rfl rfl rfl ((hown.alloc _).alloc _) (rd_aggN _ (bcs D) _ 16 1 H16.out (by decide)) (bcs_one D) ((hb.alloc hb.size _).alloc (by have := hb.size; simp; omega) _) (Nat.le_refl _) (by omega) (by omega) ?_))
            intro v' w' h3 h4 _
            clear hown hb
            go_wp2
            go_roundw
            case rel =>
              refine ⟨k + 1, by omega, by go_num, by go_num, ownsRow_count h3 rfl ?_, h4⟩
              rw [HT.out, bcs_append, HDD.out]
            case measure => (simp [intOf]; try omega)
      · obtain rfl : k = N := by omega
        clear hlt hrw
        go_wp2
        go_ret3
        exact ⟨u8, k, by rw [HL.out, if_neg (by omega)]; rfl, by rw [HL.out, if_neg (by omega)]; exact hown, hb⟩
  · rcases f3 with rfl | rfl
    all_goals
      go_enter Tryd.func40, Tryd.ntmps40
      go_wp2_with (go_at_call 70; refine (refLength_any l _ _ _ _ 16 _ hr (by omega) (by omega)).mono ?_; rintro e w1 ⟨rfl, rfl⟩; rw [HD.out])
      go_ret3
      exact ⟨.slice none 0 0, 0, by rw [HL.out, if_pos (by omega)]; rfl, by rw [HL.out, if_pos (by omega)]; exact World.ownsRow_nil _ _ _ _, Below.refl _ _⟩
end Go.Proofs.YtgjgjimgomhbmaaDoor
namespace Go.Proofs.YtgjgjimgomhbmaaDoor
open Go.RowKit
set_option maxRecDepth 100000 in
set_option maxHeartbeats 400000 in
theorem same_true (l : List UInt8) (A A' : Option Addr) (n n' c c' B B' : Nat) (w : World) (hr : Rd w B 1 A n c (bcs l)) (hr' : Rd w B' 1 A' n' c' (bcs l)) :
    Calls Tryd.prog 11 #[.slice A n c, .slice A' n' c'] w fun e w' => e = .returned (.bool true) ∧ w = w' := by
  have h1 := conv_bs (P := Tryd.prog) Tryd.sl_u8.und Tryd.und_u8 Tryd.und_str hr
  have h2 := conv_bs (P := Tryd.prog) Tryd.sl_u8.und Tryd.und_u8 Tryd.und_str hr'
  go_enter Tryd.func11, Tryd.ntmps11
  go_wp2
  go_ret
  exact ⟨by simp, rfl⟩
end Go.Proofs.YtgjgjimgomhbmaaDoor
namespace Go.Proofs.YtgjgjimgomhbmaaDoor
open Go.RowKit
theorem decGo_canon : ∀ (l : List UInt8) (k acc : Nat) (n u : Int), k ≤ 9 → decGo l k acc = (n, u, 0) →
    (k : Int) < u ∧ ∃ z, l.take (u.toNat - k) = encN (9 - k) z ∧ n = unzz (acc + z * 128 ^ k) ∧ (k = 0 ∨ 0 < z)
  | [], k, acc, n, u, hk, h => by simp [decGo] at h
  | c :: t, k, acc, n, u, hk, h => by
    rw [decGo] at h
    by_cases h1 : (k = 9 ∧ 1 < c.toNat) ∨ (0 < k ∧ c.toNat = 0)
    · rw [if_pos h1] at h; simp at h
    · rw [if_neg h1] at h
      by_cases h2 : c.toNat < 128
      · rw [if_pos h2] at h
        simp only [Prod.mk.injEq, and_true] at h
        obtain ⟨h3, h4⟩ := h
        refine ⟨by omega, c.toNat, ?_, ?_, by omega⟩
        · rw [encN_last _ _ h2, show u.toNat - k = 1 from by omega]
          simp
        · rw [← h3, Nat.mod_eq_of_lt h2]
      · rw [if_neg h2] at h
        have hk9 : k + 1 ≤ 9 := by omega
        obtain ⟨h5, z, h6, h7, h8⟩ := decGo_canon t (k + 1) _ n u hk9 h
        have hz : 0 < z := by omega
        have hc := c.toNat_lt
        refine ⟨by omega, z * 128 + (c.toNat - 128), ?_, ?_, by omega⟩
        · have e1 : 9 - k = (9 - (k + 1)) + 1 := by omega
          have e2 : u.toNat - k = (u.toNat - (k + 1)) + 1 := by omega
          rw [e2, List.take_succ_cons, h6, e1, encN_step _ _ (by omega)]
          have e3 : (z * 128 + (c.toNat - 128)) % 128 + 128 = c.toNat := by omega
          have e4 : (z * 128 + (c.toNat - 128)) / 128 = z := by omega
          rw [e3, e4]
          simp
        · rw [h7]
          congr 1
          rw [Nat.pow_succ, Nat.add_mul, show c.toNat % 128 = c.toNat - 128 from by omega, Nat.mul_assoc, Nat.mul_comm 128 (128 ^ k)]
          omega
theorem dec_canon {l : List UInt8} {n u : Int} (h : dec l = (n, u, 0)) : l.take u.toNat = enc n := by
  obtain ⟨h1, z, h2, h3, _⟩ := decGo_canon l 0 0 n u (by omega) h
  simp at h2 h3
  rw [h2, h3, enc, zz_unzz]
theorem lenDec_dec {l : List UInt8} {least : Nat} {n u : Int} (h : lenDec l least = (n, u, 0)) : dec l = (n, u, 0) := by
  obtain ⟨a, b, c, hd⟩ : ∃ a b c, dec l = (a, b, c) := ⟨_, _, _, rfl⟩
  unfold lenDec at h
  rw [hd] at h ⊢
  simp only at h
  split at h
  · rename_i hc; simp only [Prod.mk.injEq] at h; exact absurd h.2.2 hc
  · rename_i hc
    split at h
    · simp at h
    · split at h
      · simp at h
      · simp only [Prod.mk.injEq] at h
        obtain ⟨rfl, rfl, _⟩ := h
        have : c = 0 := by omega
        rw [this]
theorem decS_canon {l s : List UInt8} {u : Int} (h : decS l = (s, u, 0)) : l.take u.toNat = encS s ∧ 0 ≤ u ∧ u ≤ l.length := by
  obtain ⟨a, b, c, hd⟩ : ∃ a b c, lenDec l 1 = (a, b, c) := ⟨_, _, _, rfl⟩
  have hf := lenDec_facts (by omega) hd
  unfold decS at h
  rw [hd] at h
  by_cases h1 : c = 0
  · subst h1
    have hc := dec_canon (lenDec_dec hd)
    simp at h
    obtain ⟨rfl, rfl⟩ := h
    refine ⟨?_, by omega, by omega⟩
    unfold encS
    have e : ((l.drop b.toNat).take a.toNat).length = a.toNat := by rw [List.length_take, List.length_drop]; omega
    rw [e, show ((a.toNat : Nat) : Int) = a from by omega, ← hc, show (b + a).toNat = b.toNat + a.toNat from by omega, List.take_add]
  · simp [h1] at h
section
variable {α : Type} {one : List UInt8 → α × Int × Int} {e : α → List UInt8}
theorem many_canon (l : List UInt8) (hone : ∀ m x u, one m = (x, u, 0) → m.take u.toNat = e x ∧ 0 ≤ u ∧ u ≤ m.length) : ∀ (n at_ : Nat) (acc r : List α) (u : Int), at_ ≤ l.length → many one l n at_ acc = (r, u, 0) →
    ∃ xs : List α, r = acc ++ xs ∧ xs.length = n ∧ (at_ : Int) ≤ u ∧ u ≤ l.length ∧ l.take u.toNat = l.take at_ ++ (xs.map e).flatten
  | 0, at_, acc, r, u, hle, h => by
    rw [many] at h
    simp only [Prod.mk.injEq] at h
    obtain ⟨rfl, rfl, _⟩ := h
    exact ⟨[], by simp, rfl, by omega, by omega, by simp⟩
  | n + 1, at_, acc, r, u, hle, h => by
    obtain ⟨x, v, c, hx⟩ : ∃ x v c, one (l.drop at_) = (x, v, c) := ⟨_, _, _, rfl⟩
    rw [many, hx] at h
    by_cases hc : c = 0
    · subst hc
      simp only [ne_eq, not_true_eq_false, if_false] at h
      obtain ⟨h1, h2, h3⟩ := hone _ _ _ hx
      rw [List.length_drop] at h3
      obtain ⟨xs, rfl, h5, h6, h7, h8⟩ := many_canon l hone n (at_ + v.toNat) _ r u (by omega) h
      refine ⟨x :: xs, by simp, by simp [h5], by omega, h7, ?_⟩
      rw [h8, List.take_add, h1]
      simp
    · simp [hc] at h
end
theorem decList_canon {α : Type} {one : List UInt8 → α × Int × Int} {e : α → List UInt8} (hone : ∀ m x u, one m = (x, u, 0) → m.take u.toNat = e x ∧ 0 ≤ u ∧ u ≤ m.length) {l : List UInt8} {r : List α} {u : Int} (h : decList one l = (r, u, 0)) :
    l.take u.toNat = enc r.length ++ (r.map e).flatten ∧ 0 ≤ u ∧ u ≤ l.length := by
  obtain ⟨a, b, c, hd⟩ : ∃ a b c, lenDec l 1 = (a, b, c) := ⟨_, _, _, rfl⟩
  have hf := lenDec_facts (by omega) hd
  unfold decList at h
  rw [hd] at h
  by_cases h1 : c = 0
  · subst h1
    have hc := dec_canon (lenDec_dec hd)
    simp only [ne_eq, not_true_eq_false, if_false] at h
    obtain ⟨xs, h2, h3, h4, h5, h6⟩ := many_canon l hone a.toNat b.toNat [] r u (by omega) h
    simp only [List.nil_append] at h2
    subst h2
    refine ⟨?_, by omega, h5⟩
    rw [h6, hc, h3, show ((a.toNat : Nat) : Int) = a from by omega]
  · simp [h1] at h
theorem dec_canon' (m : List UInt8) (x u : Int) (h : dec m = (x, u, 0)) : m.take u.toNat = enc x ∧ 0 ≤ u ∧ u ≤ m.length := by
  refine ⟨dec_canon h, ?_⟩
  rcases dec_facts h with ⟨_, h1, _, h2, _⟩ | ⟨_, h1, h2⟩ <;> omega
theorem decI_canon {l : List UInt8} {r : List Int} {u : Int} (h : decI l = (r, u, 0)) : l.take u.toNat = encI r ∧ 0 ≤ u ∧ u ≤ l.length := decList_canon dec_canon' h
theorem decD_canon {l D : List UInt8} {u : Int} (h : decD l = (D, u, 0)) : l.take u.toNat = encD (D.length / 16) D ∧ D.length % 16 = 0 ∧ 0 ≤ u ∧ u ≤ l.length := by
  obtain ⟨a, b, c, hd⟩ : ∃ a b c, lenDec l 16 = (a, b, c) := ⟨_, _, _, rfl⟩
  have hf := lenDec_facts (by omega) hd
  unfold decD at h
  rw [hd] at h
  by_cases h1 : c = 0
  · subst h1
    have hc := dec_canon (lenDec_dec hd)
    simp at h
    obtain ⟨rfl, rfl⟩ := h
    have e : ((l.drop b.toNat).take (a.toNat * 16)).length = a.toNat * 16 := by rw [List.length_take, List.length_drop]; omega
    refine ⟨?_, by rw [e]; omega, by omega, by omega⟩
    unfold encD
    rw [e, show ((a.toNat * 16 / 16 : Nat) : Int) = a from by omega, ← hc, show (b + a * 16).toNat = b.toNat + a.toNat * 16 from by omega, List.take_add]
  · simp [h1] at h
end Go.Proofs.YtgjgjimgomhbmaaDoor
namespace Go.Proofs.YtgjgjimgomhbmaaDoor
open Go.RowKit
end Go.Proofs.YtgjgjimgomhbmaaDoor
namespace Go.Proofs.YtgjgjimgomhbmaaDoor
open Go.RowKit Go.ChangeShapes Go.WideShapes
section
variable {H : Type} {enc : TypeId × Value → H} {P : Program} {w : World} {base : Nat} {held : Bool}
theorem chunk_get {α : Type} (f : Nat → List α) (n s : Nat) (hs : 0 < s) (hl : ∀ i, i < n → (f i).length = s) (j : Nat) (u : α) (h : ((List.range n).flatMap f)[j]? = some u) :
    j / s < n ∧ (f (j / s))[j % s]? = some u := by
  induction n generalizing j with
  | zero => simp at h
  | succ n ih =>
    rw [List.range_succ, List.flatMap_append] at h
    have hlen : ((List.range n).flatMap f).length = n * s := by
      clear h ih
      induction n with
      | zero => simp
      | succ n ih2 =>
        rw [List.range_succ, List.flatMap_append, List.length_append, ih2 (fun i hi => hl i (by omega))]
        simp [hl n (by omega), Nat.add_mul]
    rcases Nat.lt_or_ge j (n * s) with hj | hj
    · rw [List.getElem?_append_left (by omega)] at h
      obtain ⟨h1, h2⟩ := ih (fun i hi => hl i (by omega)) j h
      exact ⟨by omega, h2⟩
    · rw [List.getElem?_append_right (by omega), hlen] at h
      simp only [List.flatMap_cons, List.flatMap_nil, List.append_nil] at h
      have hlt : j - n * s < s := by
        have := (List.getElem?_eq_some_iff.1 h).1
        rw [hl n (by omega)] at this; exact this
      have hd : j / s = n := by
        rw [show j = (j - n * s) + n * s from by omega, Nat.add_mul_div_right _ _ hs, Nat.div_eq_of_lt hlt, Nat.zero_add]
      have hm : j % s = j - n * s := by
        rw [show j = (j - n * s) + n * s from by omega, Nat.add_mul_mod_self_right, Nat.mod_eq_of_lt hlt]; omega
      rw [hd, hm]
      exact ⟨by omega, h⟩
/-- A slice that came in, its elements of one type, each of s cells. -/
theorem br_slice {α : Type} {t e : TypeId} {s : Nat} (f : α → List Value) (R : α → DataW H → Prop) (ht : P.underlying t = some (.slice e)) (hs : P.cellsOf e = s) (hpos : 0 < s)
    (el : ∀ fuel cs' d pl, cs'.length = s → DataW.trod enc P w base (fun _ => true) held fuel e cs' = some (d, pl) → ∃ x : α, cs' = f x ∧ R x d)
    {fuel : Nat} {cs : List Value} {x : DataW H × List MemPlace} (h : DataW.trod enc P w base (fun _ => true) held fuel t cs = some x) :
    ∃ (A : Option Addr) (n c : Nat) (xs : List α) (D sp : List (DataW H)), cs = [.slice A n c] ∧ xs.length = n ∧ Rd w w.heap.size s A n c (xs.flatMap f) ∧
      (∀ y ∈ xs, (f y).length = s) ∧ (x.1 = .slice D sp ∨ x.1 = .nil ∧ n = 0) ∧ D.length = n ∧ (∀ (i : Nat) (y : α), xs[i]? = some y → ∃ d, D[i]? = some d ∧ R y d) := by
  rcases Deep.open_slice ht h with ⟨rfl, rfl⟩ | ⟨a, len, cap, m, k, D, Pl, rfl, hb, hl, hm, hmc, rfl, hel⟩
  · exact ⟨none, 0, 0, [], [], [], rfl, rfl, Rd.nil _ _ _, by simp, Or.inr ⟨rfl, rfl⟩, rfl, by simp⟩
  · simp only [if_true] at hmc
    subst hmc
    by_cases h0 : len = 0
    · subst h0
      exact ⟨some a, 0, m, [], [], _, rfl, rfl, ⟨by simp, Nat.zero_le _, hm, fun hh => absurd hh (by omega)⟩, by simp, Or.inl rfl, rfl, by simp⟩
    have each : ∀ i, i < len → ∃ y : α, w.cells? base (a.add (i * s)) s = some (f y) ∧ (f y).length = s ∧ R y (D i) := by
      intro i hi
      obtain ⟨cs', hc, ht'⟩ := hel i (by omega)
      rw [hs] at hc
      have hcl := (World.cells?_some hc).2.1
      obtain ⟨y, rfl, hR⟩ := el k cs' _ _ hcl ht'
      exact ⟨y, hc, hcl, hR⟩
    obtain ⟨y0, _⟩ := each 0 (by omega)
    have : Inhabited α := ⟨y0⟩
    obtain ⟨F, hF⟩ := Deep.choose_lt each
    obtain ⟨hc0, hl0, _⟩ := hF 0 (by omega)
    have hget : ∀ i, i < len → ∀ j u, (f (F i))[j]? = some u → w.cell? (a.add (i * s + j)) = some u := by
      intro i hi j u hj
      have hjl := (List.getElem?_eq_some_iff.1 hj).1
      rw [(hF i hi).2.1] at hjl
      have := (World.cells?_some (hF i hi).1).2.2 j hjl
      rw [hj, Deep.add_add] at this
      exact this
    have hspot : a = ⟨a.block, a.off, none⟩ := by
      obtain ⟨u, hu⟩ : ∃ u, (f (F 0))[0]? = some u := ⟨(f (F 0))[0]'(by omega), List.getElem?_eq_getElem (by omega)⟩
      have hc := hget 0 (by omega) 0 u hu
      rw [Nat.zero_mul, Nat.zero_add] at hc
      cases a with
      | mk b o spo =>
        cases spo with
        | none => rfl
        | some q =>
          exfalso
          simp only [Addr.add, if_true] at hc
          unfold World.cell? at hc
          split at hc <;> simp at hc
    have hadd : ∀ j, a.add j = ⟨a.block, a.off + j, none⟩ := by
      intro j
      unfold Addr.add
      split
      · rename_i hj; subst hj; exact hspot
      · rfl
    refine ⟨some a, len, m, (List.range len).map F, (List.range len).map D, _, rfl, by simp, ?_, ?_, Or.inl rfl, by simp, ?_⟩
    · have hfl : ((List.range len).map F).flatMap f = (List.range len).flatMap fun i => f (F i) := by rw [List.flatMap_map]
      rw [hfl]
      refine ⟨?_, hl, hm, fun _ => ⟨a.block, a.off, congrArg some hspot, ?_, fun j u hj => ?_⟩⟩
      · rw [List.length_flatMap]
        have e : (List.range len).map (fun i => (f (F i)).length) = (List.range len).map fun _ => s := List.map_congr_left fun i hi => (hF i (List.mem_range.1 hi)).2.1
        rw [e, List.map_const', List.length_range]; simp [List.sum_replicate_nat]
      · obtain ⟨u, hu⟩ : ∃ u, (f (F 0))[0]? = some u := ⟨(f (F 0))[0]'(by omega), List.getElem?_eq_getElem (by omega)⟩
        have hc := hget 0 (by omega) 0 u hu
        rw [hadd] at hc
        exact World.block_lt_of_cell? w ⟨a.block, _, none⟩ hc
      · obtain ⟨h1, h2⟩ := chunk_get (fun i => f (F i)) len s hpos (fun i hi => (hF i hi).2.1) j u hj
        have := hget _ h1 _ _ h2
        rw [hadd] at this
        rw [show j = j / s * s + j % s from (Nat.div_add_mod' j s).symm]
        exact this
    · intro y hy
      obtain ⟨i, hi, rfl⟩ := List.mem_map.1 hy
      exact (hF i (List.mem_range.1 hi)).2.1
    · intro i y hy
      rw [List.getElem?_map] at hy
      obtain ⟨i', hi', rfl⟩ := Option.map_eq_some_iff.1 hy
      have hlt : i < len := by
        have := (List.getElem?_eq_some_iff.1 hi').1
        simpa using this
      have : i' = i := by
        have h := List.getElem?_range hlt
        rw [h] at hi'; exact (Option.some.inj hi').symm
      subst this
      exact ⟨D i', by rw [List.getElem?_map, hi']; rfl, (hF i' hlt).2.2⟩
/-- An array of integers by value, or among cells. -/
theorem br_arr {t e : TypeId} {n : Nat} {k : IntKind} (ht : P.underlying t = some (.array n e)) (he : P.underlying e = some (.int k)) (hc : P.cellsOf e = 1) (hct : P.cellsOf t = n)
    {fuel : Nat} {cs : List Value} {x : DataW H × List MemPlace} {spare : Nat → Bool} (h : DataW.trod enc P w base spare held fuel t cs = some x) :
    ∃ zs : List Int, cs = zs.map (Value.int k) ∧ zs.length = n ∧ (∀ z ∈ zs, (Lit.int k z).wf = true) ∧ x = (.agg (zs.map fun z => .lit (.int k z)), []) := by
  obtain ⟨xs, m, _, rfl, hl, hxn, hel⟩ := DataW.trod_array ht h
  rw [hct] at hl
  have each : ∀ i, i < n → ∃ z, cs[i]? = some (.int k z) ∧ (Lit.int k z).wf = true ∧ xs[i]? = some (.lit (.int k z), []) := by
    intro i hi
    have h1 := hel i hi
    rw [hc, Nat.mul_one] at h1
    have hi' : i < cs.length := by omega
    have h2 : (cs.drop i).take 1 = [cs[i]] := by rw [List.drop_eq_getElem_cons hi']; rfl
    rw [h2] at h1
    have hi2 : i < xs.length := by omega
    rw [List.getElem?_eq_getElem hi2] at h1
    obtain ⟨z, hz1, hz2, hz3⟩ := DataW.trod_int he h1
    injection hz1 with hz1 _
    exact ⟨z, by rw [List.getElem?_eq_getElem hi', hz1], hz3, by rw [List.getElem?_eq_getElem hi2, hz2]⟩
  obtain ⟨F, hF⟩ := Deep.choose_lt each
  refine ⟨(List.range n).map F, ?_, by simp, ?_, ?_⟩
  · apply List.ext_getElem?
    intro i
    by_cases hi : i < n
    · rw [(hF i hi).1]; simp [hi]
    · rw [List.getElem?_eq_none (by omega), List.getElem?_eq_none (by simp; omega)]
  · intro z hz
    obtain ⟨i, hi, rfl⟩ := List.mem_map.1 hz
    exact (hF i (List.mem_range.1 hi)).2.1
  · have e : xs = (List.range n).map fun i => ((.lit (.int k (F i)), []) : DataW H × List MemPlace) := by
      apply List.ext_getElem?
      intro i
      by_cases hi : i < n
      · rw [(hF i hi).2.2]; simp [hi]
      · rw [List.getElem?_eq_none (by omega), List.getElem?_eq_none (by simp; omega)]
    rw [e]
    simp [Function.comp_def]
theorem flat_one {α β : Type} (f : α → β) : ∀ l : List α, l.map f = l.flatMap fun x => [f x]
  | [] => rfl
  | x :: l => by rw [List.map_cons, List.flatMap_cons, flat_one f l]; rfl
/-- A slice of integers that came in. -/
theorem br_ints {t e : TypeId} {k : IntKind} (ht : P.underlying t = some (.slice e)) (he : P.underlying e = some (.int k)) (hc : P.cellsOf e = 1) {a0 : Option Addr} {n0 c0 : Nat} {d : DataW H} {pl : List MemPlace}
    (h : DataW.Trod enc P w base (fun _ => true) held t (.slice a0 n0 c0) d pl) :
    ∃ (zs : List Int) (D sp : List (DataW H)), Rd w w.heap.size 1 a0 n0 c0 (zs.map (Value.int k)) ∧ (∀ z ∈ zs, (Lit.int k z).wf = true) ∧
      (d = .slice D sp ∨ d = .nil ∧ n0 = 0) ∧ D.length = n0 := by
  obtain ⟨fuel, hf⟩ := h
  obtain ⟨A, n, c, xs, D, sp, hcs, hn, hr, _, hd, hD, hR⟩ := br_slice (fun z => [Value.int k z]) (fun z (_ : DataW H) => (Lit.int k z).wf = true) ht hc (by decide)
    (fun fuel cs' d pl _ hh => by obtain ⟨z, rfl, _, hz⟩ := DataW.trod_int he hh; exact ⟨z, rfl, hz⟩) hf
  simp only [Value.cells, List.cons.injEq, Value.slice.injEq, and_true] at hcs
  obtain ⟨rfl, rfl, rfl⟩ := hcs
  refine ⟨xs, D, sp, ?_, ?_, hd, hD⟩
  · rw [show xs.map (Value.int k) = xs.flatMap fun z => [Value.int k z] from by rw [flat_one]]; exact hr
  · intro z hz
    obtain ⟨i, hi⟩ := List.getElem?_of_mem hz
    obtain ⟨_, _, h⟩ := hR i z hi
    exact h
theorem u8_list (zs : List Int) (h : ∀ z ∈ zs, (Lit.int .u8 z).wf = true) : zs.map (Value.int .u8) = bcs (zs.map fun z => UInt8.ofNat z.toNat) := by
  rw [bcs, List.map_map]
  refine List.map_congr_left fun z hz => ?_
  have hb := h z hz
  have hb' : 0 ≤ z ∧ z ≤ 255 := by simpa [Lit.wf, IntKind.min, IntKind.max, IntKind.signed, IntKind.bits] using hb
  simp only [Function.comp_def, bc]
  congr 1
  simp
  omega
/-- A slice of bytes that came in. -/
theorem br_bytes {t e : TypeId} (ht : P.underlying t = some (.slice e)) (he : P.underlying e = some (.int .u8)) (hc : P.cellsOf e = 1) {a0 : Option Addr} {n0 c0 : Nat} {d : DataW H} {pl : List MemPlace}
    (h : DataW.Trod enc P w base (fun _ => true) held t (.slice a0 n0 c0) d pl) :
    ∃ (l : List UInt8) (D sp : List (DataW H)), Rd w w.heap.size 1 a0 n0 c0 (bcs l) ∧ (d = .slice D sp ∨ d = .nil ∧ n0 = 0) ∧ D.length = n0 := by
  obtain ⟨zs, D, sp, hr, hz, hd, hD⟩ := br_ints ht he hc h
  exact ⟨_, D, sp, by rw [← u8_list zs hz]; exact hr, hd, hD⟩
theorem bcs_flat (xs : List (List UInt8)) : xs.flatMap bcs = bcs xs.flatten := by
  rw [bcs, List.map_flatten, List.flatMap_def]; rfl
end
end Go.Proofs.YtgjgjimgomhbmaaDoor
namespace Go.Proofs.YtgjgjimgomhbmaaDoor
open Go.RowKit
end Go.Proofs.YtgjgjimgomhbmaaDoor
namespace Go.Proofs.YtgjgjimgomhbmaaDoor
open Go.RowKit
section
variable {P : Program} {w : World} {o : Oper} {a : Act} {t ty : TypeId} {A B C : Int}
theorem addRun (x y : Operand) (ho : o.op = .binOp .add t x y ty) (hx : a.eval x = .int .i64 A) (hy : a.eval y = .int .i64 B) (hC : A + B = C) (h : -9223372036854775808 ≤ C ∧ C ≤ 9223372036854775807) : (execOp a.eval o).run P w = .ok (.value (.int .i64 C)) w := by
  have hw := IntWalk.i64_in C h
  unfold execOp
  simp [ho, hx, hy, eqGuard, binOp_add, Op.intArith, hC, hw]
theorem subRun (x y : Operand) (ho : o.op = .binOp .sub t x y ty) (hx : a.eval x = .int .i64 A) (hy : a.eval y = .int .i64 B) (hC : A - B = C) (h : -9223372036854775808 ≤ C ∧ C ≤ 9223372036854775807) : (execOp a.eval o).run P w = .ok (.value (.int .i64 C)) w := by
  have hw := IntWalk.i64_in C h
  unfold execOp
  simp [ho, hx, hy, eqGuard, binOp_sub, Op.intArith, hC, hw]
end
end Go.Proofs.YtgjgjimgomhbmaaDoor
namespace Go.Proofs.YtgjgjimgomhbmaaDoor
open Go.RowKit
section
variable {P : Program} {w : World} {o : Oper} {a : Act} {t ty src dst : TypeId} {A B C : Int} {k : IntKind}
end
end Go.Proofs.YtgjgjimgomhbmaaDoor
namespace Go.Proofs.YtgjgjimgomhbmaaDoor
open Go.RowKit
section
variable {w w' : World} {g B : Nat} {l : List UInt8}
end
end Go.Proofs.YtgjgjimgomhbmaaDoor
namespace Go.Proofs.YtgjgjimgomhbmaaDoor
open Go.RowKit
/-- Operation k waits for operation p, or for one of D that does. -/
def reachD (ops : Array Oper) (D : List Nat) : Nat → Nat → Nat → Bool
  | 0, k, p => waitsFor ops k p
  | f + 1, k, p => waitsFor ops k p || D.any fun q => waitsFor ops k q && reachD ops D f q p
def closedD (ops : Array Oper) (D : List Nat) (listed : Array Bool) : Bool := D.all fun q => !listed.getD q true || D.all fun p => !waitsFor ops q p || listed.getD p true
theorem closedD_spec {ops : Array Oper} {D : List Nat} {listed : Array Bool} (h : closedD ops D listed = true) {q p : Nat} (hq : q ∈ D) (hp : p ∈ D) (hl : listed.getD q true = true) (hw : waitsFor ops q p = true) : listed.getD p true = true := by
  have h1 := List.all_eq_true.1 h q hq
  rw [hl] at h1
  have h2 := List.all_eq_true.1 (by simpa using h1 : (D.all fun p => !waitsFor ops q p || listed.getD p true) = true) p hp
  rw [hw] at h2
  simpa using h2
theorem reachD_listed {ops : Array Oper} {D : List Nat} {listed : Array Bool} (hc : closedD ops D listed = true) {p : Nat} (hp : p ∈ D) :
    ∀ (f k : Nat), (∀ q ∈ D, waitsFor ops k q = true → listed.getD q true = true) → reachD ops D f k p = true → listed.getD p true = true
  | 0, _, hk, h => hk p hp h
  | f + 1, k, hk, h => by
    unfold reachD at h
    rw [Bool.or_eq_true] at h
    rcases h with h | h
    · exact hk p hp h
    · obtain ⟨q, hq, h2⟩ := List.any_eq_true.1 h
      rw [Bool.and_eq_true] at h2
      exact reachD_listed hc hp f q (fun r hr hw => closedD_spec hc hq hr (hk q hq h2.1) hw) h2.2
theorem waits_ready {ops : Array Oper} {listed : Array Bool} {j q : Nat} (hj : j ∈ Region.ready .any ops listed) (hw : waitsFor ops j q = true) : listed.getD q true = true := by
  obtain ⟨_, oj, hoj, hall⟩ := mem_ready.1 hj
  unfold waitsFor at hw
  rw [show ops.toList[j]? = some oj by rw [← hoj]; simp] at hw
  simp only [Option.map_some, Option.getD_some] at hw
  obtain ⟨e, he, hb⟩ := Array.any_eq_true'.1 hw
  simp only [Bool.and_eq_true, beq_iff_eq] at hb
  have h1 := hall e he hb.1
  rw [hb.2] at h1
  rcases Nat.lt_or_ge q listed.size with h' | h'
  · simp [h'] at h1 ⊢
    exact h1
  · simp [h']
theorem closedD_set {ops : Array Oper} {D : List Nat} {listed : Array Bool} {j : Nat} (hc : closedD ops D listed = true) (hj : j ∈ Region.ready .any ops listed) : closedD ops D (listed.setIfInBounds j true) = true := by
  refine List.all_eq_true.2 fun q hq => ?_
  cases hl : (listed.setIfInBounds j true).getD q true with
  | false => rfl
  | true =>
    simp only [Bool.not_true, Bool.false_or]
    refine List.all_eq_true.2 fun p hp => ?_
    cases hw : waitsFor ops q p with
    | false => rfl
    | true =>
      simp only [Bool.not_true, Bool.false_or]
      by_cases hpj : p = j
      · subst hpj
        by_cases hlt : p < listed.size
        · simp [hlt]
        · simp [hlt]
      · rw [getD_set_ne true (Ne.symm hpj)]
        by_cases hqj : q = j
        · subst hqj; exact waits_ready hj hw
        · rw [getD_set_ne true (Ne.symm hqj)] at hl
          exact closedD_spec hc hq hp hl hw
section
variable {P : Program} {ops : Array Oper} {Q : Exit → Act → World → Prop} {S : World → Prop} {c : Nat} {D : List Nat} {listed : Array Bool} {a : Act} {w : World} {fuel : Nat}
/-- Whatever order is picked, and S holds as long as operation c is not listed. -/
def wpAnyL (P : Program) (ops : Array Oper) (Q : Exit → Act → World → Prop) (S : World → Prop) (c : Nat) : Nat → Array Bool → Act → World → Prop
  | 0, listed, a, w => Region.ready .any ops listed = [] ∧ Q .normal a w
  | fuel + 1, listed, a, w =>
    (Region.ready .any ops listed = [] → Q .normal a w) ∧
    ∀ i ∈ Region.ready .any ops listed, wpOp P ops Q i (fun a' w' => ((listed.setIfInBounds i true).getD c true = false → S w') ∧ wpAnyL P ops Q S c fuel (listed.setIfInBounds i true) a' w') a w
theorem wpAny_of_L : ∀ (fuel : Nat) (listed : Array Bool) (a : Act) (w : World), wpAnyL P ops Q S c fuel listed a w → wpAny P .any ops Q fuel listed a w
  | 0, _, _, _, h => h
  | fuel + 1, _, _, _, h => ⟨h.1, fun i hi => wpOp_mono (fun a' w' h' => wpAny_of_L fuel _ a' w' h'.2) (h.2 i hi)⟩
theorem wpAnyL_first {i f : Nat} {oi : Oper} {v : Value} (hi : ops[i]? = some oi) (hsel : ∀ (j : Nat) (o : Oper) cs b, ops[j]? = some o → o.op ≠ .select cs b)
    (hQ : ∀ c a w, Q (.panic c) (a.put oi.dst v) w → Q (.panic c) a w) (hD : i ∈ D) (hcr : reachD ops D f c i = true) (hne : i ≠ c) :
    ∀ (fuel : Nat) (listed : Array Bool) (a : Act) (w : World), listed.getD c true = false → closedD ops D listed = true →
      (∀ j oj, ops[j]? = some oj → j ≠ i → listed.getD j true = false → (∀ e ∈ oj.after, Region.binds .any e = true → e.on ≠ i) → oi.apart ops oj = true) →
      i ∈ Region.ready .any ops listed → YieldsIf P ops S oi v a → S w →
      wpAnyL P ops Q S c fuel (listed.setIfInBounds i true) (a.put oi.dst v) w → wpAnyL P ops Q S c (fuel + 1) listed a w := by
  intro fuel
  induction fuel with
  | zero =>
    intro listed a w _ _ _ hr hy hS H
    refine ⟨fun h => (by rw [h] at hr; cases hr), fun j hj => ?_⟩
    by_cases hji : j = i
    · subst hji; exact hy.wpOp hi hS ⟨fun _ => hS, H⟩
    · have := ready_mono hj hji
      rw [H.1] at this
      cases this
  | succ fuel ih =>
    intro listed a w hc hcl hfree hr hy hS H
    refine ⟨fun h => (by rw [h] at hr; cases hr), fun j hj => ?_⟩
    by_cases hji : j = i
    · subst hji; exact hy.wpOp hi hS ⟨fun _ => hS, H⟩
    · have h1 := H.2 j (ready_mono hj hji)
      obtain ⟨hjun, oj, hoj, hall⟩ := mem_ready.1 hj
      have hnot : ∀ e ∈ oj.after, Region.binds .any e = true → e.on ≠ i := fun e he hb heq => by
        have h1 := hall e he hb
        have h0 := (mem_ready.1 hr).1
        rw [heq] at h1
        rcases Nat.lt_or_ge i listed.size with h' | h'
        · simp [h'] at h0 h1; rw [h0] at h1; cases h1
        · simp [Array.getElem?_eq_none h'] at h1
      have hjc : j ≠ c := fun e => by
        subst e
        have h2 := reachD_listed hcl hD f j (fun q _ hw => waits_ready hj hw) hcr
        have h0 := (mem_ready.1 hr).1
        rw [h0] at h2
        cases h2
      have hcj : (listed.setIfInBounds j true).getD c true = false := by rw [getD_set_ne true hjc]; exact hc
      have h2 := wpOp_putIf hoj (hfree j oj hoj hji hjun hnot) (fun cs b => hsel i oi cs b hi) (fun cs b => hsel j oj cs b hoj) hQ hy h1
      have hfree' : ∀ k ok, ops[k]? = some ok → k ≠ i → (listed.setIfInBounds j true).getD k true = false →
          (∀ e ∈ ok.after, Region.binds .any e = true → e.on ≠ i) → oi.apart ops ok = true := fun k ok hk hki hun hno => by
        refine hfree k ok hk hki ?_ hno
        by_cases hjk : j = k
        · subst hjk; exact hjun
        · rw [getD_set_ne true hjk] at hun; exact hun
      refine wpOp_mono (fun a' w' h3 => ?_) h2
      have hS' : S w' := h3.2.1 (by rw [getD_set_ne true hjc, getD_set_ne true hne]; exact hc)
      refine ⟨fun _ => hS', ih (listed.setIfInBounds j true) a' w' hcj (closedD_set hcl hj) hfree' (ready_mono hr (Ne.symm hji)) h3.1 hS' ?_⟩
      rw [Array.setIfInBounds_comm _ _ hji]
      exact h3.2.2
theorem lgStart {id : Nat} (S : World → Prop) (c : Nat) (hm : P.follows .mixedOrders = true) (h : wpAnyL P ops Q S c ops.size (Array.replicate ops.size false) a w.drew) : (Code.region id ops true).wp P Q a w :=
  wp_region_any hm (wpAny_of_L _ _ _ _ h)
/-- An operation taken first, that operation c waits for. -/
theorem lgTake (D : List Nat) {i : Nat} {o : Oper} {v : Value} (hi' : ops.toList[i]? = some o) (hm : (mayFirst ops listed i && D.contains i && reachD ops D 8 c i && closedD ops D listed && !(i == c) && !listed.getD c true) = true) (hw : Region.wanted o (yielded ops a.tmps) = true)
    (hQ : ∀ c a w, Q (.panic c) (a.put o.dst v) w → Q (.panic c) a w) (hy : ∀ w, S w → (execOp a.eval o).run P w = .ok (.value v) w) (hS : S w)
    (h : wpAnyL P ops Q S c fuel (listed.setIfInBounds i true) (a.put o.dst v) w) : wpAnyL P ops Q S c (fuel + 1) listed a w := by
  have hi : ops[i]? = some o := by rw [← hi']; simp
  simp only [Bool.and_eq_true, Bool.not_eq_true', beq_eq_false_iff_ne, ne_eq] at hm
  obtain ⟨⟨⟨⟨⟨hm, hD⟩, hr⟩, hcl⟩, hne⟩, hc⟩ := hm
  simp only [mayFirst, Bool.and_eq_true] at hm
  exact wpAnyL_first (D := D) hi (Region.noSelect_spec hm.1.1) hQ (by simpa using hD) hr hne fuel listed a w hc hcl (Region.free_spec hi hm.1.2) (by simpa using hm.2) (Or.inl ⟨hw, hy⟩) hS h
/-- The one that comes up next is c, or comes behind it. -/
theorem lgNext {i : Nat} {o : Oper} (hr : Region.ready .any ops listed = [i]) (hi' : ops.toList[i]? = some o) (hc : (listed.setIfInBounds i true).getD c true = true)
    (h : wpList P ops (Exit.then (wpAnyL P ops Q S c fuel (listed.setIfInBounds i true)) Q) [o] a w) : wpAnyL P ops Q S c (fuel + 1) listed a w := by
  have hi : ops[i]? = some o := by rw [← hi']; simp
  refine ⟨fun h0 => (by rw [hr] at h0; cases h0), ?_⟩
  rw [hr]
  intro j hj
  rw [List.mem_singleton] at hj
  subst hj
  exact wpOp_mono (fun a' w' h' => ⟨fun h0 => (by rw [hc] at h0; cases h0), h'⟩) (wpOp_of_list hi h)
/-- The one that comes up next, ahead of c: the condition is shown anew. -/
theorem lgNextS {i : Nat} {o : Oper} (hr : Region.ready .any ops listed = [i]) (hi' : ops.toList[i]? = some o)
    (h : wpList P ops (Exit.then (fun a' w' => S w' ∧ wpAnyL P ops Q S c fuel (listed.setIfInBounds i true) a' w') Q) [o] a w) : wpAnyL P ops Q S c (fuel + 1) listed a w := by
  have hi : ops[i]? = some o := by rw [← hi']; simp
  refine ⟨fun h0 => (by rw [hr] at h0; cases h0), ?_⟩
  rw [hr]
  intro j hj
  rw [List.mem_singleton] at hj
  subst hj
  exact wpOp_mono (fun a' w' h' => ⟨fun _ => h'.1, h'.2⟩) (wpOp_of_list hi h)
theorem lgDone (hr : Region.ready .any ops listed = []) (h : Q .normal a w) : wpAnyL P ops Q S c fuel listed a w := by
  cases fuel with
  | zero => exact ⟨hr, h⟩
  | succ n => exact ⟨fun _ => h, by rw [hr]; simp⟩
end
end Go.Proofs.YtgjgjimgomhbmaaDoor
namespace Go.Proofs.YtgjgjimgomhbmaaDoor
open Go.RowKit
/-- The block of v' is that of v, or lies at N or behind. -/
def SameOrNew (v v' : Value) (N : Nat) : Prop := v'.ownBlock = v.ownBlock ∨ ∃ g, v'.ownBlock = some g ∧ N ≤ g
section
variable {P : Program} {w w0 : World} {ops : Array Oper} {rest : List Oper} {o : Oper} {a : Act} {Q : Exit → Act → World → Prop}
end
end Go.Proofs.YtgjgjimgomhbmaaDoor
namespace Go.Proofs.YtgjgjimgomhbmaaDoor
open Go.RowKit
theorem all_range_eqI : ∀ (xs ys : List Int), xs.length = ys.length → ((List.range xs.length).all fun i => xs.getD i 0 == ys.getD i 0) = (xs == ys)
  | [], [], _ => rfl
  | x :: xs, y :: ys, h => by
    have ih := all_range_eqI xs ys (by simpa using h)
    rw [List.length_cons, List.range_succ_eq_map, List.all_cons, List.all_map]
    simp only [List.getD_cons_zero, Function.comp_def, List.getD_cons_succ, ih]
    simp [List.cons_beq_cons]
  | [], _ :: _, h => by simp at h
  | _ :: _, [], h => by simp at h
theorem run_equalIn_ints {P : Program} (w : World) (d : Nat) (t e : TypeId) (n : Nat) (k : IntKind) (ht : P.underlying t = some (.array n e)) (he : P.underlying e = some (.int k)) (hsz : ∀ w, (sizeOf e).run P w = .ok 1 w)
    (xs ys : List Int) (hx : xs.length = n) (hy : ys.length = n) :
    (Op.equalIn (d + 2) t (.agg (xs.map (Value.int k)).toArray) (.agg (ys.map (Value.int k)).toArray)).run P w = .ok (xs == ys) w := by
  rw [← all_range_eqI xs ys (hx.trans hy.symm), hx, List.range_eq_range', Op.equalIn]
  simp only [Sem.run_bind, run_underlying ht, Result.andThen_ok, hsz, Std.Legacy.Range.forIn_eq_forIn_range', Std.Legacy.Range.size, Nat.sub_zero, Nat.add_sub_cancel, Nat.div_one]
  have hl : ∀ i ∈ List.range' 0 n 1, i < n := fun i hi => by simpa using (List.mem_range'_1.1 hi).2
  generalize List.range' 0 n 1 = l at hl ⊢
  induction l with
  | nil => simp
  | cons i l ih =>
    have hi : i < n := hl i (by simp)
    have px : (Go.part e (xs.map (Value.int k)).toArray (i * 1)).run P w = .ok (.int k (xs.getD i 0)) w := by
      simp [Go.part, isAgg, run_underlying he, List.getD, List.getElem?_eq_getElem (show i < xs.length by omega)]
    have py : (Go.part e (ys.map (Value.int k)).toArray (i * 1)).run P w = .ok (.int k (ys.getD i 0)) w := by
      simp [Go.part, isAgg, run_underlying he, List.getD, List.getElem?_eq_getElem (show i < ys.length by omega)]
    have pe : (Op.equalIn (d + 1) e (.int k (xs.getD i 0)) (.int k (ys.getD i 0))).run P w = .ok (xs.getD i 0 == ys.getD i 0) w := by
      rw [run_equalIn_int w d e k k _ _ he]
    simp only [List.forIn_cons, Sem.run_bind, px, py, pe, Result.andThen_ok, List.all_cons]
    cases hb : (xs.getD i 0 == ys.getD i 0)
    · simp
    · simp only [Bool.not_true, Bool.false_eq_true, if_false, Sem.run_pure, Result.andThen_ok, Bool.true_and]
      exact ih fun j hj => hl j (by simp [hj])
end Go.Proofs.YtgjgjimgomhbmaaDoor
namespace Go.Proofs.YtgjgjimgomhbmaaDoor
open Go.RowKit
section
variable {P : Program} {ops : Array Oper} {Q : Exit → Act → World → Prop} {X : List (Nat × Nat)} {G : Nat → Value → World → Prop} {D : Nat → Nat → Value → Value → Prop} {a0 : Act} {w0 : World} {listed0 : Array Bool}
end
end Go.Proofs.YtgjgjimgomhbmaaDoor
namespace Go.Proofs.YtgjgjimgomhbmaaDoor
open Go.RowKit
section
variable {P : Program} {w : World} {ops : Array Oper} {rest : List Oper} {o : Oper} {a : Act} {Q : Exit → Act → World → Prop}
/-- The address of an element of a slice. -/
theorem iaRow {t e : TypeId} {z : Value} {size bytes b off n c : Nat} {kk : IntKind} {K : Int} (x y : Operand) (k : Nat) (T : SlTy P t e z size bytes) (hgd : Region.wanted o (yielded ops a.tmps) = true)
    (ho : o.op = .indexAddr t x y) (hx : a.eval x = .slice (some ⟨b, off, none⟩) n c) (hy : a.eval y = .int kk K) (hK : K = (k : Int)) (hk : k < n)
    (h : wpList P ops Q rest (a.put o.dst (.pointer (some ⟨b, off + k * size, none⟩))) w) : wpList P ops Q (o :: rest) a w := by
  subst hK
  obtain ⟨i, hi, hz0, hz1, hz2⟩ := info_parts T.inf
  refine opVal (v := .pointer (some ⟨b, off + k * size, none⟩)) hgd ?_ h
  have ht : P.underlying t = some (.slice (P.elem t)) := by rw [T.und]; simp [Program.elem, T.und]
  have he : P.elem t = e := by have := T.und; rw [this] at ht; injection ht with ht; injection ht with ht; exact ht.symm
  have hr := run_indexAt_slice (P := P) w t ⟨b, off, none⟩ n c kk (k : Int) ht
  rw [if_pos ⟨by omega, by omega⟩, he, Int.toNat_natCast] at hr
  unfold execOp
  simp only [ho, hx, hy, Sem.run_bind, Sem.run_pure]
  rw [hr]
  simp [sizeOf, typeInfo, hi, hz1, add_off]
end
theorem iaRowRun {P : Program} {w : World} {o : Oper} {a : Act} {t e : TypeId} {z : Value} {size bytes b off n c : Nat} {kk : IntKind} {K : Int} (x y : Operand) (k : Nat) (T : SlTy P t e z size bytes)
    (ho : o.op = .indexAddr t x y) (hx : a.eval x = .slice (some ⟨b, off, none⟩) n c) (hy : a.eval y = .int kk K) (hK : K = (k : Int)) (hk : k < n) : (execOp a.eval o).run P w = .ok (.value (.pointer (some ⟨b, off + k * size, none⟩))) w := by
  subst hK
  obtain ⟨i, hi, hz0, hz1, hz2⟩ := info_parts T.inf
  have ht : P.underlying t = some (.slice (P.elem t)) := by rw [T.und]; simp [Program.elem, T.und]
  have he : P.elem t = e := by have := T.und; rw [this] at ht; injection ht with ht; injection ht with ht; exact ht.symm
  have hr := run_indexAt_slice (P := P) w t ⟨b, off, none⟩ n c kk (k : Int) ht
  rw [if_pos ⟨by omega, by omega⟩, he, Int.toNat_natCast] at hr
  unfold execOp
  simp only [ho, hx, hy, Sem.run_bind, Sem.run_pure]
  rw [hr]
  simp [sizeOf, typeInfo, hi, hz1, add_off]
/-- A variable of a struct or array type is set; nothing else turns. -/
theorem stArrG {P : Program} {w : World} {ops : Array Oper} {rest : List Oper} {o : Oper} {a : Act} {Q : Exit → Act → World → Prop} {ty : TypeId} {n b : Nat} {z : Array Value} {cur cs : List Value} (x y : Operand) (T : AgTy P ty z n) (hgd : Region.wanted o (yielded ops a.tmps) = true) (ho : o.op = .store ty x y)
    (hx : a.eval x = .pointer (some ⟨b, 0, none⟩)) (hy : a.eval y = .agg cs.toArray) {t : TypeId} (hA : Arr w b t cur) (hs : cur.length = n) (hl : cs.length = n) (h1 : ∀ u ∈ cs, u.oneCell' = true)
    (h : ∀ w', Arr w' b t cs → w.grownBy w' (some b) → wpList P ops Q rest (a.put o.dst undef) w') : wpList P ops Q (o :: rest) a w := by
  refine wpList_want hgd fun K hK => ?_
  unfold Oper.wp execOp
  simp only [ho, hx, hy, Instr.storeAt, Instr.sureAddr, Sem.run_bind, Sem.run_pure, Result.andThen_ok, run_storeAgg T hA (by rw [List.size_toArray]; exact hs) (by rw [List.size_toArray]; exact hl) (by intro u hu; exact h1 u (by simpa using hu))]
  refine hK _ _ (h _ (hA.setRow cs) ⟨rfl, rfl, rfl, by simp [World.setRow], fun k hk hne => ?_⟩)
  unfold World.setRow
  have : b ≠ k := fun e => hne (by rw [e])
  simp [Array.getElem?_modify, this]
end Go.Proofs.YtgjgjimgomhbmaaDoor
