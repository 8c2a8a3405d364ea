/-
  hash.Of returns the first 16 bytes of the hash of its input.
-/
import Derived.Test.YthmhmjdppldmiaaDoorMac2
namespace Go.Proofs.YthmhmjdppldmiaaDoor
open Go.RowKit

def tagByte (tag : Int) : UInt8 := UInt8.ofNat (tag % 256).toNat
theorem tagByte_int (tag : Int) : ((tagByte tag).toNat : Int) = tag % 256 := by
  unfold tagByte
  rw [ofNat_toNat8 _ (by omega)]
  omega
def partsOf (l : List (List UInt8)) : List UInt8 := (l.map encS).flatten
def inputOf (tag : Int) (l : List (List UInt8)) : List UInt8 := tagByte tag :: partsOf l
def ofDig (tag : Int) (l : List (List UInt8)) : List UInt8 := (sha (inputOf tag l)).take 16
theorem ofDig_len (tag : Int) (l : List (List UInt8)) : (ofDig tag l).length = 16 := by unfold ofDig; rw [List.length_take, sha_len]; rfl
theorem partsOf_next {l : List (List UInt8)} {i : Nat} {p : List UInt8} (h : l[i]? = some p) : partsOf (l.take (i + 1)) = partsOf (l.take i) ++ encS p := by
  have hi := (List.getElem?_eq_some_iff.1 h).1
  have e : l[i] = p := by rw [List.getElem?_eq_getElem hi] at h; exact Option.some.inj h
  unfold partsOf
  rw [List.take_succ_eq_append_getElem hi, e]
  simp
theorem partsOf_le (l : List (List UInt8)) (i : Nat) : (partsOf (l.take i)).length ≤ (partsOf l).length := by
  have e : partsOf l = partsOf (l.take i) ++ partsOf (l.drop i) := by
    unfold partsOf
    rw [← List.flatten_append, ← List.map_append, List.take_append_drop]
  rw [e, List.length_append]; omega
theorem Tryd.arr_b16 : Tryd.prog.underlying 44 = some (.array 16 5) := by kernel_rfl
theorem zerosB16 : (zerosB 16).length = 16 := zerosB_len 16
theorem Tryd.ag_b16 : AgTy Tryd.prog 44 (zerosB 16).toArray 16 := ⟨by kernel_rfl, by kernel_rfl, by simp [zerosB]⟩

/-- A slice that reads as xs, whatever else is made. -/
def Reads (n : Nat) (xs : List Value) (v : Value) (w : World) : Prop := ∃ A c B, v = .slice A n c ∧ B ≤ w.heap.size ∧ Rd w B 1 A n c xs
theorem Reads.ext {n : Nat} {xs : List Value} {v : Value} {w w' : World} (h : Reads n xs v w) (hE : Ext w w') : Reads n xs v w' := by
  obtain ⟨A, c, B, h1, h2, h3⟩ := h
  exact ⟨A, c, B, h1, Nat.le_trans h2 hE.size, h3.below (hE.mono h2)⟩
/-- Block g holds a stream of message m. -/
def ArrStr (w : World) (g : Nat) (m : List UInt8) : Prop := ∃ blk, StrOK m blk ∧ Arr w g 34 (stCells (stOf m) blk m.length)
theorem ArrStr.below {w w' : World} {g B : Nat} {m : List UInt8} (h : ArrStr w g m) (hb : Below B w w') (hB : g < B) : ArrStr w' g m := by
  obtain ⟨blk, h1, h2⟩ := h
  exact ⟨blk, h1, h2.below hb hB⟩
theorem ArrStr.lt {w : World} {g : Nat} {m : List UInt8} (h : ArrStr w g m) : g < w.heap.size := by obtain ⟨_, _, h2⟩ := h; exact h2.lt
def GOf1 (B : Nat) (tb : UInt8) (i : Nat) (v : Value) (w : World) : Prop :=
  match i with
  | 0 => IsStr [] v
  | 3 => Reads 1 (bcs [tb]) v w
  | 4 => v = sv [tb]
  | 5 => IsStr [tb] v
  | 6 => ∃ g, v = .pointer (some ⟨g, 0, none⟩) ∧ Arr w g 34 zeros73 ∧ B ≤ g
  | _ => True

def GOf2 (m p : List UInt8) (i : Nat) (v : Value) (w : World) : Prop :=
  match i with
  | 0 => IsStr m v
  | 2 => Reads (encS p).length (bcs (encS p)) v w
  | 3 => v = sv (encS p)
  | 4 => IsStr (m ++ encS p) v
  | _ => True
set_option maxRecDepth 100000 in
set_option maxHeartbeats 2000000 in
theorem of_any (tag : Int) (l : List (List UInt8)) (A : Option Addr) (n c B : Nat) (w : World) (ht : Tabs w) (hr : Rd w B 1 A n c (l.map sv)) (hB : B ≤ w.heap.size) (hlen : (inputOf tag l).length ≤ 1000000000) (hlp : l.length ≤ 1000000000) :
    Calls Tryd.prog 21 #[.int .i64 tag, .slice A n c] w fun e w' => e = .returned (.agg (bcs (ofDig tag l)).toArray) ∧ Below w.heap.size w w' := by
  obtain rfl : l.length = n := by have := hr.len; simpa using this
  have htb := tagByte_int tag
  have HTB := Lib.hid htb
  have hin : inputOf tag l = [tagByte tag] ++ partsOf l := rfl
  have hdl := ofDig_len tag l
  have hod : ofDig tag l = (sha (inputOf tag l)).take 16 := rfl
  have HIN := Lib.hid hin
  have HDL := Lib.hid hdl
  have HOD := Lib.hid hod
  clear htb hin hdl hod
  generalize tagByte tag = tb at *
  generalize ofDig tag l = dig at *
  generalize inputOf tag l = inp at *
  go_enter Tryd.func21, Tryd.ntmps21
  go_wp2_with (with_reducible refine alArr (z := zerosB 16) Tryd.ag_b16 (wn rfl) rfl ?_)
  intro w1 h4 hb
  go_wp2_with fail
  refine aStart (by kernel_rfl) ?_
  replace h4 := h4.drew
  replace hb := hb.drew
  generalize w1.drew = wd at *
  refine aTake (i := 1) (v := .int .i64 tag) rfl (by kernel_rfl) (wn rfl) (fun _ _ _ h => h) (fun w => by kernel_rfl) ?_
  refine aTake (i := 2) (v := .int .u8 (tb.toNat : Int)) rfl (by kernel_rfl) (wn rfl) (fun _ _ _ h => h) (fun w => by rw [HTB.out]; go_simp; rw [IntKind.wrap_u8]) ?_
  refine rgFloat [(0, 9), (3, 12), (4, 13), (5, 14), (6, 5)] (GOf1 wd.heap.size tb) _ 1 rfl (by kernel_rfl) ?mono ?step ?fin
  case mono =>
    intro p hp v w w' h hE
    simp only [List.mem_cons, List.not_mem_nil, or_false] at hp
    rcases hp with rfl | rfl | rfl | rfl | rfl
    · exact h
    · exact Reads.ext h hE
    · exact h
    · exact h
    · obtain ⟨g, h1, h2, h3⟩ := h
      exact ⟨g, h1, h2.below hE h2.lt, h3⟩
  case step =>
    intro p hp
    simp only [List.mem_cons, List.not_mem_nil, or_false] at hp
    rcases hp with rfl | rfl | rfl | rfl | rfl
    · refine ⟨_, rfl, rfl, fun a w' hF hE hG => ?_⟩
      refine callOp 14 [] [] [] (by kernel_rfl) (wn rfl) rfl rfl rfl ?_
      refine (begin_any w').mono ?_
      rintro e w2 ⟨v, rfl, hv, hbv⟩
      exact ⟨v, rfl, ⟨v, rfl, hbv, hv⟩⟩
    · refine ⟨_, rfl, rfl, fun a w' hF hE hG => ?_⟩
      have hx : a.eval (.tmp 11) = bc tb := (hF.eval 11 (by kernel_rfl)).trans (by kernel_rfl)
      refine bsRow [bc tb] Tryd.sl_u8 (wn rfl) rfl (by rw [Array.toList_map]; show [(0, a.eval (.tmp 11))] = _; rw [hx]; rfl) rfl (by omega) (by omega) (by intro v hv; rw [List.mem_singleton.1 hv]; rfl) ?_
      intro A5 w5 hrd hb5
      exact ⟨_, rfl, hb5, A5, 1, _, rfl, Nat.le_refl _, hrd⟩
    · refine ⟨_, rfl, rfl, fun a w' hF hE hG => ?_⟩
      obtain ⟨A5, c5, B5, q1, q2, hrd⟩ : Reads 1 (bcs [tb]) (a.tmps.getD 12 undef) w' := hG (3, 12) (by simp) (by kernel_rfl)
      refine convStr (.tmp 12) [tb] Tryd.sl_u8.und Tryd.und_u8 Tryd.und_str (wn rfl) rfl q1 hrd ?_
      exact ⟨_, rfl, Below.refl _ _, rfl⟩
    · refine ⟨_, rfl, rfl, fun a w' hF hE hG => ?_⟩
      have g1 : IsStr [] (a.tmps.getD 9 undef) := hG (0, 9) (by simp) (by kernel_rfl)
      have g2 : a.tmps.getD 13 undef = sv [tb] := hG (4, 13) (by simp) (by kernel_rfl)
      refine callOp 15 [a.tmps.getD 9 undef, sv [tb]] [] [] (by kernel_rfl) (wn rfl) rfl rfl (by rw [← g2]; rfl) ?_
      refine (add_any [] [tb] _ w' (ht.below (hb.trans (hE.mono hb.size)) ht.size) g1 (by simp)).mono ?_
      rintro e w2 ⟨v, rfl, hv, hbv⟩
      exact ⟨v, rfl, ⟨v, rfl, hbv, hv⟩⟩
    · refine ⟨_, rfl, rfl, fun a w' hF hE hG => ?_⟩
      refine alArr (z := zeros73) Tryd.ag_str (wn rfl) rfl fun w2 hA hb2 => ?_
      exact ⟨_, rfl, hb2, _, rfl, hA, hE.size⟩
  case fin =>
    intro a wf hF hE hG
    obtain ⟨blk, hok, q7⟩ : IsStr [tb] (a.tmps.getD 14 undef) := hG (5, 14) (by simp)
    obtain ⟨g5, q8, h5, hg5⟩ := hG (6, 5) (by simp)
    have n45 : w.heap.size ≠ g5 := by have := h4.lt; omega
    replace h4 := h4.below hE h4.lt
    have hsz := hb.size
    replace hb := hb.trans (hE.mono hb.size)
    rw [hF.eq]
    simp only [putsX]
    rw [q7, q8]
    generalize a.tmps.getD 9 undef = x9
    generalize a.tmps.getD 12 undef = x12
    generalize a.tmps.getD 13 undef = x13
    clear hG hF hE
    refine aNext (i := 7) (by kernel_rfl) rfl ?_
    refine stArr (b := g5) (cs := stCells (stOf [tb]) blk [tb].length) (.tmp 5) (.tmp 14) Tryd.ag_str (wn rfl) rfl (by kernel_rfl) (by kernel_rfl) h5 zeros73_len (stCells_len _ _ hok.len) (stCells_one _ _ _) ?_
    intro w2 h5 hkeep hbel
    replace h4 := hkeep _ _ _ n45 h4
    replace hb := hb.trans (hbel _ (by omega))
    clear hkeep hbel
    have hS : ArrStr w2 g5 ([tb] ++ partsOf (l.take 0)) := ⟨blk, hok, h5⟩
    refine aDone (by kernel_rfl) ?_
    simp only [Act.put, List.setIfInBounds_toArray, List.set_cons_succ, List.set_cons_zero]
    clear h5 hok
    have hbg : w.heap.size ≤ g5 := by omega
    go_wp2_with fail
    go_loopw [17] (fun iv_ wr => ∃ i : Nat, i ≤ l.length ∧ iv_ = .int .i64 i ∧ ArrStr wr g5 ([tb] ++ partsOf (l.take i)) ∧ Arr wr w.heap.size 44 (zerosB 16) ∧ Below w.heap.size w wr) (fun iv_ _ => l.length - (intOf iv_).toNat)
    case atStart => exact ⟨0, by omega, rfl, hS, h4, hb⟩
    case round =>
      clear hS h4 hb hg5 hsz
      obtain ⟨i, hi, rfl, hS, h4, hb⟩ := hrel
      have hpl : ([tb] ++ partsOf (l.take i)).length ≤ 1000000000 := by
        have h1 := partsOf_le l i
        have h2 := hlen
        rw [HIN.out] at h2
        rw [List.length_append] at h2 ⊢
        omega
      by_cases hlt : i < l.length
      · obtain ⟨b, off, u, rfl, hbB, hu, hcell⟩ := (hr.below (hb.mono hB)).at1 hlt
        obtain ⟨p, hp, rfl⟩ : ∃ p : List UInt8, l[i]? = some p ∧ u = .string ⟨p.toArray⟩ := by
          rw [List.getElem?_map] at hu
          obtain ⟨x, hx, hxu⟩ := Option.map_eq_some_iff.1 hu
          exact ⟨x, hx, hxu.symm⟩
        have hnx := partsOf_next hp
        have hpl2 : ([tb] ++ partsOf (l.take i) ++ encS p).length ≤ 1000000000 := by
          have h1 := partsOf_le l (i + 1)
          rw [hnx] at h1
          have h2 := hlen
          rw [HIN.out] at h2
          rw [List.length_append] at h2 h1
          rw [List.length_append, List.length_append]
          omega
        have hpp : p.length ≤ 1000000000 := by
          have : p.length ≤ (encS p).length := by unfold encS; rw [List.length_append]; omega
          rw [List.length_append] at hpl2
          omega
        have HNX := Lib.hid hnx
        clear hnx hp hu
        generalize hmi : [tb] ++ partsOf (l.take i) = m at *
        have HMI := Lib.hid hmi
        clear hmi
        obtain ⟨blk, hok, h5⟩ := hS
        go_wp2_with fail
        refine aStart (by kernel_rfl) ?_
        replace h4 := h4.drew
        replace h5 := h5.drew
        replace hb := hb.drew
        clear hcell
        generalize wr.drew = wd at *
        refine aTake (i := 1) (v := sv p) rfl (by kernel_rfl) (wn rfl) (fun _ _ _ h => h) (fun w => by kernel_rfl) ?_
        refine rgFloat [(0, 21), (2, 23), (3, 24), (4, 25)] (GOf2 m p) _ 1 rfl (by kernel_rfl) ?mono ?step ?fin
        case mono =>
          intro q hq v w w' h hE
          simp only [List.mem_cons, List.not_mem_nil, or_false] at hq
          rcases hq with rfl | rfl | rfl | rfl
          · exact h
          · exact Reads.ext h hE
          · exact h
          · exact h
        case step =>
          intro q hq
          simp only [List.mem_cons, List.not_mem_nil, or_false] at hq
          rcases hq with rfl | rfl | rfl | rfl
          · refine ⟨_, rfl, rfl, fun a w' hF hE hG => ?_⟩
            refine ldArr (b := g5) (.tmp 5) Tryd.ag_str (wn rfl) rfl ((hF.eval 5 (by kernel_rfl)).trans (by kernel_rfl)) (stCells_len _ _ hok.len) (h5.below hE h5.lt) ?_
            exact ⟨_, rfl, Below.refl _ _, blk, hok, rfl⟩
          · refine ⟨_, rfl, rfl, fun a w' hF hE hG => ?_⟩
            refine callOp 33 [sv p] [] [] (by kernel_rfl) (wn rfl) rfl rfl (by show [a.eval (.tmp 22)] = _; rw [hF.eval 22 (by kernel_rfl)]; kernel_rfl) ?_
            refine (bytes_any p w' (by omega)).mono ?_
            rintro e w2 hret
            obtain ⟨A5, c5, rfl, _, hrd, hb2⟩ := hret.open
            exact ⟨_, rfl, ⟨_, rfl, hb2, A5, c5, _, rfl, Nat.le_refl _, hrd⟩⟩
          · refine ⟨_, rfl, rfl, fun a w' hF hE hG => ?_⟩
            obtain ⟨A5, c5, B5, q1, q2, hrd⟩ : Reads (encS p).length (bcs (encS p)) (a.tmps.getD 23 undef) w' := hG (2, 23) (by simp) (by kernel_rfl)
            refine convStr (.tmp 23) (encS p) Tryd.sl_u8.und Tryd.und_u8 Tryd.und_str (wn rfl) rfl q1 hrd ?_
            exact ⟨_, rfl, Below.refl _ _, rfl⟩
          · refine ⟨_, rfl, rfl, fun a w' hF hE hG => ?_⟩
            have g1 : IsStr m (a.tmps.getD 21 undef) := hG (0, 21) (by simp) (by kernel_rfl)
            have g2 : a.tmps.getD 24 undef = sv (encS p) := hG (3, 24) (by simp) (by kernel_rfl)
            refine callOp 15 [a.tmps.getD 21 undef, sv (encS p)] [] [] (by kernel_rfl) (wn rfl) rfl rfl (by rw [← g2]; rfl) ?_
            refine (add_any m (encS p) _ w' (ht.below (hb.trans (hE.mono hb.size)) ht.size) g1 (by rw [List.length_append] at hpl2; omega)).mono ?_
            rintro e w2 ⟨v, rfl, hv, hbv⟩
            exact ⟨v, rfl, ⟨v, rfl, hbv, hv⟩⟩
        case fin =>
          intro a wf hF hE hG
          obtain ⟨blk2, hok2, q7⟩ : IsStr (m ++ encS p) (a.tmps.getD 25 undef) := hG (4, 25) (by simp)
          replace h4 := h4.below hE h4.lt
          replace h5 := h5.below hE h5.lt
          replace hb := hb.trans (hE.mono hb.size)
          rw [hF.eq]
          simp only [putsX]
          rw [q7]
          generalize a.tmps.getD 21 undef = x21
          generalize a.tmps.getD 23 undef = x23
          generalize a.tmps.getD 24 undef = x24
          clear hG hF hE
          refine aNext (i := 5) (by kernel_rfl) rfl ?_
          refine stArr (b := g5) (cs := stCells (stOf (m ++ encS p)) blk2 (m ++ encS p).length) (.tmp 5) (.tmp 25) Tryd.ag_str (wn rfl) rfl (by kernel_rfl) (by kernel_rfl) h5 (stCells_len _ _ hok.len) (stCells_len _ _ hok2.len) (stCells_one _ _ _) ?_
          intro w2 h5 hkeep hbel
          replace h4 := hkeep _ _ _ n45 h4
          replace hb := hb.trans (hbel _ hbg)
          clear hkeep hbel
          refine aDone (by kernel_rfl) ?_
          simp only [Act.put, List.setIfInBounds_toArray, List.set_cons_succ, List.set_cons_zero]
          have hS : ArrStr w2 g5 ([tb] ++ partsOf (l.take (i + 1))) := by
            rw [HNX.out, ← List.append_assoc, HMI.out]
            exact ⟨blk2, hok2, h5⟩
          clear h5 hok hok2
          go_wp2_with fail
          go_roundw
          case rel => exact ⟨i + 1, by omega, by go_num, hS, h4, hb⟩
          case measure => (simp [intOf]; try omega)
      · obtain rfl : i = l.length := by omega
        rw [List.take_of_length_le (Nat.le_refl _), ← HIN.out] at hS
        obtain ⟨blk, hok, h5⟩ := hS
        clear hpl hlt
        have hsha := sha_len (inp)
        have HSL := Lib.hid (show (bcs (sha (inp))).length = 32 by rw [bcs_length]; exact hsha)
        have hpre : ∀ (j : Nat) (u : Value), (bcs (dig))[j]? = some u → (bcs (sha (inp)))[j]? = some u := by
          intro j u hu
          rw [HOD.out] at hu
          have hj : j < 16 := by have := (List.getElem?_eq_some_iff.1 hu).1; rw [bcs_length, List.length_take] at this; omega
          unfold bcs at hu ⊢
          rw [List.map_take, List.getElem?_take, if_pos hj] at hu
          exact hu
        have HPRE := Lib.hid hpre
        have HDB := Lib.hid (show (bcs (dig)).length = 16 by rw [bcs_length]; exact HDL.out)
        clear hsha hpre
        go_wp2_with (with_reducible refine ldArr (.tmp 5) Tryd.ag_str (wn rfl) rfl rfl (stCells_len _ _ hok.len) h5 ?_)
        refine (strSum_any inp _ wr (ht.below hb ht.size) ⟨blk, hok, rfl⟩ (by omega)).mono ?_
        rintro e w2 ⟨rfl, hb2⟩
        replace h4 := h4.below hb2 h4.lt
        replace hb := hb.trans (hb2.mono hb.size)
        clear hb2 h5 hok
        go_wp2_with (with_reducible refine alArr (z := zerosB 32) Tryd.ag_b32 (wn rfl) rfl ?_)
        intro w3 h8 hb3
        have h48 := h4.lt
        replace h4 := h4.below hb3 h4.lt
        replace hb := hb.trans (hb3.mono hb.size)
        clear hb3
        generalize w2.heap.size = g8 at *
        go_wp2_with (with_reducible refine stArr (cs := bcs (sha inp)) (.tmp 8) (.tmp 28) Tryd.ag_b32 (wn rfl) rfl rfl rfl h8 (zerosB_len _) HSL.out (bcs_one _) ?_)
        intro w4 h8 hkeep hbel
        replace h4 := hkeep _ _ _ (by omega) h4
        replace hb := hb.trans (hbel _ (by omega))
        clear hkeep hbel
        go_wp2_with (first | (with_reducible refine saPtr (.tmp 29) Tryd.arr_b16 (wn rfl) rfl rfl (by omega) ?_) | (with_reducible refine ldAgg (b := g8) (off := 0) (.tmp 30) (bcs dig) Tryd.ag_b16 (wn rfl) rfl rfl HDB.out (fun j u hu => by rw [Nat.zero_add]; exact h8.cell (HPRE.out j u hu)) ?_) | (with_reducible refine stArr (cs := bcs dig) (.tmp 4) (.tmp 31) Tryd.ag_b16 (wn rfl) rfl rfl rfl h4 (zerosB_len _) HDB.out (bcs_one _) ?_))
        intro w5 h4 hkeep hbel
        go_wp2_with fail
        refine bodyPost_ret (v := .agg (bcs dig).toArray) ?_ rfl ⟨rfl, hb.trans (hbel _ (by omega))⟩
        exact res_cell1 (bcs dig) Tryd.results21 Tryd.ag_b16 _ rfl HDB.out (fun j u hu => by rw [Nat.zero_add]; exact h4.cell hu)
end Go.Proofs.YthmhmjdppldmiaaDoor
