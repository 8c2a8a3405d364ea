/-
  HashStreamsAgree answers true.
-/
import Derived.Test.YthmhmjdppldmiaaDoorHashOfMatchesSpec
import Derived.Test.YthmhmjdppldmiaaDoorLdStr
import Derived.Test.YthmhmjdppldmiaaDoorTwo
namespace Go.Proofs.YthmhmjdppldmiaaDoor
open Go.RowKit

theorem rd_cell {w : World} {B b off n c i : Nat} {xs : List Value} {v : Value} (h : Rd w B 1 (some ⟨b, off, none⟩) n c xs) (hi : i < n) (hv : xs[i]? = some v) : w.cell? ⟨b, off + i, none⟩ = some v := by
  obtain ⟨b', off', e, _, hc⟩ := h.cells (by omega)
  injection e with e
  injection e with e1 e2 e3
  subst e1; subst e2
  exact hc i v hv
theorem ArrStr.drew {w : World} {g : Nat} {m : List UInt8} (h : ArrStr w g m) : ArrStr w.drew g m := h
set_option maxRecDepth 100000 in
set_option maxHeartbeats 4000000 in
theorem walk_HashStreamsAgree (l : List (List UInt8)) (A : Option Addr) (n c : Nat) (o : List UInt8) (x : Int) (w : World) (ht : Tabs w) (htr : TabsR w) (hr : Rd w w.heap.size 1 A n c (l.map sv)) (hn : n ≤ 140737488351232) (_hg : ∀ y ∈ l, y.length ≤ 140737488351232) (_ho : o.length ≤ 140737488351232) (hx : 0 ≤ x ∧ x ≤ 255) :
    Calls Tryd.prog 4 #[.slice A n c, sv o, .int .u8 x] w (RetB w true) := by
  have hs := sanity_any w ht
  obtain rfl : l.length = n := by have := hr.len; simpa using this
  by_cases hf : few12 l = true
  · obtain ⟨hl12, hall⟩ := few12_parts hf
    have hfl := flat_bound l hall
    by_cases ho4 : o.length ≤ 400
    · unfold sv
      go_enter Tryd.func4, Tryd.ntmps4
      go_wp2_with fail
      refine hs.mono ?_
      rintro e w1 ⟨rfl, hb⟩
      have hfew := few_any l A _ c _ w1 (hr.below hb) hb.size hn
      rw [hf] at hfew
      go_wp2_with fail
      refine hfew.mono ?_
      rintro e w2 ⟨rfl, hb2⟩
      replace hb := hb.trans (hb2.mono hb.size)
      clear hb2 hfew
      go_wp2_with fail
      have k1 := Int.emod_nonneg x (show ((l.length : Int) + 1) ≠ 0 by omega)
      have k2 := Int.emod_lt_of_pos x (show (0 : Int) < (l.length : Int) + 1 by omega)
      generalize x % ((l.length : Int) + 1) = kk at *
      obtain ⟨K, rfl⟩ : ∃ K : Nat, kk = (K : Int) := ⟨kk.toNat, by omega⟩
      have hK : K ≤ l.length := by omega
      clear k1 k2
      refine (begin_any _).mono ?_
      rintro e w3 ⟨v1, rfl, ⟨blk, hok, rfl⟩, hb3⟩
      replace hb := hb.trans (hb3.mono hb.size)
      clear hb3
      go_wp2_with (with_reducible refine alArr (z := zeros73) Tryd.ag_str (wn rfl) rfl ?_)
      intro w5 h9 hb5
      have g09 := hb.size
      replace hb := hb.trans (hb5.mono hb.size)
      clear hb5
      generalize w3.heap.size = g9 at *
      go_wp2_with (with_reducible refine stArr (cs := stCells (stOf []) blk ([] : List UInt8).length) (.tmp 9) (.tmp 32) Tryd.ag_str (wn rfl) rfl rfl rfl h9 zeros73_len (stCells_len _ _ hok.len) (stCells_one _ _ _) ?_)
      intro w6 h9 hkeep hbel
      replace hb := hb.trans (hbel _ g09)
      clear hkeep hbel
      have hS : ArrStr w6 g9 ((l.take 0).flatten) := ⟨blk, hok, h9⟩
      clear h9 hok
      go_wp2_with fail
      go_loopw [10] (fun iv_ wr => ∃ i : Nat, 0 ≤ i ∧ i ≤ K ∧ iv_ = .int .i64 i ∧ ArrStr wr g9 ((l.take i).flatten) ∧ Below w.heap.size w wr) (fun iv_ _ => K - (intOf iv_).toNat)
      case atStart => exact ⟨0, by omega, by omega, rfl, hS, hb⟩
      case round =>
        clear hS hb
        obtain ⟨i, hlo, hi, rfl, hS, hb⟩ := hrel
        by_cases hlt : i < K
        · have hil : i < l.length := by omega
          obtain ⟨b, off, u, rfl, hbB, hu, hcell⟩ := (hr.below hb).at1 hil
          obtain ⟨p, hp, rfl⟩ : ∃ p : List UInt8, l[i]? = some p ∧ u = .string ⟨p.toArray⟩ := by
            rw [List.getElem?_map] at hu
            obtain ⟨y, hy, hyu⟩ := Option.map_eq_some_iff.1 hu
            exact ⟨y, hy, hyu.symm⟩
          have HC : ∀ w' : World, Below w.heap.size w w' → w'.cell? ⟨b, off + i, none⟩ = some (.string ⟨p.toArray⟩) := fun w' h => rd_cell (hr.below h) hil (by rw [List.getElem?_map, hp]; rfl)
          have hnx := flat_next hp
          have HNX := Lib.hid hnx
          have hle := flat_le l (i + 1)
          have hsum : (l.take i).flatten.length + p.length ≤ 1000000 := by rw [← hnx, List.length_append] at hle; omega
          clear hnx hp hu hle
          generalize hm : (l.take i).flatten = m at *
          clear hm
          obtain ⟨blk, hok, h9⟩ := hS
          go_wp2_with fail
          refine aStart (by kernel_rfl) ?_
          replace h9 := h9.drew
          replace hb := hb.drew
          have hcell : wr.drew.cell? ⟨b, off + i, none⟩ = some (.string ⟨p.toArray⟩) := hcell
          generalize wr.drew = wd at *
          refine aTake (i := 1) (v := .slice (some ⟨b, off, none⟩) l.length c) rfl (by kernel_rfl) (wn rfl) (fun _ _ _ h => h) (fun w => by kernel_rfl) ?_
          refine aTake (i := 2) (v := .int .i64 (i : Int)) rfl (by kernel_rfl) (wn rfl) (fun _ _ _ h => h) (fun w => by kernel_rfl) ?_
          refine aTake (i := 3) (v := .pointer (some ⟨b, off + i, none⟩)) rfl (by kernel_rfl) (wn rfl) (fun _ _ _ h => h) (fun w => by go_simp) ?_
          refine rgFloat [(0, 38), (4, 42), (5, 43)] (GAdd m p) _ 1 rfl (by kernel_rfl) ?mono ?step ?fin
          case mono =>
            intro q hq v w w' h hE
            simp only [List.mem_cons, List.not_mem_nil, or_false] at hq
            rcases hq with rfl | rfl | rfl <;> exact h
          case step =>
            intro q hq
            simp only [List.mem_cons, List.not_mem_nil, or_false] at hq
            rcases hq with rfl | rfl | rfl
            · refine ⟨_, rfl, rfl, fun a w' hF hE hG => ?_⟩
              refine ldArr (b := g9) (.tmp 9) Tryd.ag_str (wn rfl) rfl ((hF.eval 9 (by kernel_rfl)).trans (by kernel_rfl)) (stCells_len _ _ hok.len) (h9.below hE h9.lt) ?_
              exact ⟨_, rfl, Below.refl _ _, blk, hok, rfl⟩
            · refine ⟨_, rfl, rfl, fun a w' hF hE hG => ?_⟩
              refine ldStr (p := ⟨b, off + i, none⟩) (v := sv p) (.tmp 41) Tryd.und_str (wn rfl) rfl ((hF.eval 41 (by kernel_rfl)).trans (by kernel_rfl)) (HC w' (hb.trans (hE.mono hb.size))) ?_
              exact ⟨_, rfl, Below.refl _ _, rfl⟩
            · refine ⟨_, rfl, rfl, fun a w' hF hE hG => ?_⟩
              have g1 : IsStr m (a.tmps.getD 38 undef) := hG (0, 38) (by simp) (by kernel_rfl)
              have g2 : a.tmps.getD 42 undef = sv p := hG (4, 42) (by simp) (by kernel_rfl)
              refine callOp 15 [a.tmps.getD 38 undef, sv p] [] [] (by kernel_rfl) (wn rfl) rfl rfl (by rw [← g2]; rfl) ?_
              refine (add_any m p _ w' (ht.below (hb.trans (hE.mono hb.size)) ht.size) g1 (by omega)).mono ?_
              rintro e w2 ⟨v, rfl, hv, hbv⟩
              exact ⟨v, rfl, ⟨v, rfl, hbv, hv⟩⟩
          case fin =>
            intro a wf hF hE hG
            obtain ⟨blk2, hok2, q7⟩ : IsStr (m ++ p) (a.tmps.getD 43 undef) := hG (5, 43) (by simp)
            replace h9 := h9.below hE h9.lt
            replace hb := hb.trans (hE.mono hb.size)
            rw [hF.eq]
            simp only [putsX]
            rw [q7]
            generalize a.tmps.getD 38 undef = x0
            generalize a.tmps.getD 42 undef = x4
            clear hG hF hE
            refine aNext (i := 6) (by kernel_rfl) rfl ?_
            refine stArr (b := g9) (cs := stCells (stOf (m ++ p)) blk2 (m ++ p).length) (.tmp 9) (.tmp 43) Tryd.ag_str (wn rfl) rfl (by kernel_rfl) (by kernel_rfl) h9 (stCells_len _ _ hok.len) (stCells_len _ _ hok2.len) (stCells_one _ _ _) ?_
            intro w2 h9 hkeep hbel
            replace hb := hb.trans (hbel _ g09)
            clear hkeep hbel
            refine aDone (by kernel_rfl) ?_
            simp only [Act.put, List.setIfInBounds_toArray, List.set_cons_succ, List.set_cons_zero]
            have hS : ArrStr w2 g9 ((l.take (i + 1)).flatten) := by rw [← HNX.out]; exact ⟨blk2, hok2, h9⟩
            clear h9 hok hok2
            go_wp2_with fail
            go_roundw
            case rel => exact ⟨i + 1, by omega, by omega, by go_num, hS, hb⟩
            case measure => (simp [intOf]; try omega)
        · obtain rfl : K = i := by omega
          have hKf := flat_le l K
          generalize hHd : (l.take K).flatten = hd at *
          have HHD := Lib.hid hHd
          clear hHd
          obtain ⟨blk, hok, h9⟩ := hS
          go_wp2_with (first | (with_reducible refine ldArr (.tmp 9) Tryd.ag_str (wn rfl) rfl rfl (stCells_len _ _ hok.len) h9 ?_) | (with_reducible refine alArr (z := zeros73) Tryd.ag_str (wn rfl) rfl ?_))
          intro w7 h11 hb7
          have n911 := h9.lt
          have g011 := hb.size
          replace h9 := h9.below hb7 h9.lt
          replace hb := hb.trans (hb7.mono hb.size)
          clear hb7
          generalize wr.heap.size = g11 at *
          go_wp2_with (with_reducible refine stArr (cs := stCells (stOf hd) blk hd.length) (.tmp 11) (.tmp 44) Tryd.ag_str (wn rfl) rfl rfl rfl h11 zeros73_len (stCells_len _ _ hok.len) (stCells_one _ _ _) ?_)
          intro w8 h11 hkeep hbel
          replace h9 := hkeep _ _ _ (by omega) h9
          replace hb := hb.trans (hbel _ g011)
          clear hkeep hbel
          have hS : ArrStr w8 g9 ((l.take K).flatten) := by rw [HHD.out]; exact ⟨blk, hok, h9⟩
          have h11 : ArrStr w8 g11 hd := ⟨blk, hok, h11⟩
          clear h9 hok
          go_wp2_with fail
          go_loopw [12] (fun iv_ wr => ∃ i : Nat, K ≤ i ∧ i ≤ l.length ∧ iv_ = .int .i64 i ∧ ArrStr wr g9 ((l.take i).flatten) ∧ ArrStr wr g11 hd ∧ Below w.heap.size w wr) (fun iv_ _ => l.length - (intOf iv_).toNat)
          case atStart => exact ⟨K, by omega, by omega, rfl, hS, h11, hb⟩
          case round =>
            clear hS hb h11
            obtain ⟨i, hlo, hi, rfl, hS, h11, hb⟩ := hrel
            by_cases hlt : i < l.length
            · have hil : i < l.length := by omega
              obtain ⟨b, off, u, rfl, hbB, hu, hcell⟩ := (hr.below hb).at1 hil
              obtain ⟨p, hp, rfl⟩ : ∃ p : List UInt8, l[i]? = some p ∧ u = .string ⟨p.toArray⟩ := by
                rw [List.getElem?_map] at hu
                obtain ⟨y, hy, hyu⟩ := Option.map_eq_some_iff.1 hu
                exact ⟨y, hy, hyu.symm⟩
              have HC : ∀ w' : World, Below w.heap.size w w' → w'.cell? ⟨b, off + i, none⟩ = some (.string ⟨p.toArray⟩) := fun w' h => rd_cell (hr.below h) hil (by rw [List.getElem?_map, hp]; rfl)
              have hnx := flat_next hp
              have HNX := Lib.hid hnx
              have hle := flat_le l (i + 1)
              have hsum : (l.take i).flatten.length + p.length ≤ 1000000 := by rw [← hnx, List.length_append] at hle; omega
              clear hnx hp hu hle
              generalize hm : (l.take i).flatten = m at *
              clear hm
              obtain ⟨blk, hok, h9⟩ := hS
              go_wp2_with fail
              refine aStart (by kernel_rfl) ?_
              replace h9 := h9.drew
              replace hb := hb.drew
              have hcell : wr.drew.cell? ⟨b, off + i, none⟩ = some (.string ⟨p.toArray⟩) := hcell
              replace h11 := h11.drew
              generalize wr.drew = wd at *
              refine aTake (i := 1) (v := .slice (some ⟨b, off, none⟩) l.length c) rfl (by kernel_rfl) (wn rfl) (fun _ _ _ h => h) (fun w => by kernel_rfl) ?_
              refine aTake (i := 2) (v := .int .i64 (i : Int)) rfl (by kernel_rfl) (wn rfl) (fun _ _ _ h => h) (fun w => by kernel_rfl) ?_
              refine aTake (i := 3) (v := .pointer (some ⟨b, off + i, none⟩)) rfl (by kernel_rfl) (wn rfl) (fun _ _ _ h => h) (fun w => by go_simp) ?_
              refine rgFloat [(0, 52), (4, 56), (5, 57)] (GAdd m p) _ 1 rfl (by kernel_rfl) ?mono ?step ?fin
              case mono =>
                intro q hq v w w' h hE
                simp only [List.mem_cons, List.not_mem_nil, or_false] at hq
                rcases hq with rfl | rfl | rfl <;> exact h
              case step =>
                intro q hq
                simp only [List.mem_cons, List.not_mem_nil, or_false] at hq
                rcases hq with rfl | rfl | rfl
                · refine ⟨_, rfl, rfl, fun a w' hF hE hG => ?_⟩
                  refine ldArr (b := g9) (.tmp 9) Tryd.ag_str (wn rfl) rfl ((hF.eval 9 (by kernel_rfl)).trans (by kernel_rfl)) (stCells_len _ _ hok.len) (h9.below hE h9.lt) ?_
                  exact ⟨_, rfl, Below.refl _ _, blk, hok, rfl⟩
                · refine ⟨_, rfl, rfl, fun a w' hF hE hG => ?_⟩
                  refine ldStr (p := ⟨b, off + i, none⟩) (v := sv p) (.tmp 55) Tryd.und_str (wn rfl) rfl ((hF.eval 55 (by kernel_rfl)).trans (by kernel_rfl)) (HC w' (hb.trans (hE.mono hb.size))) ?_
                  exact ⟨_, rfl, Below.refl _ _, rfl⟩
                · refine ⟨_, rfl, rfl, fun a w' hF hE hG => ?_⟩
                  have g1 : IsStr m (a.tmps.getD 52 undef) := hG (0, 52) (by simp) (by kernel_rfl)
                  have g2 : a.tmps.getD 56 undef = sv p := hG (4, 56) (by simp) (by kernel_rfl)
                  refine callOp 15 [a.tmps.getD 52 undef, sv p] [] [] (by kernel_rfl) (wn rfl) rfl rfl (by rw [← g2]; rfl) ?_
                  refine (add_any m p _ w' (ht.below (hb.trans (hE.mono hb.size)) ht.size) g1 (by omega)).mono ?_
                  rintro e w2 ⟨v, rfl, hv, hbv⟩
                  exact ⟨v, rfl, ⟨v, rfl, hbv, hv⟩⟩
              case fin =>
                intro a wf hF hE hG
                obtain ⟨blk2, hok2, q7⟩ : IsStr (m ++ p) (a.tmps.getD 57 undef) := hG (5, 57) (by simp)
                replace h9 := h9.below hE h9.lt
                replace h11 := h11.below hE h11.lt
                replace hb := hb.trans (hE.mono hb.size)
                rw [hF.eq]
                simp only [putsX]
                rw [q7]
                generalize a.tmps.getD 52 undef = x0
                generalize a.tmps.getD 56 undef = x4
                clear hG hF hE
                refine aNext (i := 6) (by kernel_rfl) rfl ?_
                refine stArr (b := g9) (cs := stCells (stOf (m ++ p)) blk2 (m ++ p).length) (.tmp 9) (.tmp 57) Tryd.ag_str (wn rfl) rfl (by kernel_rfl) (by kernel_rfl) h9 (stCells_len _ _ hok.len) (stCells_len _ _ hok2.len) (stCells_one _ _ _) ?_
                intro w2 h9 hkeep hbel
                obtain ⟨bk_h11, ok_h11, ha_h11⟩ := h11
                replace ha_h11 := hkeep _ _ _ (by omega) ha_h11
                have h11 : ArrStr w2 _ _ := ⟨bk_h11, ok_h11, ha_h11⟩
                replace hb := hb.trans (hbel _ g09)
                clear hkeep hbel
                refine aDone (by kernel_rfl) ?_
                simp only [Act.put, List.setIfInBounds_toArray, List.set_cons_succ, List.set_cons_zero]
                have hS : ArrStr w2 g9 ((l.take (i + 1)).flatten) := by rw [← HNX.out]; exact ⟨blk2, hok2, h9⟩
                clear h9 hok hok2
                go_wp2_with fail
                go_roundw
                case rel => exact ⟨i + 1, by omega, by omega, by go_num, hS, h11, hb⟩
                case measure => (simp [intOf]; try omega)
            · obtain rfl : i = l.length := by omega
              rw [List.take_length] at hS
              obtain ⟨blk, hok, h9⟩ := hS
              obtain ⟨blk11, hok11, hA11⟩ := h11
              have q1 := add_any hd o _ wr (ht.below hb ht.size) ⟨blk11, hok11, rfl⟩ (by omega)
              obtain ⟨fk, hfk⟩ : ∃ fk, hd ++ o = fk := ⟨_, rfl⟩
              have HFK := Lib.hid hfk
              have fkl : fk.length ≤ 1000400 := by rw [← hfk, List.length_append]; omega
              rw [hfk] at q1
              clear hfk
              have q2 := fun w' h => joined_any l A _ c _ w' (hr.below (w' := w') h) h.size (by omega) (by omega)
              generalize hFl : l.flatten = fl at *
              have HFL := Lib.hid hFl
              clear hFl
              unfold sv at q1
              go_wp2_with (with_reducible refine ldArr (.tmp 11) Tryd.ag_str (wn rfl) rfl rfl (stCells_len _ _ hok11.len) hA11 ?_)
              refine q1.mono ?_
              rintro e w9 ⟨v3, rfl, ⟨blk13, hok13, rfl⟩, hb9⟩
              clear q1
              replace h9 := h9.below hb9 h9.lt
              replace hA11 := hA11.below hb9 hA11.lt
              replace hb := hb.trans (hb9.mono hb.size)
              clear hb9
              go_wp2_with (with_reducible refine alArr (z := zeros73) Tryd.ag_str (wn rfl) rfl ?_)
              intro w10 h13 hb10
              have n9 := h9.lt
              have n11 := hA11.lt
              have g13s := hb.size
              replace h9 := h9.below hb10 h9.lt
              replace hA11 := hA11.below hb10 hA11.lt
              replace hb := hb.trans (hb10.mono hb.size)
              clear hb10
              generalize w9.heap.size = g13 at *
              go_wp2_with (with_reducible refine stArr (cs := stCells (stOf fk) blk13 fk.length) (.tmp 13) (.tmp 60) Tryd.ag_str (wn rfl) rfl rfl rfl h13 zeros73_len (stCells_len _ _ hok13.len) (stCells_one _ _ _) ?_)
              intro w11 h13 hkeep hbel
              replace h9 := hkeep _ _ _ (by omega) h9
              replace hA11 := hkeep _ _ _ (by omega) hA11
              replace hb := hb.trans (hbel _ (by omega))
              clear hkeep hbel
              go_wp2_with fail
              refine (q2 w11 hb).mono ?_
              rintro e w12 ⟨rfl, hb12⟩
              replace h9 := h9.below hb12 h9.lt
              replace hA11 := hA11.below hb12 hA11.lt
              replace h13 := h13.below hb12 h13.lt
              replace hb := hb.trans (hb12.mono hb.size)
              clear hb12
              go_wp2_with (with_reducible refine slH (.tmp 63) (.tmp 64) K Tryd.sl_str (wn rfl) rfl rfl rfl (hr.below hb) rfl hK ?_)
              intro A13 hr13
              rw [← List.map_take] at hr13
              have q3 := joined_any (l.take K) A13 _ c _ w12 hr13 hb.size (by omega) (by rw [HHD.out]; omega)
              rw [HHD.out] at q3
              go_wp2_with fail
              refine q3.mono ?_
              rintro e w13 ⟨rfl, hb13⟩
              replace h9 := h9.below hb13 h9.lt
              replace hA11 := hA11.below hb13 hA11.lt
              replace h13 := h13.below hb13 h13.lt
              replace hb := hb.trans (hb13.mono hb.size)
              clear hb13 hr13 q3 q2
              have s1 := sha_len fl
              have s2 := sha_len hd
              have s3 := sha_len fk
              unfold sv
              go_wp2_with (first | (with_reducible refine ldArr (.tmp 9) Tryd.ag_str (by with_unfolding_all rfl) rfl rfl (stCells_len _ _ hok.len) h9 ?_))
              refine (strSum_any fl _ _ (ht.below hb ht.size) ⟨blk, hok, rfl⟩ (by omega)).mono ?_
              rintro e w21 ⟨rfl, hbv⟩
              replace h9 := h9.below hbv h9.lt
              replace hA11 := hA11.below hbv hA11.lt
              replace h13 := h13.below hbv h13.lt
              replace hb := hb.trans (hbv.mono hb.size)
              clear hbv
              go_wp2_with (with_reducible refine convBs (.tmp 71) fl Tryd.und_str Tryd.sl_u8.und Tryd.und_u8 (by with_unfolding_all rfl) rfl rfl (by omega) ?_)
              intro A5 c5 w22 hrd hb5
              replace h9 := h9.below hb5 h9.lt
              replace hA11 := hA11.below hb5 hA11.lt
              replace h13 := h13.below hb5 h13.lt
              replace hb := hb.trans (hb5.mono hb.size)
              clear hb5
              go_wp2_with fail
              refine (refSum_any fl A5 _ c5 _ w22 (htr.below hb htr.size) hrd (Nat.le_refl _) (by omega)).mono ?_
              rintro e w23 ⟨rfl, hbw⟩
              replace h9 := h9.below hbw h9.lt
              replace hA11 := hA11.below hbw hA11.lt
              replace h13 := h13.below hbw h13.lt
              replace hb := hb.trans (hbw.mono hb.size)
              clear hbw
              clear hrd
              go_wp2_with (first | (with_reducible refine ldArr (.tmp 11) Tryd.ag_str (by with_unfolding_all rfl) rfl rfl (stCells_len _ _ hok11.len) hA11 ?_) | (with_reducible refine eqBytes (.tmp 70) (.tmp 73) (sha fl) (sha fl) true Tryd.arr_b32 Tryd.und_u8 Tryd.one_u8 (by kernel_rfl) (by with_unfolding_all rfl) rfl rfl rfl s1 s1 (by simp) ?_))
              refine (strSum_any hd _ _ (ht.below hb ht.size) ⟨blk11, hok11, rfl⟩ (by omega)).mono ?_
              rintro e w25 ⟨rfl, hbv⟩
              replace h9 := h9.below hbv h9.lt
              replace hA11 := hA11.below hbv hA11.lt
              replace h13 := h13.below hbv h13.lt
              replace hb := hb.trans (hbv.mono hb.size)
              clear hbv
              go_wp2_with (with_reducible refine convBs (.tmp 79) hd Tryd.und_str Tryd.sl_u8.und Tryd.und_u8 (by with_unfolding_all rfl) rfl rfl (by omega) ?_)
              intro A5 c5 w26 hrd hb5
              replace h9 := h9.below hb5 h9.lt
              replace hA11 := hA11.below hb5 hA11.lt
              replace h13 := h13.below hb5 h13.lt
              replace hb := hb.trans (hb5.mono hb.size)
              clear hb5
              go_wp2_with fail
              refine (refSum_any hd A5 _ c5 _ w26 (htr.below hb htr.size) hrd (Nat.le_refl _) (by omega)).mono ?_
              rintro e w27 ⟨rfl, hbw⟩
              replace h9 := h9.below hbw h9.lt
              replace hA11 := hA11.below hbw hA11.lt
              replace h13 := h13.below hbw h13.lt
              replace hb := hb.trans (hbw.mono hb.size)
              clear hbw
              clear hrd
              go_wp2_with (first | (with_reducible refine ldArr (.tmp 13) Tryd.ag_str (by with_unfolding_all rfl) rfl rfl (stCells_len _ _ hok13.len) h13 ?_) | (with_reducible refine eqBytes (.tmp 78) (.tmp 81) (sha hd) (sha hd) true Tryd.arr_b32 Tryd.und_u8 Tryd.one_u8 (by kernel_rfl) (by with_unfolding_all rfl) rfl rfl rfl s2 s2 (by simp) ?_))
              refine (strSum_any fk _ _ (ht.below hb ht.size) ⟨blk13, hok13, rfl⟩ (by omega)).mono ?_
              rintro e w29 ⟨rfl, hbv⟩
              replace h9 := h9.below hbv h9.lt
              replace hA11 := hA11.below hbv hA11.lt
              replace h13 := h13.below hbv h13.lt
              replace hb := hb.trans (hbv.mono hb.size)
              clear hbv
              go_wp2_with (rw [cat_two, HFK.out]; with_reducible refine convBs (.tmp 89) fk Tryd.und_str Tryd.sl_u8.und Tryd.und_u8 (by with_unfolding_all rfl) rfl rfl (by omega) ?_)
              intro A5 c5 w30 hrd hb5
              replace h9 := h9.below hb5 h9.lt
              replace hA11 := hA11.below hb5 hA11.lt
              replace h13 := h13.below hb5 h13.lt
              replace hb := hb.trans (hb5.mono hb.size)
              clear hb5
              go_wp2_with fail
              refine (refSum_any fk A5 _ c5 _ w30 (htr.below hb htr.size) hrd (Nat.le_refl _) (by omega)).mono ?_
              rintro e w31 ⟨rfl, hbw⟩
              replace h9 := h9.below hbw h9.lt
              replace hA11 := hA11.below hbw hA11.lt
              replace h13 := h13.below hbw h13.lt
              replace hb := hb.trans (hbw.mono hb.size)
              clear hbw
              clear hrd
              go_wp2_with (first | (with_reducible refine ldArr (.tmp 9) Tryd.ag_str (by with_unfolding_all rfl) rfl rfl (stCells_len _ _ hok.len) h9 ?_) | (with_reducible refine eqBytes (.tmp 86) (.tmp 91) (sha fk) (sha fk) true Tryd.arr_b32 Tryd.und_u8 Tryd.one_u8 (by kernel_rfl) (by with_unfolding_all rfl) rfl rfl rfl s3 s3 (by simp) ?_))
              refine (strSum_any fl _ _ (ht.below hb ht.size) ⟨blk, hok, rfl⟩ (by omega)).mono ?_
              rintro e w33 ⟨rfl, hbv⟩
              replace h9 := h9.below hbv h9.lt
              replace hA11 := hA11.below hbv hA11.lt
              replace h13 := h13.below hbv h13.lt
              replace hb := hb.trans (hbv.mono hb.size)
              clear hbv
              go_wp2_with (with_reducible refine convBs (.tmp 97) fl Tryd.und_str Tryd.sl_u8.und Tryd.und_u8 (by with_unfolding_all rfl) rfl rfl (by omega) ?_)
              intro A5 c5 w34 hrd hb5
              replace h9 := h9.below hb5 h9.lt
              replace hA11 := hA11.below hb5 hA11.lt
              replace h13 := h13.below hb5 h13.lt
              replace hb := hb.trans (hb5.mono hb.size)
              clear hb5
              go_wp2_with fail
              refine (sum_any fl A5 _ c5 _ w34 (ht.below hb ht.size) hrd (Nat.le_refl _) (by omega)).mono ?_
              rintro e w35 ⟨rfl, hbw⟩
              replace h9 := h9.below hbw h9.lt
              replace hA11 := hA11.below hbw hA11.lt
              replace h13 := h13.below hbw h13.lt
              replace hb := hb.trans (hbw.mono hb.size)
              clear hbw
              clear hrd
              go_wp2_with (with_reducible refine eqBytes (.tmp 96) (.tmp 99) (sha fl) (sha fl) true Tryd.arr_b32 Tryd.und_u8 Tryd.one_u8 (by kernel_rfl) (by with_unfolding_all rfl) rfl rfl rfl s1 s1 (by simp) ?_)
              go_wp2_with fail
              go_ret
              exact ⟨rfl, hb⟩
    · unfold sv
      go_enter Tryd.func4, Tryd.ntmps4
      go_wp2_with fail
      refine hs.mono ?_
      rintro e w1 ⟨rfl, hb⟩
      have hfew := few_any l A _ c _ w1 (hr.below hb) hb.size hn
      rw [hf] at hfew
      go_wp2_with fail
      refine hfew.mono ?_
      rintro e w2 ⟨rfl, hb2⟩
      replace hb := hb.trans (hb2.mono hb.size)
      clear hb2 hfew
      go_wp2_with fail
      go_ret
      exact ⟨rfl, hb⟩
  · unfold sv
    go_enter Tryd.func4, Tryd.ntmps4
    go_wp2_with fail
    refine hs.mono ?_
    rintro e w1 ⟨rfl, hb⟩
    have hfew := few_any l A _ c _ w1 (hr.below hb) hb.size hn
    rw [Bool.not_eq_true] at hf
    rw [hf] at hfew
    go_wp2_with fail
    refine hfew.mono ?_
    rintro e w2 ⟨rfl, hb2⟩
    replace hb := hb.trans (hb2.mono hb.size)
    clear hb2 hfew
    go_wp2_with fail
    go_ret
    exact ⟨rfl, hb⟩
end Go.Proofs.YthmhmjdppldmiaaDoor
