/-
  Sum of a stream returns the hash of its message; hash.Sum.
-/
import Derived.Test.YthmhmjdppldmiaaDoorAdd
namespace Go.Proofs.YthmhmjdppldmiaaDoor
open Go.RowKit

theorem Tryd.und_str : Tryd.prog.underlying 9 = some .string := by kernel_rfl
theorem Tryd.und_u8 : Tryd.prog.underlying 5 = some (.int .u8) := by kernel_rfl
theorem sha_stOf (m : List UInt8) : sha m = outOf (stOf (m ++ padding m.length)) := rfl

set_option maxRecDepth 100000 in
set_option maxHeartbeats 1000000 in
theorem strSum_any (m : List UInt8) (v : Value) (w : World) (ht : Tabs w) (hm : IsStr m v) (hl : m.length ≤ 1000000000000) : Calls Tryd.prog 17 #[v] w fun e w' => e = .returned (.agg (bcs (sha m)).toArray) ∧ Below w.heap.size w w' := by
  obtain ⟨blk, hok, rfl⟩ := hm
  generalize hn : m.length = n at *
  go_enter Tryd.func17, Tryd.ntmps17
  go_wp2_with (first | (with_reducible refine bxArr (cs := stCells (stOf m) blk n) (.tmp 0) (wn rfl) rfl rfl ?_) | (with_reducible refine alArr (z := zerosB 32) Tryd.ag_b32 (wn rfl) rfl ?_))
  intro w1 h1 hb
  go_wp2_with (first | (with_reducible refine alArr (z := zerosB 32) Tryd.ag_b32 (wn rfl) rfl ?_))
  intro w2 h2 hb2
  have hg := h1.lt
  replace h1 := h1.below hb2 h1.lt
  replace hb := hb.trans (hb2.mono hb.size)
  clear hb2
  have hg2 := h2.lt
  generalize w1.heap.size = g2 at *
  have cn := h1.cell (stCells_at_n (stOf m) n hok.len)
  have hp := padLen_pos n
  have HN := Lib.hid hn
  clear hn
  have hown := World.ownsRow_lit (base := w2.heap.size) (e := 5) (size := 1) w2 #[.int .u8 128] 1 (Nat.le_refl _) (by unfold maxLen; omega) rfl
  have hb3 : Below w2.heap.size w2 (w2.alloc (.cells #[.int .u8 128] 5)) := (Below.refl _ _).alloc (Nat.le_refl _) _
  go_wp2_with fail
  go_loopw [4] (fun v wr => ∃ k : Nat, k ≤ padLen n - 1 ∧ wr.ownsRow w2.heap.size 5 1 v (1 + k) (bcs (128 :: List.replicate k 0)) ∧ Below w2.heap.size w2 wr) (fun v _ => padLen n - (match v with | .slice _ m _ => m | _ => 0))
  case atStart => exact ⟨0, by omega, hown, hb3⟩
  case round =>
    clear hown hb3
    obtain ⟨k, hk, hown, hb3⟩ := hrel
    obtain ⟨A3, c3, rfl, _⟩ := Rd.of_own hown
    have cn := (hb3.cell (p := ⟨w.heap.size, 72, none⟩) (show w.heap.size < w2.heap.size by omega)).trans cn
    have hpd := pad_done n k hk
    by_cases hd : k = padLen n - 1
    · have hd' : (n + 1 + k) % 64 = 56 := hpd.2 hd
      have HD := Lib.hid hd
      have hbq : (((n : Int) + (1 + (k : Int))) % 64 != 56) = false := by rw [bne_eq_false_iff_eq]; omega
      clear hpd hd hd'
      go_wp2_with fail
      clear hbq
      go_loopw [4, 23] (fun v iv_ wr => ∃ i : Nat, i ≤ 8 ∧ iv_ = .int .i64 i ∧ wr.ownsRow w2.heap.size 5 1 v (1 + k + i) (bcs (128 :: (List.replicate k 0 ++ (be8 (8 * n)).take i))) ∧ Below w2.heap.size w2 wr) (fun _ iv_ _ => 8 - (intOf iv_).toNat)
      case atStart => exact ⟨0, by omega, rfl, by simpa using hown, hb3⟩
      case round =>
        clear hown hb3 cn
        rename_i wo wr
        obtain ⟨i, hi8, rfl, hown, hb3⟩ := hrel
        obtain ⟨A4, c4, rfl, _⟩ := Rd.of_own hown
        by_cases hi : i < 8
        · have e1 : (56 - 8 * (i : Int)).toNat = 56 - 8 * i := by omega
          go_wp2_with (at_builtin; with_reducible refine app1 _ _ Tryd.sl_u8 (wn rfl) rfl rfl rfl hown hb3 (Nat.le_refl _) rfl (by omega) (by omega) ?_)
          intro v5 w5 hown5 hb5 _
          rw [shr_byte, bcs_snoc] at hown5
          clear hown hb3
          have hnx := be8_next (8 * n) i hi
          have HNX := Lib.hid hnx
          clear hnx
          go_wp2_with fail
          go_roundw
          case rel => exact ⟨i + 1, by omega, by go_num, ownsRow_count hown5 (by omega) (by rw [← HNX.out]; congr 1; simp), hb5⟩
          case measure => simp [intOf]; omega
        · obtain rfl : i = 8 := by omega
          have hpd : 128 :: (List.replicate k 0 ++ (be8 (8 * n)).take 8) = padding n := by rw [HD.out]; rfl
          rw [hpd] at hown
          obtain ⟨_, _, hv, hrd⟩ := Rd.of_own hown
          cases hv
          have hpl : (padding n).length = 1 + k + 8 := by rw [← hpd]; simp [be8]; omega
          have HPL := Lib.hid hpl
          clear hpd hpl hown
          replace h1 := h1.below hb3 h1.lt
          replace h2 := h2.below hb3 h2.lt
          replace hb := hb.trans (hb3.mono hb.size)
          clear hb3 cn
          have hIs : IsStr m (.agg (stCells (stOf m) blk n).toArray) := ⟨blk, hok, by rw [HN.out]⟩
          have ht' := ht.below hb ht.size
          have hadd := add_any m (padding n) _ wr ht' hIs (by rw [HN.out, HPL.out]; omega)
          have hk64 := padLen_pos n
          clear hIs ht'
          have hsha : sha m = outOf (stOf (m ++ padding n)) := by rw [← HN.out]; exact sha_stOf m
          have HS := Lib.hid hsha
          clear hsha
          generalize m ++ padding n = M at *
          unfold sv at hadd
          go_wp2_with (first | (with_reducible refine ldArr (.tmp 1) Tryd.ag_str (wn rfl) rfl rfl (stCells_len _ _ hok.len) h1 ?_) | (with_reducible refine convStr (.tmp 37) (padding n) Tryd.sl_u8.und Tryd.und_u8 Tryd.und_str (wn rfl) rfl rfl hrd ?_))
          refine hadd.mono ?_
          rintro e w5 ⟨v', rfl, ⟨blk2, hok2, rfl⟩, hb5⟩
          replace h1 := h1.below hb5 h1.lt
          replace h2 := h2.below hb5 h2.lt
          replace hb := hb.trans (hb5.mono hb.size)
          clear hb5 hadd hrd
          go_wp2_with (with_reducible refine stArr (cs := stCells (stOf M) blk2 M.length) (.tmp 1) (.tmp 39) Tryd.ag_str (wn rfl) rfl rfl rfl h1 (stCells_len _ _ hok.len) (stCells_len _ _ hok2.len) (stCells_one _ _ _) ?_)
          intro w6 h1 hkeep hbel
          replace h2 := hkeep _ _ _ (by omega) h2
          replace hb := hb.trans (hbel _ (Nat.le_refl _))
          clear hkeep hbel
          go_wp2_with (with_reducible refine alArr (z := zerosB 32) Tryd.ag_b32 (wn rfl) rfl ?_)
          intro wa h12 hba
          have hg12 := h2.lt
          have hg12' := h1.lt
          replace h1 := h1.below hba h1.lt
          replace h2 := h2.below hba h2.lt
          replace hb := hb.trans (hba.mono hb.size)
          clear hba
          generalize w6.heap.size = g12 at *
          have k1 : g12 ≠ w.heap.size := by omega
          have k2 : g12 ≠ g2 := by omega
          have k3 : w.heap.size ≤ g12 := by omega
          clear hg12 hg12'
          have hshl : (sha m).length = 32 := by rw [HS.out]; exact outOf_len _
          have HSL := Lib.hid hshl
          have HG := Lib.hid (fun (s : St) => outOf_get s)
          clear hshl
          generalize stOf M = sq at *
          rw [← laidB_0 (sha m)] at h12
          go_wp2_with fail
          go_loopw [40] (fun iv_ wr => ∃ i : Nat, i ≤ 32 ∧ iv_ = .int .i64 i ∧ Arr wr w.heap.size 34 (stCells sq blk2 M.length) ∧ Arr wr g2 24 (zerosB 32) ∧ Arr wr g12 24 (laidB (sha m) 32 i) ∧ Below w.heap.size w wr) (fun iv_ _ => 32 - (intOf iv_).toNat)
          case atStart => exact ⟨0, by omega, rfl, h1, h2, h12, hb⟩
          case round =>
            clear h1 h2 h12 hb
            rename_i wo2 wr
            obtain ⟨i, hi32, rfl, h1, h2, h12, hb⟩ := hrel
            by_cases hi : i < 32
            · have c1 : wr.cell? ⟨w.heap.size, i / 4, none⟩ = some (.int .u32 (nth sq.list (i / 4))) := h1.cell (stCells_get sq _ _ (by omega))
              have c2 := h12.cell (laidB_at (sha m) 32 i HSL.out hi)
              have f1 := h12.thaw i
              have i1 : ((i : Int) / 4).toNat = i / 4 := by omega
              have i2 : (24 - 8 * ((i : Int) % 4)).toNat = 24 - 8 * (i % 4) := by omega
              have hgb := laidB_next (sha m) 32 i _ HSL.out (by rw [HS.out]; exact HG.out sq i hi)
              have HB := Lib.hid hgb
              clear hgb
              go_wp2_with fail
              rw [out_byte]
              go_roundw
              case rel =>
                refine ⟨i + 1, by omega, by go_num, h1.other k1 _ _, h2.other k2 _ _, ?_, hb.setCell (show w.heap.size ≤ g12 from k3) _⟩
                rw [← HB.out]
                exact h12.set i _
              case measure => (simp [intOf]; try omega)
            · obtain rfl : i = 32 := by omega
              rw [laidB_n _ _ HSL.out] at h12
              have hl32 : (bcs (sha m)).length = 32 := by rw [bcs_length]; exact HSL.out
              have HL32 := Lib.hid hl32
              clear hl32
              go_wp2_with (first | (with_reducible refine ldArr (.tmp 6) Tryd.ag_b32 (wn rfl) rfl rfl HL32.out h12 ?_) | (with_reducible refine stArr (.tmp 2) (.tmp 57) Tryd.ag_b32 (wn rfl) rfl rfl rfl h2 (zerosB_len _) HL32.out (bcs_one _) ?_))
              intro wz h2 hkeep hbel
              go_wp2_with fail
              refine bodyPost_ret (v := .agg (bcs (sha m)).toArray) ?_ rfl ⟨rfl, hb.trans (hbel _ (by omega))⟩
              exact res_cell1 (bcs (sha m)) Tryd.results17 Tryd.ag_b32 _ rfl HL32.out (fun j u hu => by rw [Nat.zero_add]; exact h2.cell hu)
    · have hd' : ¬ (n + 1 + k) % 64 = 56 := fun h => hd (hpd.1 h)
      have hk' : k < padLen n - 1 := by omega
      have hbq : (((n : Int) + (1 + (k : Int))) % 64 != 56) = true := by rw [bne_iff_ne]; omega
      clear hpd hd
      go_wp2_with (at_builtin; with_reducible refine app1 _ _ Tryd.sl_u8 (wn rfl) rfl rfl rfl hown hb3 (Nat.le_refl _) rfl (by omega) (by omega) ?_)
      intro v5 w5 hown5 hb5 _
      clear hown hb3
      obtain ⟨A5, c5, rfl, _⟩ := Rd.of_own hown5
      go_wp2_with fail
      go_roundw
      case rel => exact ⟨k + 1, by omega, ownsRow_count hown5 (by omega) (by rw [show (Value.int .u8 0) = bc 0 from rfl, bcs_snoc]; congr 1; rw [List.cons_append, ← List.replicate_succ']), hb5⟩
      case measure => simp; omega
end Go.Proofs.YthmhmjdppldmiaaDoor
