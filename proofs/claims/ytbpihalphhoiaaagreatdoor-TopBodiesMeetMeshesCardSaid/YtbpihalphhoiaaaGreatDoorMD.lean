/-
 MD: several texts in one. No statement is proved here.
-/
import Derived.Test.YtbpihalphhoiaaaGreatDoorMZ
import Derived.Test.YtbpihalphhoiaaaGreatDoorMB
import Derived.Test.YtbpihalphhoiaaaGreatDoorMA
set_option maxRecDepth 100000
set_option maxHeartbeats 4000000
set_option linter.unusedVariables false
set_option linter.unusedSimpArgs false
namespace Go.Proofs.YtbpihalphhoiaaaGreatDoor
open Go.RowKit
def digTo (x y z i : Nat) : Nat → Nat
 | 0 => 0
 | 1 => x / 2 ^ i % 2
 | 2 => x / 2 ^ i % 2 + 2 * (y / 2 ^ i % 2)
 | _ => dig x y z i
theorem digTo_lt (x y z i k : Nat) (h : k < 3) : digTo x y z i k < 2 ^ k := by
 rcases (by omega : k = 0 ∨ k = 1 ∨ k = 2) with rfl | rfl | rfl <;> simp [digTo] <;> omega
theorem digTo_succ (p : Pt) (i k : Nat) (h : k < 3) : digTo p.x.toNat p.y.toNat p.z.toNat i (k + 1) = digTo p.x.toNat p.y.toNat p.z.toNat i k + 2 ^ k * ((p.at k).toNat / 2 ^ i % 2) := by
 rcases (by omega : k = 0 ∨ k = 1 ∨ k = 2) with rfl | rfl | rfl <;> simp [digTo, Pt.at, dig]
theorem mo_or (n j b : Nat) (hn : n < 2 ^ j) (hb : b < 2) (hj : j < 60) : bits .or .i64 (n : Int) (wrap64 ((b : Int) * 2 ^ j)) = ((n + 2 ^ j * b : Nat) : Int) := by
 have hp : 2 ^ j ≤ 2 ^ 59 := Nat.pow_le_pow_right (by decide) (by omega)
 have hpp : (2 : Int) ^ j = ((2 ^ j : Nat) : Int) := by simp
 have hw : wrap64 ((b : Int) * 2 ^ j) = ((2 ^ j * b : Nat) : Int) := by
  rw [hpp, ← Int.natCast_mul, Nat.mul_comm]
  have : 2 ^ j * b ≤ 2 ^ j * 1 := Nat.mul_le_mul_left _ (by omega)
  unfold wrap64
  omega
 have hm : 2 ^ j * b ≤ 2 ^ j * 1 := Nat.mul_le_mul_left _ (by omega)
 rw [hw, i64_or_n n (2 ^ j * b) (by omega) (by omega)]
 congr 1
 rw [Nat.or_comm, ← Nat.two_pow_add_eq_or_of_lt hn b]
 omega
theorem encode_any (p : Pt) (w : World) : Calls Tryz.prog 98 #[.agg (pcs p).toArray] w (RetI w (mEnc p)) := by
 have hin := inside_any p
 by_cases hp : p.In
 ·rw [decide_eq_true hp] at hin
  have hE : mEnc p = ((encL 14 p.x.toNat p.y.toNat p.z.toNat : Nat) : Int) := by unfold mEnc; rw [if_pos hp]
  rw [hE]
  have HIN := Lib.hid hin
  have HAR := Lib.hid (array_any p)
  have HP := Lib.hid hp
  clear hin hE
  go_enter Tryz.func98, Tryz.ntmps98
  go_wp2_with (with_reducible refine bxArr (cs := pcs p) (.tmp 0) (wn rfl) rfl rfl ?_)
  intro w1 h1 hb
  go_wp2_with (with_reducible refine ldArr (.tmp 1) Tryz.ag_pt (wn rfl) rfl rfl rfl h1 ?_)
  refine (HIN.out _).mono ?_
  rintro e w2 ⟨rfl, b2⟩
  replace h1 := h1.below b2 h1.lt
  replace hb := hb.trans (b2.mono hb.size)
  clear b2
  go_wp2_with fail
  go_loopw [3, 10] (fun n i wr => ∃ (k N : Nat), k ≤ 14 ∧ i = .int .i64 (k : Int) ∧ n = .int .i64 (N : Int) ∧ Hid (N = encL k p.x.toNat p.y.toNat p.z.toNat) ∧ Arr wr w.heap.size 23 (pcs p) ∧ Below w.heap.size w wr) (fun _ i _ => 14 - (intOf i).toNat)
  case atStart => exact ⟨0, 0, by omega, rfl, rfl, Lib.hid rfl, h1, hb⟩
  case round =>
   clear h1 hb
   obtain ⟨i, N, hk, rfl, rfl, HN, h1, hb⟩ := hrel
   by_cases hlt : i < 14
   ·go_wp2_with (with_reducible refine ldArr (.tmp 1) Tryz.ag_pt (wn rfl) rfl rfl rfl h1 ?_)
    refine (HAR.out _).mono ?_
    rintro e w3 ⟨rfl, b3⟩
    replace h1 := h1.below b3 h1.lt
    replace hb := hb.trans (b3.mono hb.size)
    clear b3
    go_wp2_with fail
    go_loopw [3, 15] (fun n kk wi => ∃ (k M : Nat), k ≤ 3 ∧ kk = .int .i64 (k : Int) ∧ n = .int .i64 (M : Int) ∧ Hid (M = encL i p.x.toNat p.y.toNat p.z.toNat + 8 ^ i * digTo p.x.toNat p.y.toNat p.z.toNat i k) ∧ Arr wi w.heap.size 23 (pcs p) ∧ Below w.heap.size w wi) (fun _ kk _ => 3 - (intOf kk).toNat)
    case atStart => exact ⟨0, N, by omega, rfl, rfl, Lib.hid (by rw [HN.out]; rfl), h1, hb⟩
    case round =>
     clear h1 hb HN
     obtain ⟨k, M, hk3, rfl, rfl, HM, h1, hb⟩ := hrel
     by_cases h3 : k < 3
     ·have hg := pcs_get p h3
      have hc := HP.out.at_ k
      obtain ⟨c, hcv⟩ : ∃ c : Nat, p.at k = (c : Int) := ⟨(p.at k).toNat, by omega⟩
      obtain ⟨j, hj⟩ : ∃ j, j = 3 * i + k := ⟨_, rfl⟩
      have hji : (3 * (i : Int) + (k : Int)) = (j : Int) := by omega
      have HB := Lib.hid (show bits .and .i64 ((c : Int) / 2 ^ i) 1 = ((c / 2 ^ i % 2 : Nat) : Int) from by
       have h1 : ((c : Int) / 2 ^ i) = ((c / 2 ^ i : Nat) : Int) := by simp
       have h2 : c / 2 ^ i ≤ c := Nat.div_le_self _ _
       have h3 := i64_and_n (c / 2 ^ i) 1 (by omega) (by omega)
       rw [Nat.and_one_is_mod] at h3
       rw [h1]
       exact h3)
      have hbl : c / 2 ^ i % 2 < 2 := Nat.mod_lt _ (by decide)
      have hML : M < 2 ^ j := by
       rw [HM.out, hj, Nat.pow_add, Nat.pow_mul]
       have e1 := encL_lt i p.x.toNat p.y.toNat p.z.toNat
       have e2 := digTo_lt p.x.toNat p.y.toNat p.z.toNat i k h3
       have e3 : (2 ^ 3) ^ i * (digTo p.x.toNat p.y.toNat p.z.toNat i k + 1) ≤ (2 ^ 3) ^ i * 2 ^ k := Nat.mul_le_mul_left _ e2
       rw [Nat.mul_add, Nat.mul_one] at e3
       rw [show (2 : Nat) ^ 3 = 8 by decide] at e3 ⊢
       omega
      have HOR := Lib.hid (mo_or M j (c / 2 ^ i % 2) hML hbl (by omega))
      have HM2 : Hid (M + 2 ^ j * (c / 2 ^ i % 2) = encL i p.x.toNat p.y.toNat p.z.toNat + 8 ^ i * digTo p.x.toNat p.y.toNat p.z.toNat i (k + 1)) := Lib.hid (by
       rw [HM.out, digTo_succ p i k h3, hcv, Int.toNat_natCast, hj, Nat.pow_add, Nat.pow_mul, show (2 : Nat) ^ 3 = 8 by decide, Nat.mul_add, Nat.mul_assoc]
       omega)
      rw [hcv] at hg
      clear HM hc hcv hML hj
      generalize c / 2 ^ i % 2 = b at *
      go_wp2_with (with_reducible refine ixArr (.tmp 14) (.tmp 15) k _ Tryz.und_i3 Tryz.und_int Tryz.one_int (wn rfl) rfl rfl rfl rfl hg rfl ?_)
      rw [HB.out]
      rw [HOR.out]
      refine ⟨⟨k + 1, M + 2 ^ j * b, by omega, by simp, rfl, HM2, h1, hb⟩, ?_⟩
      simp [intOf]; omega
     ·obtain rfl : k = 3 := by omega
      have HN2 : Hid (M = encL (i + 1) p.x.toNat p.y.toNat p.z.toNat) := Lib.hid (by rw [HM.out, encL_top]; rfl)
      go_wp2_with fail
      refine ⟨⟨i + 1, M, by omega, by simp, rfl, HN2, h1, hb⟩, ?_⟩
      simp [intOf]; omega
   ·obtain rfl : i = 14 := by omega
    go_wp2_with fail
    go_ret
    exact ⟨by rw [← HN.out]; rfl, hb⟩
 ·rw [decide_eq_false hp] at hin
  rw [mEnc_out hp]
  go_enter Tryz.func98, Tryz.ntmps98
  go_wp2_with (with_reducible refine bxArr (cs := pcs p) (.tmp 0) (wn rfl) rfl rfl ?_)
  intro w1 h1 hb
  go_wp2_with (with_reducible refine ldArr (.tmp 1) Tryz.ag_pt (wn rfl) rfl rfl rfl h1 ?_)
  refine (hin _).mono ?_
  rintro e w2 ⟨rfl, b2⟩
  replace hb := hb.trans (b2.mono hb.size)
  clear b2
  go_wp2_with fail
  go_ret
  exact ⟨rfl, hb⟩
def RetPB (w : World) (r : Pt × Bool) (e : Ending) (w' : World) : Prop := e = .returned (.tuple #[.agg (pcs r.1).toArray, .bool r.2]) ∧ Below w.heap.size w w'
def decT (m i k : Nat) : Pt := ⟨(decL (if 0 < k then i + 1 else i) m : Int), (decL (if 1 < k then i + 1 else i) (m / 2) : Int), (decL (if 2 < k then i + 1 else i) (m / 4) : Int)⟩
theorem decT_at (m i k : Nat) (h : k < 3) : (decT m i k).at k = (decL i (m / 2 ^ k) : Int) := by
 rcases (by omega : k = 0 ∨ k = 1 ∨ k = 2) with rfl | rfl | rfl <;> simp [decT, Pt.at]
theorem decT_set (m i k : Nat) (h : k < 3) : (pcs (decT m i k)).set k (.int .i64 ((decL (i + 1) (m / 2 ^ k) : Nat) : Int)) = pcs (decT m i (k + 1)) := by
 rcases (by omega : k = 0 ∨ k = 1 ∨ k = 2) with rfl | rfl | rfl <;> simp [decT, pcs]
theorem decT_next (m i : Nat) : decT m i 3 = decT m (i + 1) 0 := by simp [decT]
theorem decT_end (m : Nat) : decT m 14 0 = mDecP m := by simp [decT, mDecP]
theorem decode_any (n : Int) (w : World) : Calls Tryz.prog 99 #[.int .i64 n] w (RetPB w (mDec n)) := by
 unfold mDec
 by_cases h0 : n < 0
 ·rw [if_neg (by omega)]
  go_enter Tryz.func99, Tryz.ntmps99
  go_wp2_with (with_reducible refine alArr (z := pcs p0) Tryz.ag_pt (wn rfl) rfl ?_)
  intro w1 h2 hb
  go_wp2_with (with_reducible refine stArrG (cs := pcs p0) (.tmp 2) (.tmp 13) Tryz.ag_pt (wn rfl) rfl rfl kr_ h2 rfl rfl (pcs_one _) ?_)
  intro w2 h2 hg
  replace hb := hb.grown hg hb.size (fun k e => by cases e; exact Nat.le_refl _)
  go_wp2_with fail
  exact bodyPost_ret (res_cellslot (v := .bool false) (pcs p0) Tryz.results99 Tryz.ag_pt _ rfl rfl rfl h2) rfl ⟨rfl, hb⟩
 ·by_cases hbig : 4398046511104 ≤ n
  ·rw [if_neg (by omega)]
   go_enter Tryz.func99, Tryz.ntmps99
   go_wp2_with (with_reducible refine alArr (z := pcs p0) Tryz.ag_pt (wn rfl) rfl ?_)
   intro w1 h2 hb
   go_wp2_with (with_reducible refine stArrG (cs := pcs p0) (.tmp 2) (.tmp 13) Tryz.ag_pt (wn rfl) rfl rfl kr_ h2 rfl rfl (pcs_one _) ?_)
   intro w2 h2 hg
   replace hb := hb.grown hg hb.size (fun k e => by cases e; exact Nat.le_refl _)
   go_wp2_with fail
   exact bodyPost_ret (res_cellslot (v := .bool false) (pcs p0) Tryz.results99 Tryz.ag_pt _ rfl rfl rfl h2) rfl ⟨rfl, hb⟩
  ·rw [if_pos (by omega)]
   obtain ⟨m, rfl⟩ : ∃ m : Nat, n = (m : Int) := ⟨n.toNat, by omega⟩
   rw [Int.toNat_natCast]
   have hm : m < 4398046511104 := by omega
   clear h0 hbig
   go_enter Tryz.func99, Tryz.ntmps99
   go_wp2_with (with_reducible refine alArr (z := pcs p0) Tryz.ag_pt (wn rfl) rfl ?_)
   intro w1 h2 hb
   go_wp2_with (with_reducible refine alArr (z := pcs p0) Tryz.ag_i3 (wn rfl) rfl ?_)
   intro w2 h4 b2
   have l2 := h2.lt
   replace h2 := h2.below b2 l2
   have ls := hb.size
   have hne : w.heap.size ≠ w1.heap.size := by omega
   replace hb := hb.trans (b2.mono ls)
   clear b2 l2
   generalize w1.heap.size = g4 at *
   go_wp2_with fail
   go_loopw [14] (fun i wr => ∃ k : Nat, k ≤ 14 ∧ i = .int .i64 (k : Int) ∧ Arr wr g4 120 (pcs (decT m k 0)) ∧ Arr wr w.heap.size 23 (pcs p0) ∧ Below w.heap.size w wr) (fun i _ => 14 - (intOf i).toNat)
   case atStart => exact ⟨0, by omega, rfl, h4, h2, hb⟩
   case round =>
    clear h2 h4 hb
    obtain ⟨i, hk, rfl, h4, h2, hb⟩ := hrel
    by_cases hlt : i < 14
    ·go_wp2_with fail
     go_loopw [17] (fun kk wi => ∃ k : Nat, k ≤ 3 ∧ kk = .int .i64 (k : Int) ∧ Arr wi g4 120 (pcs (decT m i k)) ∧ Arr wi w.heap.size 23 (pcs p0) ∧ Below w.heap.size w wi) (fun kk _ => 3 - (intOf kk).toNat)
     case atStart => exact ⟨0, by omega, rfl, h4, h2, hb⟩
     case round =>
      clear h2 h4 hb
      obtain ⟨k, hk3, rfl, h4, h2, hb⟩ := hrel
      by_cases h3 : k < 3
      ·have hg := pcs_get (decT m i k) h3
       rw [decT_at m i k h3] at hg
       have hset := decT_set m i k h3
       have htop := decL_top i (m / 2 ^ k)
       have hlow := decL_lt i (m / 2 ^ k)
       have hbit : m / 2 ^ k / 8 ^ i % 2 = m / 2 ^ (3 * i + k) % 2 := by
        rw [Nat.div_div_eq_div_mul, Nat.pow_add, Nat.pow_mul, show (2 : Nat) ^ 3 = 8 by decide, Nat.mul_comm]
       rw [hbit] at htop
       obtain ⟨j, hj⟩ : ∃ j, j = 3 * i + k := ⟨_, rfl⟩
       have hji : (3 * (i : Int) + (k : Int)) = (j : Int) := by omega
       rw [← hj] at htop
       have hbl : m / 2 ^ j % 2 < 2 := Nat.mod_lt _ (by decide)
       have HB := Lib.hid (show bits .and .i64 ((m : Int) / 2 ^ j) 1 = ((m / 2 ^ j % 2 : Nat) : Int) from by
        have h1 : ((m : Int) / 2 ^ j) = ((m / 2 ^ j : Nat) : Int) := by simp
        have h2 : m / 2 ^ j ≤ m := Nat.div_le_self _ _
        have h3 := i64_and_n (m / 2 ^ j) 1 (by omega) (by omega)
        rw [Nat.and_one_is_mod] at h3
        rw [h1]
        exact h3)
       have HOR := Lib.hid (mo_or (decL i (m / 2 ^ k)) i (m / 2 ^ j % 2) hlow hbl (by omega))
       rw [← htop] at HOR
       have hc := h4.cell hg
       have hf := h4.thaw k
       have h4s := h4.set k (.int .i64 ((decL (i + 1) (m / 2 ^ k) : Nat) : Int))
       rw [hset] at h4s
       have h2s := h2.other (fun e => hne e.symm) k (.int .i64 ((decL (i + 1) (m / 2 ^ k) : Nat) : Int))
       have hbs := hb.setCell (p := ⟨g4, k, none⟩) ls (.int .i64 ((decL (i + 1) (m / 2 ^ k) : Nat) : Int))
       have hjl : j < 42 := by omega
       clear hg hset htop hlow hbit hj
       generalize decL i (m / 2 ^ k) = a at *
       generalize decL (i + 1) (m / 2 ^ k) = a2 at *
       go_wp2_with fail
       go_region
       rw [HB.out, HOR.out]
       have h4d := h4s.drew
       have h2d := h2s.drew
       have hbd := hbs.drew
       clear hc hf h4 h2 hb h4s h2s hbs
       go_wp2_with fail
       refine ⟨⟨k + 1, by omega, by simp, h4d, h2d, hbd⟩, ?_⟩
       simp [intOf]; omega
      ·obtain rfl : k = 3 := by omega
       rw [decT_next] at h4
       go_wp2_with fail
       refine ⟨⟨i + 1, by omega, by simp, h4, h2, hb⟩, ?_⟩
       simp [intOf]; omega
    ·obtain rfl : i = 14 := by omega
     rw [decT_end] at h4
     go_wp2_with (with_reducible refine ldArr (.tmp 4) Tryz.ag_i3 (wn rfl) rfl rfl rfl h4 ?_)
     refine (point_any _ _).mono ?_
     rintro e w5 ⟨rfl, b5⟩
     replace h2 := h2.below b5 h2.lt
     replace hb := hb.trans (b5.mono hb.size)
     go_wp2_with (with_reducible refine stArrG (cs := pcs (mDecP m)) (.tmp 2) (.tmp 37) Tryz.ag_pt (wn rfl) rfl rfl rfl h2 rfl rfl (pcs_one _) ?_)
     intro w6 h6 hg
     replace hb := hb.grown hg hb.size (fun k e => by cases e; exact Nat.le_refl _)
     go_wp2_with fail
     exact bodyPost_ret (res_cellslot (v := .bool true) (pcs (mDecP m)) Tryz.results99 Tryz.ag_pt _ rfl rfl rfl h6) rfl ⟨rfl, hb⟩
theorem sub_any (p q : Pt) (hp : (-1073741824 ≤ p.x ∧ p.x ≤ 1073741824) ∧ (-1073741824 ≤ p.y ∧ p.y ≤ 1073741824) ∧ (-1073741824 ≤ p.z ∧ p.z ≤ 1073741824)) (hq : (-1073741824 ≤ q.x ∧ q.x ≤ 1073741824) ∧ (-1073741824 ≤ q.y ∧ q.y ≤ 1073741824) ∧ (-1073741824 ≤ q.z ∧ q.z ≤ 1073741824)) (w : World) : Calls Tryz.prog 16 #[.agg (pcs p).toArray, .agg (pcs q).toArray] w (RetV w (.agg (pcs (p.sub q)).toArray)) := by
 have hm0 := Mem.nil w
 go_enter Tryz.func16, Tryz.ntmps16
 refine litStart 21 [(0, .agg (pcs p).toArray), (1, .agg (pcs q).toArray)] kr_ (fun X0 => ?_)
 refine sp_ fun _ hK1 => ?_
 refine plBox hm0 (cs := pcs p) (i := 0) rfl (wn rfl) rfl le_ ?_
 intro g2 w4 hm3
 clear hm0
 try simp only [lc_] at hm3
 refine qP rfl ?_
 refine plBox hm3 (cs := pcs q) (i := 1) rfl (wn rfl) rfl le_ ?_
 intro g5 w7 hm6
 clear hm3
 try simp only [lc_] at hm6
 refine qP rfl ?_
 refine plAlloc (z := [.int .i64 0, .int .i64 0, .int .i64 0]) Ty.ag_voxel_api_Point hm6 (i := 2) rfl (wn rfl) rfl ?_
 intro g8 w10 hm9
 clear hm6
 try simp only [lc_] at hm9
 refine qP rfl ?_
 refine pt_ hK1 ?_
 refine sp_ fun _ hK11 => ?_
 refine lp_ g2 0 ?_
 refine lv_ rfl (.int .i64 p.x) (ld_ 0 0 hm9) ?_
 refine lp_ g5 0 ?_
 refine lv_ rfl (.int .i64 q.x) (ld_ 0 1 hm9) ?_
 refine lv_ rfl _ (sb_ p.x q.x) ?_
 refine lp_ g2 1 ?_
 refine lv_ rfl (.int .i64 p.y) (ld_ 1 0 hm9) ?_
 refine lp_ g5 1 ?_
 refine lv_ rfl (.int .i64 q.y) (ld_ 1 1 hm9) ?_
 refine lv_ rfl _ (sb_ p.y q.y) ?_
 refine lp_ g2 2 ?_
 refine lv_ rfl (.int .i64 p.z) (ld_ 2 0 hm9) ?_
 refine lp_ g5 2 ?_
 refine lv_ rfl (.int .i64 q.z) (ld_ 2 1 hm9) ?_
 refine lv_ rfl _ (sb_ p.z q.z) ?_
 refine lk_ (.agg (pcs ⟨p.x - q.x, p.y - q.y, p.z - q.z⟩).toArray) ?_
 refine plStore 2 Ty.ag_voxel_api_Point hm9 rfl (i := 16) (cs := pcs ⟨p.x - q.x, p.y - q.y, p.z - q.z⟩) rfl (wn rfl) rfl le_ le_ rfl rfl kr_ ?_
 intro w13 hm12
 clear hm9
 try simp only [lc_] at hm12
 refine qNone rfl ?_
 refine pt_ hK11 ?_
 refine wpPrune [(4, .pointer (some ⟨g8, 0, none⟩))] fo_ (fun X14 => ?_)
 refine wp_ret ?_
 refine bodyPost_ret (v := .agg (pcs ⟨p.x - q.x, p.y - q.y, p.z - q.z⟩).toArray) (gRes1 rfl (gResAg (cs := pcs ⟨p.x - q.x, p.y - q.y, p.z - q.z⟩) 2 hm12 rfl Ty.ag_voxel_api_Point rfl (lg_))) rfl ?_
 exact ⟨by rfl, hm12.bel⟩
theorem near_any (n : Int) (w : World) : Calls Tryz.prog 96 #[.int .i64 n] w (RetV w (.bool (decide (-1048575 ≤ n ∧ n ≤ 1048575)))) := by
 have hm0 := Mem.nil w
 go_enter Tryz.func96, Tryz.ntmps96
 refine litStart 9 [(0, .int .i64 n)] kr_ (fun X0 => ?_)
 refine sp_ fun _ hK1 => ?_
 refine lF_ ?_
 refine pt_ hK1 ?_
 refine sp_ fun _ hK2 => ?_
 refine li_ n ?_
 by_cases h3 : (-1048575) ≤ n
 ·refine lv_ rfl _ (geT_ h3) ?_
  refine lT_ ?_
  refine lw_ rfl (.int .i64 n) (litRun kr_) ?_
  by_cases h4 : n ≤ 1048575
  ·refine lw_ rfl _ (leT_ h4) ?_
   refine lT_ ?_
   refine lT_ ?_
   refine pt_ hK2 ?_
   refine wp_ret ?_
   refine br_ 2 (.bool true) ?_
   exact ⟨congrArg (fun b_ => Ending.returned (.bool b_)) (decide_eq_true (by omega)).symm, hm0.bel⟩
  refine lw_ rfl _ (leF_ h4) ?_
  refine lF_ ?_
  refine lF_ ?_
  refine pt_ hK2 ?_
  refine wp_ret ?_
  refine br_ 2 (.bool false) ?_
  exact ⟨congrArg (fun b_ => Ending.returned (.bool b_)) (decide_eq_false (by omega)).symm, hm0.bel⟩
 refine lv_ rfl _ (geF_ h3) ?_
 refine lF_ ?_
 refine ps_ (i := 3) ?_
 refine ps_ (i := 4) ?_
 refine lF_ ?_
 refine lF_ ?_
 refine pt_ hK2 ?_
 refine wp_ret ?_
 refine br_ 2 (.bool false) ?_
 exact ⟨congrArg (fun b_ => Ending.returned (.bool b_)) (decide_eq_false (by omega)).symm, hm0.bel⟩
theorem ranged_any (p : Pt) (w : World) : Calls Tryz.prog 68 #[.agg (pcs p).toArray] w (RetV w (.bool (decide p.rng))) := by
 have hm0 := Mem.nil w
 go_enter Tryz.func68, Tryz.ntmps68
 refine litStart 16 [(0, .agg (pcs p).toArray)] kr_ (fun X0 => ?_)
 refine sp_ fun _ hK1 => ?_
 refine plBox hm0 (cs := pcs p) (i := 0) rfl (wn rfl) rfl le_ ?_
 intro g2 w4 hm3
 clear hm0
 try simp only [lc_] at hm3
 refine qP rfl ?_
 refine lF_ ?_
 refine pt_ hK1 ?_
 refine sp_ fun _ hK5 => ?_
 refine lp_ g2 0 ?_
 refine lv_ rfl (.int .i64 p.x) (ld_ 0 0 hm3) ?_
 refine plCall (i := 2) 96 [.int .i64 p.x] [] [] rfl kr_ (wn rfl) rfl le_ (litArgs kr_) (near_any p.x _) ?_
 rintro e w6 ⟨rfl, hbz⟩
 have hm7 := hm3.below hbz
 clear hbz hm3
 refine ⟨_, rfl, ?_⟩
 refine qP rfl ?_
 rcases bool_or (decide (-1048575 ≤ p.x ∧ p.x ≤ 1048575)) with h8 | h8
 ·rw [h8]
  refine lF_ ?_
  refine ps_ (i := 4) ?_
  refine ps_ (i := 5) ?_
  refine ps_ (i := 6) ?_
  refine lF_ ?_
  refine lF_ ?_
  refine ps_ (i := 9) ?_
  refine ps_ (i := 10) ?_
  refine ps_ (i := 11) ?_
  refine lF_ ?_
  refine lF_ ?_
  refine pt_ hK5 ?_
  refine wpPrune [(2, .bool false)] fo_ (fun X9 => ?_)
  refine wp_ret ?_
  refine br_ 2 (.bool false) ?_
  exact ⟨congrArg (fun b_ => Ending.returned (.bool b_)) (decide_eq_false (by unfold Pt.rng; simp_all; try omega)).symm, hm7.bel⟩
 rw [h8]
 refine lT_ ?_
 refine lw_ rfl (.pointer (some ⟨g2, 1, none⟩)) (litRun kr_) ?_
 refine lw_ rfl (.int .i64 p.y) (ld_ 1 0 hm7) ?_
 refine plCall (i := 6) 96 [.int .i64 p.y] [] [] rfl kr_ (wgY rfl rfl rfl (by decide) kr_) rfl le_ (litArgs kr_) (near_any p.y _) ?_
 rintro e w10 ⟨rfl, hbz⟩
 have hm11 := hm7.below hbz
 clear hbz hm7
 refine ⟨_, rfl, ?_⟩
 refine qP rfl ?_
 rcases bool_or (decide (-1048575 ≤ p.y ∧ p.y ≤ 1048575)) with h12 | h12
 ·rw [h12]
  refine lF_ ?_
  refine lF_ ?_
  refine ps_ (i := 9) ?_
  refine ps_ (i := 10) ?_
  refine ps_ (i := 11) ?_
  refine lF_ ?_
  refine lF_ ?_
  refine pt_ hK5 ?_
  refine wpPrune [(2, .bool false)] fo_ (fun X13 => ?_)
  refine wp_ret ?_
  refine br_ 2 (.bool false) ?_
  exact ⟨congrArg (fun b_ => Ending.returned (.bool b_)) (decide_eq_false (by unfold Pt.rng; simp_all; try omega)).symm, hm11.bel⟩
 rw [h12]
 refine lT_ ?_
 refine lT_ ?_
 refine lw_ rfl (.pointer (some ⟨g2, 2, none⟩)) (litRun kr_) ?_
 refine lw_ rfl (.int .i64 p.z) (ld_ 2 0 hm11) ?_
 refine plCall (i := 11) 96 [.int .i64 p.z] [] [] rfl kr_ (wgY rfl rfl rfl (by decide) kr_) rfl le_ (litArgs kr_) (near_any p.z _) ?_
 rintro e w14 ⟨rfl, hbz⟩
 have hm15 := hm11.below hbz
 clear hbz hm11
 refine ⟨_, rfl, ?_⟩
 refine qP rfl ?_
 rcases bool_or (decide (-1048575 ≤ p.z ∧ p.z ≤ 1048575)) with h16 | h16
 ·rw [h16]
  refine lF_ ?_
  refine lF_ ?_
  refine pt_ hK5 ?_
  refine wpPrune [(2, .bool false)] fo_ (fun X17 => ?_)
  refine wp_ret ?_
  refine br_ 2 (.bool false) ?_
  exact ⟨congrArg (fun b_ => Ending.returned (.bool b_)) (decide_eq_false (by unfold Pt.rng; simp_all; try omega)).symm, hm15.bel⟩
 rw [h16]
 refine lT_ ?_
 refine lT_ ?_
 refine pt_ hK5 ?_
 refine wpPrune [(2, .bool true)] fo_ (fun X18 => ?_)
 refine wp_ret ?_
 refine br_ 2 (.bool true) ?_
 exact ⟨congrArg (fun b_ => Ending.returned (.bool b_)) (decide_eq_true (by unfold Pt.rng; simp_all; try omega)).symm, hm15.bel⟩
theorem isMat_any (n : Int) (w : World) : Calls Tryz.prog 70 #[.int .i64 n] w (RetV w (.bool (decide (0 ≤ n ∧ n < 256)))) := by
 have hm0 := Mem.nil w
 go_enter Tryz.func70, Tryz.ntmps70
 refine litStart 9 [(0, .int .i64 n)] kr_ (fun X0 => ?_)
 refine sp_ fun _ hK1 => ?_
 refine lF_ ?_
 refine pt_ hK1 ?_
 refine sp_ fun _ hK2 => ?_
 refine li_ n ?_
 by_cases h3 : 0 ≤ n
 ·refine lv_ rfl _ (geT_ h3) ?_
  refine lT_ ?_
  refine lw_ rfl (.int .i64 n) (litRun kr_) ?_
  by_cases h4 : n < 256
  ·refine lw_ rfl _ (lsT_ h4) ?_
   refine lT_ ?_
   refine lT_ ?_
   refine pt_ hK2 ?_
   refine wp_ret ?_
   refine br_ 2 (.bool true) ?_
   exact ⟨congrArg (fun b_ => Ending.returned (.bool b_)) (decide_eq_true (by omega)).symm, hm0.bel⟩
  refine lw_ rfl _ (lsF_ h4) ?_
  refine lF_ ?_
  refine lF_ ?_
  refine pt_ hK2 ?_
  refine wp_ret ?_
  refine br_ 2 (.bool false) ?_
  exact ⟨congrArg (fun b_ => Ending.returned (.bool b_)) (decide_eq_false (by omega)).symm, hm0.bel⟩
 refine lv_ rfl _ (geF_ h3) ?_
 refine lF_ ?_
 refine ps_ (i := 3) ?_
 refine ps_ (i := 4) ?_
 refine lF_ ?_
 refine lF_ ?_
 refine pt_ hK2 ?_
 refine wp_ret ?_
 refine br_ 2 (.bool false) ?_
 exact ⟨congrArg (fun b_ => Ending.returned (.bool b_)) (decide_eq_false (by omega)).symm, hm0.bel⟩
theorem in_any (p : Pt) (b : Bx) (w : World) : Calls Tryz.prog 28 #[.agg (pcs p).toArray, .agg (bxs b).toArray] w (RetV w (.bool (decide (b.has p)))) := by
 have hm0 := Mem.nil w
 go_enter Tryz.func28, Tryz.ntmps28
 refine litStart 57 [(0, .agg (pcs p).toArray), (1, .agg (bxs b).toArray)] kr_ (fun X0 => ?_)
 refine sp_ fun _ hK1 => ?_
 refine plBox hm0 (cs := pcs p) (i := 0) rfl (wn rfl) rfl le_ ?_
 intro g2 w4 hm3
 clear hm0
 try simp only [lc_] at hm3
 refine qP rfl ?_
 refine plBox hm3 (cs := bxs b) (i := 1) rfl (wn rfl) rfl le_ ?_
 intro g5 w7 hm6
 clear hm3
 try simp only [lc_] at hm6
 refine qP rfl ?_
 refine lF_ ?_
 refine pt_ hK1 ?_
 refine gwCut (fun a_ w_ => (True) ∧ Fr a_ 57 [(2, .pointer (some ⟨g2, 0, none⟩)), (3, .pointer (some ⟨g5, 0, none⟩)), (4, .bool false), (5, .bool (decide (b.mn.x ≤ p.x ∧ p.x < b.mx.x)))] ∧ Mem w w_ [.arr g2 23 (pcs p), .arr g5 25 (bxs b)]) ?_ ?_
 ·refine plStart ?_
  refine lp_ g2 0 ?_
  refine lv_ rfl (.int .i64 p.x) (ld_ 0 0 hm6) ?_
  refine lp_ g5 0 ?_
  refine lp_ g5 0 ?_
  refine lv_ rfl (.int .i64 b.mn.x) (ld_ 0 1 hm6) ?_
  by_cases h8 : b.mn.x ≤ p.x
  ·refine lv_ rfl _ (geT_ h8) ?_
   refine lT_ ?_
   refine lw_ rfl (.pointer (some ⟨g2, 0, none⟩)) (litRun kr_) ?_
   refine lw_ rfl (.int .i64 p.x) (ld_ 0 0 hm6) ?_
   refine lw_ rfl (.pointer (some ⟨g5, 3, none⟩)) (litRun kr_) ?_
   refine lw_ rfl (.pointer (some ⟨g5, 3, none⟩)) (litRun kr_) ?_
   refine lw_ rfl (.int .i64 b.mx.x) (ld_ 3 1 hm6) ?_
   by_cases h9 : p.x < b.mx.x
   ·refine lw_ rfl _ (lsT_ h9) ?_
    refine lT_ ?_
    refine lT_ ?_
    refine plD ?_
    refine then_normal ?_
    rw [show (decide (b.mn.x ≤ p.x ∧ p.x < b.mx.x)) = true from decide_eq_true (by omega)]
    exact ⟨trivial, ⟨litSize, rfl, fo_⟩, hm6⟩
   refine lw_ rfl _ (lsF_ h9) ?_
   refine lF_ ?_
   refine lF_ ?_
   refine plD ?_
   refine then_normal ?_
   rw [show (decide (b.mn.x ≤ p.x ∧ p.x < b.mx.x)) = false from decide_eq_false (by omega)]
   exact ⟨trivial, ⟨litSize, rfl, fo_⟩, hm6⟩
  refine lv_ rfl _ (geF_ h8) ?_
  refine lF_ ?_
  refine ps_ (i := 7) ?_
  refine ps_ (i := 8) ?_
  refine ps_ (i := 9) ?_
  refine ps_ (i := 10) ?_
  refine ps_ (i := 11) ?_
  refine ps_ (i := 12) ?_
  refine lF_ ?_
  refine lF_ ?_
  refine plD ?_
  refine then_normal ?_
  rw [show (decide (b.mn.x ≤ p.x ∧ p.x < b.mx.x)) = false from decide_eq_false (by omega)]
  exact ⟨trivial, ⟨litSize, rfl, fo_⟩, hm6⟩
 clear hm6
 intro a12 w10 hI_
 obtain ⟨ht_, hF_, hm11⟩ := hI_
 obtain ⟨X13, rfl⟩ := frLit hF_
 clear hF_
 refine gwCut (fun a_ w_ => (True) ∧ Fr a_ 57 [(2, .pointer (some ⟨g2, 0, none⟩)), (3, .pointer (some ⟨g5, 0, none⟩)), (4, .bool false), (5, .bool (decide (b.mn.x ≤ p.x ∧ p.x < b.mx.x))), (6, .bool (decide (b.mn.y ≤ p.y ∧ p.y < b.mx.y)))] ∧ Mem w w_ [.arr g2 23 (pcs p), .arr g5 25 (bxs b)]) ?_ ?_
 ·refine plStart ?_
  refine lp_ g2 1 ?_
  refine lv_ rfl (.int .i64 p.y) (ld_ 1 0 hm11) ?_
  refine lp_ g5 0 ?_
  refine lp_ g5 1 ?_
  refine lv_ rfl (.int .i64 b.mn.y) (ld_ 1 1 hm11) ?_
  by_cases h14 : b.mn.y ≤ p.y
  ·refine lv_ rfl _ (geT_ h14) ?_
   refine lT_ ?_
   refine lw_ rfl (.pointer (some ⟨g2, 1, none⟩)) (litRun kr_) ?_
   refine lw_ rfl (.int .i64 p.y) (ld_ 1 0 hm11) ?_
   refine lw_ rfl (.pointer (some ⟨g5, 3, none⟩)) (litRun kr_) ?_
   refine lw_ rfl (.pointer (some ⟨g5, 4, none⟩)) (litRun kr_) ?_
   refine lw_ rfl (.int .i64 b.mx.y) (ld_ 4 1 hm11) ?_
   by_cases h15 : p.y < b.mx.y
   ·refine lw_ rfl _ (lsT_ h15) ?_
    refine lT_ ?_
    refine lT_ ?_
    refine plD ?_
    refine then_normal ?_
    rw [show (decide (b.mn.y ≤ p.y ∧ p.y < b.mx.y)) = true from decide_eq_true (by omega)]
    exact ⟨trivial, ⟨litSize, rfl, fo_⟩, hm11⟩
   refine lw_ rfl _ (lsF_ h15) ?_
   refine lF_ ?_
   refine lF_ ?_
   refine plD ?_
   refine then_normal ?_
   rw [show (decide (b.mn.y ≤ p.y ∧ p.y < b.mx.y)) = false from decide_eq_false (by omega)]
   exact ⟨trivial, ⟨litSize, rfl, fo_⟩, hm11⟩
  refine lv_ rfl _ (geF_ h14) ?_
  refine lF_ ?_
  refine ps_ (i := 7) ?_
  refine ps_ (i := 8) ?_
  refine ps_ (i := 9) ?_
  refine ps_ (i := 10) ?_
  refine ps_ (i := 11) ?_
  refine ps_ (i := 12) ?_
  refine lF_ ?_
  refine lF_ ?_
  refine plD ?_
  refine then_normal ?_
  rw [show (decide (b.mn.y ≤ p.y ∧ p.y < b.mx.y)) = false from decide_eq_false (by omega)]
  exact ⟨trivial, ⟨litSize, rfl, fo_⟩, hm11⟩
 clear hm11
 intro a18 w16 hI_
 obtain ⟨ht_, hF_, hm17⟩ := hI_
 obtain ⟨X19, rfl⟩ := frLit hF_
 clear hF_
 refine gwCut (fun a_ w_ => (True) ∧ Fr a_ 57 [(4, .bool false), (5, .bool (decide (b.mn.x ≤ p.x ∧ p.x < b.mx.x))), (6, .bool (decide (b.mn.y ≤ p.y ∧ p.y < b.mx.y))), (7, .bool (decide (b.mn.z ≤ p.z ∧ p.z < b.mx.z)))] ∧ Mem w w_ [.arr g2 23 (pcs p), .arr g5 25 (bxs b)]) ?_ ?_
 ·refine plStart ?_
  refine lp_ g2 2 ?_
  refine lv_ rfl (.int .i64 p.z) (ld_ 2 0 hm17) ?_
  refine lp_ g5 0 ?_
  refine lp_ g5 2 ?_
  refine lv_ rfl (.int .i64 b.mn.z) (ld_ 2 1 hm17) ?_
  by_cases h20 : b.mn.z ≤ p.z
  ·refine lv_ rfl _ (geT_ h20) ?_
   refine lT_ ?_
   refine lw_ rfl (.pointer (some ⟨g2, 2, none⟩)) (litRun kr_) ?_
   refine lw_ rfl (.int .i64 p.z) (ld_ 2 0 hm17) ?_
   refine lw_ rfl (.pointer (some ⟨g5, 3, none⟩)) (litRun kr_) ?_
   refine lw_ rfl (.pointer (some ⟨g5, 5, none⟩)) (litRun kr_) ?_
   refine lw_ rfl (.int .i64 b.mx.z) (ld_ 5 1 hm17) ?_
   by_cases h21 : p.z < b.mx.z
   ·refine lw_ rfl _ (lsT_ h21) ?_
    refine lT_ ?_
    refine lT_ ?_
    refine plD ?_
    refine then_normal ?_
    rw [show (decide (b.mn.z ≤ p.z ∧ p.z < b.mx.z)) = true from decide_eq_true (by omega)]
    exact ⟨trivial, ⟨litSize, rfl, fo_⟩, hm17⟩
   refine lw_ rfl _ (lsF_ h21) ?_
   refine lF_ ?_
   refine lF_ ?_
   refine plD ?_
   refine then_normal ?_
   rw [show (decide (b.mn.z ≤ p.z ∧ p.z < b.mx.z)) = false from decide_eq_false (by omega)]
   exact ⟨trivial, ⟨litSize, rfl, fo_⟩, hm17⟩
  refine lv_ rfl _ (geF_ h20) ?_
  refine lF_ ?_
  refine ps_ (i := 7) ?_
  refine ps_ (i := 8) ?_
  refine ps_ (i := 9) ?_
  refine ps_ (i := 10) ?_
  refine ps_ (i := 11) ?_
  refine ps_ (i := 12) ?_
  refine lF_ ?_
  refine lF_ ?_
  refine plD ?_
  refine then_normal ?_
  rw [show (decide (b.mn.z ≤ p.z ∧ p.z < b.mx.z)) = false from decide_eq_false (by omega)]
  exact ⟨trivial, ⟨litSize, rfl, fo_⟩, hm17⟩
 clear hm17
 intro a24 w22 hI_
 obtain ⟨ht_, hF_, hm23⟩ := hI_
 obtain ⟨X25, rfl⟩ := frLit hF_
 clear hF_
 refine sp_ fun _ hK26 => ?_
 rcases bool_or (decide (b.mn.x ≤ p.x ∧ p.x < b.mx.x)) with h27 | h27
 ·refine lv_ rfl (.bool false) (boolTo h27 (litRun kr_)) ?_
  refine lF_ ?_
  refine ps_ (i := 2) ?_
  refine lF_ ?_
  refine lF_ ?_
  refine ps_ (i := 5) ?_
  refine lF_ ?_
  refine lF_ ?_
  refine pt_ hK26 ?_
  refine wp_ret ?_
  refine br_ 4 (.bool false) ?_
  have hq0_ := of_decide_eq_false h27
  exact ⟨congrArg (fun b_ => Ending.returned (.bool b_)) (decide_eq_false (by unfold Bx.has; omega)).symm, hm23.bel⟩
 refine lv_ rfl (.bool true) (boolTo h27 (litRun kr_)) ?_
 refine lT_ ?_
 rcases bool_or (decide (b.mn.y ≤ p.y ∧ p.y < b.mx.y)) with h28 | h28
 ·refine lw_ rfl (.bool false) (boolTo h28 (litRun kr_)) ?_
  refine lF_ ?_
  refine lF_ ?_
  refine ps_ (i := 5) ?_
  refine lF_ ?_
  refine lF_ ?_
  refine pt_ hK26 ?_
  refine wp_ret ?_
  refine br_ 4 (.bool false) ?_
  have hq0_ := of_decide_eq_true h27
  have hq1_ := of_decide_eq_false h28
  exact ⟨congrArg (fun b_ => Ending.returned (.bool b_)) (decide_eq_false (by unfold Bx.has; omega)).symm, hm23.bel⟩
 refine lw_ rfl (.bool true) (boolTo h28 (litRun kr_)) ?_
 refine lT_ ?_
 refine lT_ ?_
 rcases bool_or (decide (b.mn.z ≤ p.z ∧ p.z < b.mx.z)) with h29 | h29
 ·refine lw_ rfl (.bool false) (boolTo h29 (litRun kr_)) ?_
  refine lF_ ?_
  refine lF_ ?_
  refine pt_ hK26 ?_
  refine wp_ret ?_
  refine br_ 4 (.bool false) ?_
  have hq0_ := of_decide_eq_true h27
  have hq1_ := of_decide_eq_true h28
  have hq2_ := of_decide_eq_false h29
  exact ⟨congrArg (fun b_ => Ending.returned (.bool b_)) (decide_eq_false (by unfold Bx.has; omega)).symm, hm23.bel⟩
 refine lw_ rfl (.bool true) (boolTo h29 (litRun kr_)) ?_
 refine lT_ ?_
 refine lT_ ?_
 refine pt_ hK26 ?_
 refine wp_ret ?_
 refine br_ 4 (.bool true) ?_
 have hq0_ := of_decide_eq_true h27
 have hq1_ := of_decide_eq_true h28
 have hq2_ := of_decide_eq_true h29
 exact ⟨congrArg (fun b_ => Ending.returned (.bool b_)) (decide_eq_true (by unfold Bx.has; omega)).symm, hm23.bel⟩
theorem empty_any (b : Bx) (w : World) : Calls Tryz.prog 123 #[.agg (bxs b).toArray] w (RetV w (.bool (decide b.none))) := by
 have hm0 := Mem.nil w
 go_enter Tryz.func123, Tryz.ntmps123
 refine litStart 28 [(0, .agg (bxs b).toArray)] kr_ (fun X0 => ?_)
 refine sp_ fun _ hK1 => ?_
 refine plBox hm0 (cs := bxs b) (i := 0) rfl (wn rfl) rfl le_ ?_
 intro g2 w4 hm3
 clear hm0
 try simp only [lc_] at hm3
 refine qP rfl ?_
 refine lF_ ?_
 refine pt_ hK1 ?_
 refine sp_ fun _ hK5 => ?_
 refine lp_ g2 0 ?_
 refine lp_ g2 0 ?_
 refine lv_ rfl (.int .i64 b.mn.x) (ld_ 0 0 hm3) ?_
 refine lp_ g2 3 ?_
 refine lp_ g2 3 ?_
 refine lv_ rfl (.int .i64 b.mx.x) (ld_ 3 0 hm3) ?_
 by_cases h6 : b.mx.x ≤ b.mn.x
 ·refine lv_ rfl _ (geT_ h6) ?_
  refine lT_ ?_
  refine ps_ (i := 8) ?_
  refine ps_ (i := 9) ?_
  refine ps_ (i := 10) ?_
  refine ps_ (i := 11) ?_
  refine ps_ (i := 12) ?_
  refine ps_ (i := 13) ?_
  refine ps_ (i := 14) ?_
  refine lT_ ?_
  refine lT_ ?_
  refine ps_ (i := 17) ?_
  refine ps_ (i := 18) ?_
  refine ps_ (i := 19) ?_
  refine ps_ (i := 20) ?_
  refine ps_ (i := 21) ?_
  refine ps_ (i := 22) ?_
  refine ps_ (i := 23) ?_
  refine lT_ ?_
  refine lT_ ?_
  refine pt_ hK5 ?_
  refine wpPrune [(2, .bool true)] fo_ (fun X7 => ?_)
  refine wp_ret ?_
  refine br_ 2 (.bool true) ?_
  exact ⟨congrArg (fun b_ => Ending.returned (.bool b_)) (decide_eq_true (by unfold Bx.none; omega)).symm, hm3.bel⟩
 refine lv_ rfl _ (geF_ h6) ?_
 refine lF_ ?_
 refine lw_ rfl (.pointer (some ⟨g2, 0, none⟩)) (litRun kr_) ?_
 refine lw_ rfl (.pointer (some ⟨g2, 1, none⟩)) (litRun kr_) ?_
 refine lw_ rfl (.int .i64 b.mn.y) (ld_ 1 0 hm3) ?_
 refine lw_ rfl (.pointer (some ⟨g2, 3, none⟩)) (litRun kr_) ?_
 refine lw_ rfl (.pointer (some ⟨g2, 4, none⟩)) (litRun kr_) ?_
 refine lw_ rfl (.int .i64 b.mx.y) (ld_ 4 0 hm3) ?_
 by_cases h8 : b.mx.y ≤ b.mn.y
 ·refine lw_ rfl _ (geT_ h8) ?_
  refine lT_ ?_
  refine lT_ ?_
  refine ps_ (i := 17) ?_
  refine ps_ (i := 18) ?_
  refine ps_ (i := 19) ?_
  refine ps_ (i := 20) ?_
  refine ps_ (i := 21) ?_
  refine ps_ (i := 22) ?_
  refine ps_ (i := 23) ?_
  refine lT_ ?_
  refine lT_ ?_
  refine pt_ hK5 ?_
  refine wpPrune [(2, .bool true)] fo_ (fun X9 => ?_)
  refine wp_ret ?_
  refine br_ 2 (.bool true) ?_
  exact ⟨congrArg (fun b_ => Ending.returned (.bool b_)) (decide_eq_true (by unfold Bx.none; omega)).symm, hm3.bel⟩
 refine lw_ rfl _ (geF_ h8) ?_
 refine lF_ ?_
 refine lF_ ?_
 refine lw_ rfl (.pointer (some ⟨g2, 0, none⟩)) (litRun kr_) ?_
 refine lw_ rfl (.pointer (some ⟨g2, 2, none⟩)) (litRun kr_) ?_
 refine lw_ rfl (.int .i64 b.mn.z) (ld_ 2 0 hm3) ?_
 refine lw_ rfl (.pointer (some ⟨g2, 3, none⟩)) (litRun kr_) ?_
 refine lw_ rfl (.pointer (some ⟨g2, 5, none⟩)) (litRun kr_) ?_
 refine lw_ rfl (.int .i64 b.mx.z) (ld_ 5 0 hm3) ?_
 by_cases h10 : b.mx.z ≤ b.mn.z
 ·refine lw_ rfl _ (geT_ h10) ?_
  refine lT_ ?_
  refine lT_ ?_
  refine pt_ hK5 ?_
  refine wpPrune [(2, .bool true)] fo_ (fun X11 => ?_)
  refine wp_ret ?_
  refine br_ 2 (.bool true) ?_
  exact ⟨congrArg (fun b_ => Ending.returned (.bool b_)) (decide_eq_true (by unfold Bx.none; omega)).symm, hm3.bel⟩
 refine lw_ rfl _ (geF_ h10) ?_
 refine lF_ ?_
 refine lF_ ?_
 refine pt_ hK5 ?_
 refine wpPrune [(2, .bool false)] fo_ (fun X12 => ?_)
 refine wp_ret ?_
 refine br_ 2 (.bool false) ?_
 exact ⟨congrArg (fun b_ => Ending.returned (.bool b_)) (decide_eq_false (by unfold Bx.none; omega)).symm, hm3.bel⟩
end Go.Proofs.YtbpihalphhoiaaaGreatDoor
namespace Go.Proofs.YtbpihalphhoiaaaGreatDoor
structure Mat where
 nm : List UInt8
 solid : Bool
 liquid : Bool
 falling : Bool
 fade : Int
 e1 : Int
 e2 : Int
 e3 : Int
def Mat.none : Mat := ⟨[], false, false, false, 16, 0, 0, 0⟩
def matAt (T : List Mat) (c : Int) : Mat := if c < 0 ∨ (T.length : Int) ≤ c then .none else T.getD c.toNat .none
structure Gr where
 box : Bx
 cells : List Int
def Gr.get (g : Gr) (p : Pt) : Int := if g.box.idx p < 0 then 0 else g.cells.getD (g.box.idx p).toNat 0
def Bx.rng (b : Bx) : Prop := b.mn.rng ∧ b.mx.rng
instance (b : Bx) : Decidable b.rng := by unfold Bx.rng; infer_instance
def bx0 : Bx := ⟨p0, p0⟩
def Gr.Valid (g : Gr) : Prop := g.box.rng ∧ ¬ ((g.box.vol = 0 ∧ g.box ≠ bx0) ∨ 2097152 < g.box.vol ∨ (g.cells.length : Int) ≠ g.box.vol) ∧ ∀ c ∈ g.cells, 0 ≤ c ∧ c < 256
instance (g : Gr) : Decidable g.Valid := by unfold Gr.Valid; infer_instance
def solidAt (g : Gr) (T : List Mat) (p : Pt) : Bool := decide (g.box.has p) && (matAt T (g.get p)).solid
theorem size_bd {b : Bx} (h : b.rng) : (0 ≤ b.size.x ∧ b.size.x ≤ 2097150) ∧ (0 ≤ b.size.y ∧ b.size.y ≤ 2097150) ∧ (0 ≤ b.size.z ∧ b.size.z ≤ 2097150) := by
 unfold Bx.rng Pt.rng at h
 unfold Bx.size
 split
 ·unfold p0; simp only; omega
 ·rename_i hn
  unfold Bx.none at hn
  unfold Pt.sub
  simp only
  omega
theorem mul_bd {x y X Y : Int} (hx : 0 ≤ x ∧ x ≤ X) (hy : 0 ≤ y ∧ y ≤ Y) : 0 ≤ x * y ∧ x * y ≤ X * Y :=
 ⟨Int.mul_nonneg hx.1 hy.1, Int.mul_le_mul hx.2 hy.2 hy.1 (by omega)⟩
theorem vol_bd {b : Bx} (h : b.rng) : (0 ≤ b.size.x * b.size.y ∧ b.size.x * b.size.y ≤ 4398038122500) ∧ (0 ≤ b.vol ∧ b.vol ≤ 9223345648600875000) := by
 obtain ⟨h1, h2, h3⟩ := size_bd h
 have g1 := mul_bd h1 h2
 have g2 := mul_bd g1 h3
 exact ⟨by omega, by unfold Bx.vol; omega⟩
theorem idx_bd {b : Bx} {p : Pt} (h : b.rng) (hp : b.has p) : b.size = b.mx.sub b.mn ∧ (0 ≤ p.x - b.mn.x ∧ p.x - b.mn.x < b.size.x) ∧ (0 ≤ p.y - b.mn.y ∧ p.y - b.mn.y < b.size.y) ∧ (0 ≤ p.z - b.mn.z ∧ p.z - b.mn.z < b.size.z) ∧
 (0 ≤ b.size.y * (p.z - b.mn.z) ∧ b.size.y * (p.z - b.mn.z) ≤ 4398038122500) ∧ (0 ≤ (p.y - b.mn.y) + b.size.y * (p.z - b.mn.z) ∧ (p.y - b.mn.y) + b.size.y * (p.z - b.mn.z) ≤ 4398038122500) ∧ (0 ≤ b.size.x * ((p.y - b.mn.y) + b.size.y * (p.z - b.mn.z)) ∧ b.size.x * ((p.y - b.mn.y) + b.size.y * (p.z - b.mn.z)) ≤ 9223345648600875000) ∧
 (0 ≤ b.idx p ∧ b.idx p < b.vol) := by
 have hs : b.size = b.mx.sub b.mn := by
  unfold Bx.size
  rw [if_neg]
  unfold Bx.has at hp
  unfold Bx.none
  omega
 obtain ⟨h1, h2, h3⟩ := size_bd h
 have hx : b.size.x = b.mx.x - b.mn.x := by rw [hs]; rfl
 have hy : b.size.y = b.mx.y - b.mn.y := by rw [hs]; rfl
 have hz : b.size.z = b.mx.z - b.mn.z := by rw [hs]; rfl
 have hvol : b.vol = b.size.x * b.size.y * b.size.z := rfl
 have hidx : b.idx p = (p.x - b.mn.x) + b.size.x * ((p.y - b.mn.y) + b.size.y * (p.z - b.mn.z)) := by unfold Bx.idx; rw [if_pos hp]
 have hv := vol_bd h
 unfold Bx.has at hp
 rw [hvol] at hv ⊢
 rw [hidx]
 clear hvol hidx
 generalize b.size.x = X at *
 generalize b.size.y = Y at *
 generalize b.size.z = Z at *
 have hdx : 0 ≤ p.x - b.mn.x ∧ p.x - b.mn.x < X := by omega
 have hdy : 0 ≤ p.y - b.mn.y ∧ p.y - b.mn.y < Y := by omega
 have hdz : 0 ≤ p.z - b.mn.z ∧ p.z - b.mn.z < Z := by omega
 generalize p.x - b.mn.x = u at *
 generalize p.y - b.mn.y = v at *
 generalize p.z - b.mn.z = t at *
 have g1 : 0 ≤ Y * t := Int.mul_nonneg (by omega) (by omega)
 have g2 : Y * t ≤ Y * (Z - 1) := Int.mul_le_mul_of_nonneg_left (by omega) (by omega)
 have g3 : Y * (Z - 1) = Y * Z - Y := by rw [Int.mul_sub, Int.mul_one]
 have g4 : 0 ≤ Y * Z ∧ Y * Z ≤ 2097150 * 2097150 := mul_bd (by omega) (by omega)
 have g5 : 0 ≤ X * (v + Y * t) := Int.mul_nonneg (by omega) (by omega)
 have g6 : X * (v + Y * t) ≤ X * (Y * Z - 1) := Int.mul_le_mul_of_nonneg_left (by omega) (by omega)
 have g7 : X * (Y * Z - 1) = X * Y * Z - X := by rw [Int.mul_sub, Int.mul_one, Int.mul_assoc]
 exact ⟨hs, hdx, hdy, hdz, by omega, by omega, by omega, by omega⟩
theorem Gr.Valid.idx {g : Gr} (h : g.Valid) {p : Pt} (hp : g.box.has p) : 0 ≤ g.box.idx p ∧ (g.box.idx p).toNat < g.cells.length := by
 have h1 := (idx_bd h.1 hp).2.2.2.2.2.2.2
 have h2 := h.2.1
 omega
theorem idx_neg {b : Bx} {p : Pt} (hp : ¬ b.has p) : b.idx p = -1 := by unfold Bx.idx; rw [if_neg hp]
end Go.Proofs.YtbpihalphhoiaaaGreatDoor
namespace Go.Proofs.YtbpihalphhoiaaaGreatDoor
open Go.RowKit
end Go.Proofs.YtbpihalphhoiaaaGreatDoor
