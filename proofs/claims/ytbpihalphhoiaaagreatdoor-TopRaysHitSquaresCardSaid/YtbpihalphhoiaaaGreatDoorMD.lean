/-
 MD: several texts in one. No statement is proved here.
-/
import Derived.Test.YtbpihalphhoiaaaGreatDoorMZ
import Derived.Test.YtbpihalphhoiaaaGreatDoorMB
import Derived.Test.YtbpihalphhoiaaaGreatDoorMA
set_option maxRecDepth 100000
set_option maxHeartbeats 4000000
set_option linter.unusedVariables false
set_option linter.unusedSimpArgs false
namespace Go.Proofs.YtbpihalphhoiaaaGreatDoor
open Go.RowKit
def digTo (x y z i : Nat) : Nat → Nat
 | 0 => 0
 | 1 => x / 2 ^ i % 2
 | 2 => x / 2 ^ i % 2 + 2 * (y / 2 ^ i % 2)
 | _ => dig x y z i
theorem digTo_lt (x y z i k : Nat) (h : k < 3) : digTo x y z i k < 2 ^ k := by
 rcases (by omega : k = 0 ∨ k = 1 ∨ k = 2) with rfl | rfl | rfl <;> simp [digTo] <;> omega
theorem digTo_succ (p : Pt) (i k : Nat) (h : k < 3) : digTo p.x.toNat p.y.toNat p.z.toNat i (k + 1) = digTo p.x.toNat p.y.toNat p.z.toNat i k + 2 ^ k * ((p.at k).toNat / 2 ^ i % 2) := by
 rcases (by omega : k = 0 ∨ k = 1 ∨ k = 2) with rfl | rfl | rfl <;> simp [digTo, Pt.at, dig]
theorem mo_or (n j b : Nat) (hn : n < 2 ^ j) (hb : b < 2) (hj : j < 60) : bits .or .i64 (n : Int) (wrap64 ((b : Int) * 2 ^ j)) = ((n + 2 ^ j * b : Nat) : Int) := by
 have hp : 2 ^ j ≤ 2 ^ 59 := Nat.pow_le_pow_right (by decide) (by omega)
 have hpp : (2 : Int) ^ j = ((2 ^ j : Nat) : Int) := by simp
 have hw : wrap64 ((b : Int) * 2 ^ j) = ((2 ^ j * b : Nat) : Int) := by
  rw [hpp, ← Int.natCast_mul, Nat.mul_comm]
  have : 2 ^ j * b ≤ 2 ^ j * 1 := Nat.mul_le_mul_left _ (by omega)
  unfold wrap64
  omega
 have hm : 2 ^ j * b ≤ 2 ^ j * 1 := Nat.mul_le_mul_left _ (by omega)
 rw [hw, i64_or_n n (2 ^ j * b) (by omega) (by omega)]
 congr 1
 rw [Nat.or_comm, ← Nat.two_pow_add_eq_or_of_lt hn b]
 omega
theorem encode_any (p : Pt) (w : World) : Calls Tryz.prog 98 #[.agg (pcs p).toArray] w (RetI w (mEnc p)) := by
 have hin := inside_any p
 by_cases hp : p.In
 ·rw [decide_eq_true hp] at hin
  have hE : mEnc p = ((encL 14 p.x.toNat p.y.toNat p.z.toNat : Nat) : Int) := by unfold mEnc; rw [if_pos hp]
  rw [hE]
  have HIN := Lib.hid hin
  have HAR := Lib.hid (array_any p)
  have HP := Lib.hid hp
  clear hin hE
  go_enter Tryz.func98, Tryz.ntmps98
  go_wp2_with (with_reducible refine bxArr (cs := pcs p) (.tmp 0) (wn rfl) rfl rfl ?_)
  intro w1 h1 hb
  go_wp2_with (with_reducible refine ldArr (.tmp 1) Tryz.ag_pt (wn rfl) rfl rfl rfl h1 ?_)
  refine (HIN.out _).mono ?_
  rintro e w2 ⟨rfl, b2⟩
  replace h1 := h1.below b2 h1.lt
  replace hb := hb.trans (b2.mono hb.size)
  clear b2
  go_wp2_with fail
  go_loopw [3, 10] (fun n i wr => ∃ (k N : Nat), k ≤ 14 ∧ i = .int .i64 (k : Int) ∧ n = .int .i64 (N : Int) ∧ Hid (N = encL k p.x.toNat p.y.toNat p.z.toNat) ∧ Arr wr w.heap.size 23 (pcs p) ∧ Below w.heap.size w wr) (fun _ i _ => 14 - (intOf i).toNat)
  case atStart => exact ⟨0, 0, by omega, rfl, rfl, Lib.hid rfl, h1, hb⟩
  case round =>
   clear h1 hb
   obtain ⟨i, N, hk, rfl, rfl, HN, h1, hb⟩ := hrel
   by_cases hlt : i < 14
   ·go_wp2_with (with_reducible refine ldArr (.tmp 1) Tryz.ag_pt (wn rfl) rfl rfl rfl h1 ?_)
    refine (HAR.out _).mono ?_
    rintro e w3 ⟨rfl, b3⟩
    replace h1 := h1.below b3 h1.lt
    replace hb := hb.trans (b3.mono hb.size)
    clear b3
    go_wp2_with fail
    go_loopw [3, 15] (fun n kk wi => ∃ (k M : Nat), k ≤ 3 ∧ kk = .int .i64 (k : Int) ∧ n = .int .i64 (M : Int) ∧ Hid (M = encL i p.x.toNat p.y.toNat p.z.toNat + 8 ^ i * digTo p.x.toNat p.y.toNat p.z.toNat i k) ∧ Arr wi w.heap.size 23 (pcs p) ∧ Below w.heap.size w wi) (fun _ kk _ => 3 - (intOf kk).toNat)
    case atStart => exact ⟨0, N, by omega, rfl, rfl, Lib.hid (by rw [HN.out]; rfl), h1, hb⟩
    case round =>
     clear h1 hb HN
     obtain ⟨k, M, hk3, rfl, rfl, HM, h1, hb⟩ := hrel
     by_cases h3 : k < 3
     ·have hg := pcs_get p h3
      have hc := HP.out.at_ k
      obtain ⟨c, hcv⟩ : ∃ c : Nat, p.at k = (c : Int) := ⟨(p.at k).toNat, by omega⟩
      obtain ⟨j, hj⟩ : ∃ j, j = 3 * i + k := ⟨_, rfl⟩
      have hji : (3 * (i : Int) + (k : Int)) = (j : Int) := by omega
      have HB := Lib.hid (show bits .and .i64 ((c : Int) / 2 ^ i) 1 = ((c / 2 ^ i % 2 : Nat) : Int) from by
       have h1 : ((c : Int) / 2 ^ i) = ((c / 2 ^ i : Nat) : Int) := by simp
       have h2 : c / 2 ^ i ≤ c := Nat.div_le_self _ _
       have h3 := i64_and_n (c / 2 ^ i) 1 (by omega) (by omega)
       rw [Nat.and_one_is_mod] at h3
       rw [h1]
       exact h3)
      have hbl : c / 2 ^ i % 2 < 2 := Nat.mod_lt _ (by decide)
      have hML : M < 2 ^ j := by
       rw [HM.out, hj, Nat.pow_add, Nat.pow_mul]
       have e1 := encL_lt i p.x.toNat p.y.toNat p.z.toNat
       have e2 := digTo_lt p.x.toNat p.y.toNat p.z.toNat i k h3
       have e3 : (2 ^ 3) ^ i * (digTo p.x.toNat p.y.toNat p.z.toNat i k + 1) ≤ (2 ^ 3) ^ i * 2 ^ k := Nat.mul_le_mul_left _ e2
       rw [Nat.mul_add, Nat.mul_one] at e3
       rw [show (2 : Nat) ^ 3 = 8 by decide] at e3 ⊢
       omega
      have HOR := Lib.hid (mo_or M j (c / 2 ^ i % 2) hML hbl (by omega))
      have HM2 : Hid (M + 2 ^ j * (c / 2 ^ i % 2) = encL i p.x.toNat p.y.toNat p.z.toNat + 8 ^ i * digTo p.x.toNat p.y.toNat p.z.toNat i (k + 1)) := Lib.hid (by
       rw [HM.out, digTo_succ p i k h3, hcv, Int.toNat_natCast, hj, Nat.pow_add, Nat.pow_mul, show (2 : Nat) ^ 3 = 8 by decide, Nat.mul_add, Nat.mul_assoc]
       omega)
      rw [hcv] at hg
      clear HM hc hcv hML hj
      generalize c / 2 ^ i % 2 = b at *
      go_wp2_with (with_reducible refine ixArr (.tmp 14) (.tmp 15) k _ Tryz.und_i3 Tryz.und_int Tryz.one_int (wn rfl) rfl rfl rfl rfl hg rfl ?_)
      rw [HB.out]
      rw [HOR.out]
      refine ⟨⟨k + 1, M + 2 ^ j * b, by omega, by simp, rfl, HM2, h1, hb⟩, ?_⟩
      simp [intOf]; omega
     ·obtain rfl : k = 3 := by omega
      have HN2 : Hid (M = encL (i + 1) p.x.toNat p.y.toNat p.z.toNat) := Lib.hid (by rw [HM.out, encL_top]; rfl)
      go_wp2_with fail
      refine ⟨⟨i + 1, M, by omega, by simp, rfl, HN2, h1, hb⟩, ?_⟩
      simp [intOf]; omega
   ·obtain rfl : i = 14 := by omega
    go_wp2_with fail
    go_ret
    exact ⟨by rw [← HN.out]; rfl, hb⟩
 ·rw [decide_eq_false hp] at hin
  rw [mEnc_out hp]
  go_enter Tryz.func98, Tryz.ntmps98
  go_wp2_with (with_reducible refine bxArr (cs := pcs p) (.tmp 0) (wn rfl) rfl rfl ?_)
  intro w1 h1 hb
  go_wp2_with (with_reducible refine ldArr (.tmp 1) Tryz.ag_pt (wn rfl) rfl rfl rfl h1 ?_)
  refine (hin _).mono ?_
  rintro e w2 ⟨rfl, b2⟩
  replace hb := hb.trans (b2.mono hb.size)
  clear b2
  go_wp2_with fail
  go_ret
  exact ⟨rfl, hb⟩
def RetPB (w : World) (r : Pt × Bool) (e : Ending) (w' : World) : Prop := e = .returned (.tuple #[.agg (pcs r.1).toArray, .bool r.2]) ∧ Below w.heap.size w w'
def decT (m i k : Nat) : Pt := ⟨(decL (if 0 < k then i + 1 else i) m : Int), (decL (if 1 < k then i + 1 else i) (m / 2) : Int), (decL (if 2 < k then i + 1 else i) (m / 4) : Int)⟩
theorem decT_at (m i k : Nat) (h : k < 3) : (decT m i k).at k = (decL i (m / 2 ^ k) : Int) := by
 rcases (by omega : k = 0 ∨ k = 1 ∨ k = 2) with rfl | rfl | rfl <;> simp [decT, Pt.at]
theorem decT_set (m i k : Nat) (h : k < 3) : (pcs (decT m i k)).set k (.int .i64 ((decL (i + 1) (m / 2 ^ k) : Nat) : Int)) = pcs (decT m i (k + 1)) := by
 rcases (by omega : k = 0 ∨ k = 1 ∨ k = 2) with rfl | rfl | rfl <;> simp [decT, pcs]
theorem decT_next (m i : Nat) : decT m i 3 = decT m (i + 1) 0 := by simp [decT]
theorem decT_end (m : Nat) : decT m 14 0 = mDecP m := by simp [decT, mDecP]
theorem decode_any (n : Int) (w : World) : Calls Tryz.prog 99 #[.int .i64 n] w (RetPB w (mDec n)) := by
 unfold mDec
 by_cases h0 : n < 0
 ·rw [if_neg (by omega)]
  go_enter Tryz.func99, Tryz.ntmps99
  go_wp2_with (with_reducible refine alArr (z := pcs p0) Tryz.ag_pt (wn rfl) rfl ?_)
  intro w1 h2 hb
  go_wp2_with (with_reducible refine stArrG (cs := pcs p0) (.tmp 2) (.tmp 13) Tryz.ag_pt (wn rfl) rfl rfl kr_ h2 rfl rfl (pcs_one _) ?_)
  intro w2 h2 hg
  replace hb := hb.grown hg hb.size (fun k e => by cases e; exact Nat.le_refl _)
  go_wp2_with fail
  exact bodyPost_ret (res_cellslot (v := .bool false) (pcs p0) Tryz.results99 Tryz.ag_pt _ rfl rfl rfl h2) rfl ⟨rfl, hb⟩
 ·by_cases hbig : 4398046511104 ≤ n
  ·rw [if_neg (by omega)]
   go_enter Tryz.func99, Tryz.ntmps99
   go_wp2_with (with_reducible refine alArr (z := pcs p0) Tryz.ag_pt (wn rfl) rfl ?_)
   intro w1 h2 hb
   go_wp2_with (with_reducible refine stArrG (cs := pcs p0) (.tmp 2) (.tmp 13) Tryz.ag_pt (wn rfl) rfl rfl kr_ h2 rfl rfl (pcs_one _) ?_)
   intro w2 h2 hg
   replace hb := hb.grown hg hb.size (fun k e => by cases e; exact Nat.le_refl _)
   go_wp2_with fail
   exact bodyPost_ret (res_cellslot (v := .bool false) (pcs p0) Tryz.results99 Tryz.ag_pt _ rfl rfl rfl h2) rfl ⟨rfl, hb⟩
  ·rw [if_pos (by omega)]
   obtain ⟨m, rfl⟩ : ∃ m : Nat, n = (m : Int) := ⟨n.toNat, by omega⟩
   rw [Int.toNat_natCast]
   have hm : m < 4398046511104 := by omega
   clear h0 hbig
   go_enter Tryz.func99, Tryz.ntmps99
   go_wp2_with (with_reducible refine alArr (z := pcs p0) Tryz.ag_pt (wn rfl) rfl ?_)
   intro w1 h2 hb
   go_wp2_with (with_reducible refine alArr (z := pcs p0) Tryz.ag_i3 (wn rfl) rfl ?_)
   intro w2 h4 b2
   have l2 := h2.lt
   replace h2 := h2.below b2 l2
   have ls := hb.size
   have hne : w.heap.size ≠ w1.heap.size := by omega
   replace hb := hb.trans (b2.mono ls)
   clear b2 l2
   generalize w1.heap.size = g4 at *
   go_wp2_with fail
   go_loopw [14] (fun i wr => ∃ k : Nat, k ≤ 14 ∧ i = .int .i64 (k : Int) ∧ Arr wr g4 120 (pcs (decT m k 0)) ∧ Arr wr w.heap.size 23 (pcs p0) ∧ Below w.heap.size w wr) (fun i _ => 14 - (intOf i).toNat)
   case atStart => exact ⟨0, by omega, rfl, h4, h2, hb⟩
   case round =>
    clear h2 h4 hb
    obtain ⟨i, hk, rfl, h4, h2, hb⟩ := hrel
    by_cases hlt : i < 14
    ·go_wp2_with fail
     go_loopw [17] (fun kk wi => ∃ k : Nat, k ≤ 3 ∧ kk = .int .i64 (k : Int) ∧ Arr wi g4 120 (pcs (decT m i k)) ∧ Arr wi w.heap.size 23 (pcs p0) ∧ Below w.heap.size w wi) (fun kk _ => 3 - (intOf kk).toNat)
     case atStart => exact ⟨0, by omega, rfl, h4, h2, hb⟩
     case round =>
      clear h2 h4 hb
      obtain ⟨k, hk3, rfl, h4, h2, hb⟩ := hrel
      by_cases h3 : k < 3
      ·have hg := pcs_get (decT m i k) h3
       rw [decT_at m i k h3] at hg
       have hset := decT_set m i k h3
       have htop := decL_top i (m / 2 ^ k)
       have hlow := decL_lt i (m / 2 ^ k)
       have hbit : m / 2 ^ k / 8 ^ i % 2 = m / 2 ^ (3 * i + k) % 2 := by
        rw [Nat.div_div_eq_div_mul, Nat.pow_add, Nat.pow_mul, show (2 : Nat) ^ 3 = 8 by decide, Nat.mul_comm]
       rw [hbit] at htop
       obtain ⟨j, hj⟩ : ∃ j, j = 3 * i + k := ⟨_, rfl⟩
       have hji : (3 * (i : Int) + (k : Int)) = (j : Int) := by omega
       rw [← hj] at htop
       have hbl : m / 2 ^ j % 2 < 2 := Nat.mod_lt _ (by decide)
       have HB := Lib.hid (show bits .and .i64 ((m : Int) / 2 ^ j) 1 = ((m / 2 ^ j % 2 : Nat) : Int) from by
        have h1 : ((m : Int) / 2 ^ j) = ((m / 2 ^ j : Nat) : Int) := by simp
        have h2 : m / 2 ^ j ≤ m := Nat.div_le_self _ _
        have h3 := i64_and_n (m / 2 ^ j) 1 (by omega) (by omega)
        rw [Nat.and_one_is_mod] at h3
        rw [h1]
        exact h3)
       have HOR := Lib.hid (mo_or (decL i (m / 2 ^ k)) i (m / 2 ^ j % 2) hlow hbl (by omega))
       rw [← htop] at HOR
       have hc := h4.cell hg
       have hf := h4.thaw k
       have h4s := h4.set k (.int .i64 ((decL (i + 1) (m / 2 ^ k) : Nat) : Int))
       rw [hset] at h4s
       have h2s := h2.other (fun e => hne e.symm) k (.int .i64 ((decL (i + 1) (m / 2 ^ k) : Nat) : Int))
       have hbs := hb.setCell (p := ⟨g4, k, none⟩) ls (.int .i64 ((decL (i + 1) (m / 2 ^ k) : Nat) : Int))
       have hjl : j < 42 := by omega
       clear hg hset htop hlow hbit hj
       generalize decL i (m / 2 ^ k) = a at *
       generalize decL (i + 1) (m / 2 ^ k) = a2 at *
       go_wp2_with fail
       go_region
       rw [HB.out, HOR.out]
       have h4d := h4s.drew
       have h2d := h2s.drew
       have hbd := hbs.drew
       clear hc hf h4 h2 hb h4s h2s hbs
       go_wp2_with fail
       refine ⟨⟨k + 1, by omega, by simp, h4d, h2d, hbd⟩, ?_⟩
       simp [intOf]; omega
      ·obtain rfl : k = 3 := by omega
       rw [decT_next] at h4
       go_wp2_with fail
       refine ⟨⟨i + 1, by omega, by simp, h4, h2, hb⟩, ?_⟩
       simp [intOf]; omega
    ·obtain rfl : i = 14 := by omega
     rw [decT_end] at h4
     go_wp2_with (with_reducible refine ldArr (.tmp 4) Tryz.ag_i3 (wn rfl) rfl rfl rfl h4 ?_)
     refine (point_any _ _).mono ?_
     rintro e w5 ⟨rfl, b5⟩
     replace h2 := h2.below b5 h2.lt
     replace hb := hb.trans (b5.mono hb.size)
     go_wp2_with (with_reducible refine stArrG (cs := pcs (mDecP m)) (.tmp 2) (.tmp 37) Tryz.ag_pt (wn rfl) rfl rfl rfl h2 rfl rfl (pcs_one _) ?_)
     intro w6 h6 hg
     replace hb := hb.grown hg hb.size (fun k e => by cases e; exact Nat.le_refl _)
     go_wp2_with fail
     exact bodyPost_ret (res_cellslot (v := .bool true) (pcs (mDecP m)) Tryz.results99 Tryz.ag_pt _ rfl rfl rfl h6) rfl ⟨rfl, hb⟩
theorem coordinates_any (p : Pt) (w : World) : Calls Tryz.prog 83 #[.agg (pcs p).toArray] w (RetV w (.agg (pcs p).toArray)) := by
 have hm0 := Mem.nil w
 go_enter Tryz.func83, Tryz.ntmps83
 refine litStart 10 [(0, .agg (pcs p).toArray)] kr_ (fun X0 => ?_)
 refine sp_ fun _ hK1 => ?_
 refine plBox hm0 (cs := pcs p) (i := 0) rfl (wn rfl) rfl le_ ?_
 intro g2 w4 hm3
 clear hm0
 try simp only [lc_] at hm3
 refine qP rfl ?_
 refine plAlloc (z := [.int .i64 0, .int .i64 0, .int .i64 0]) Ty.ag_3_int hm3 (i := 1) rfl (wn rfl) rfl ?_
 intro g5 w7 hm6
 clear hm3
 try simp only [lc_] at hm6
 refine qP rfl ?_
 refine pt_ hK1 ?_
 refine sp_ fun _ hK8 => ?_
 refine lp_ g2 0 ?_
 refine lv_ rfl (.int .i64 p.x) (ld_ 0 0 hm6) ?_
 refine lp_ g2 1 ?_
 refine lv_ rfl (.int .i64 p.y) (ld_ 1 0 hm6) ?_
 refine lp_ g2 2 ?_
 refine lv_ rfl (.int .i64 p.z) (ld_ 2 0 hm6) ?_
 refine lk_ (.agg (pcs p).toArray) ?_
 refine plStore 1 Ty.ag_3_int hm6 rfl (i := 7) (cs := pcs p) rfl (wn rfl) rfl le_ le_ rfl rfl kr_ ?_
 intro w10 hm9
 clear hm6
 try simp only [lc_] at hm9
 refine qNone rfl ?_
 refine pt_ hK8 ?_
 refine wp_ret ?_
 refine bodyPost_ret (v := .agg (pcs p).toArray) (gRes1 rfl (gResAg (cs := pcs p) 1 hm9 rfl Ty.ag_3_int rfl (lg_))) rfl ?_
 exact ⟨by rfl, hm9.bel⟩
theorem before_any (t u : Int × Int) (ht : Tsm t) (hu : Tsm u) (w : World) : Calls Tryz.prog 85 #[.agg (tcs t).toArray, .agg (tcs u).toArray] w (RetV w (.bool (tltb t u))) := by
 have ht1_ := ht.1
 have ht2_ := ht.2
 have hu1_ := hu.1
 have hu2_ := hu.2
 have hm0 := Mem.nil w
 go_enter Tryz.func85, Tryz.ntmps85
 refine litStart 16 [(0, .agg (tcs t).toArray), (1, .agg (tcs u).toArray)] kr_ (fun X0 => ?_)
 refine sp_ fun _ hK1 => ?_
 refine plBox hm0 (cs := tcs t) (i := 0) rfl (wn rfl) rfl le_ ?_
 intro g2 w4 hm3
 clear hm0
 try simp only [lc_] at hm3
 refine qP rfl ?_
 refine plBox hm3 (cs := tcs u) (i := 1) rfl (wn rfl) rfl le_ ?_
 intro g5 w7 hm6
 clear hm3
 try simp only [lc_] at hm6
 refine qP rfl ?_
 refine lF_ ?_
 refine pt_ hK1 ?_
 refine sp_ fun _ hK8 => ?_
 refine lp_ g2 0 ?_
 refine lv_ rfl (.int .i64 t.1) (ld_ 0 0 hm6) ?_
 refine lp_ g5 1 ?_
 refine lv_ rfl (.int .i64 u.2) (ld_ 1 1 hm6) ?_
 refine lv_ rfl (.int .i64 (t.1 * u.2)) (mulRun' (A := t.1) (B := u.2) (.tmp 6) (.tmp 8) rfl le_ le_ rfl (by first | omega | exact mul_in (by omega) (by omega))) ?_
 refine lp_ g5 0 ?_
 refine lv_ rfl (.int .i64 u.1) (ld_ 0 1 hm6) ?_
 refine lp_ g2 1 ?_
 refine lv_ rfl (.int .i64 t.2) (ld_ 1 0 hm6) ?_
 refine lv_ rfl (.int .i64 (u.1 * t.2)) (mulRun' (A := u.1) (B := t.2) (.tmp 11) (.tmp 13) rfl le_ le_ rfl (by first | omega | exact mul_in (by omega) (by omega))) ?_
 by_cases h9 : (t.1 * u.2) < (u.1 * t.2)
 ·refine lv_ rfl _ (lsT_ h9) ?_
  refine lT_ ?_
  refine pt_ hK8 ?_
  refine wpPrune [(4, .bool true)] fo_ (fun X10 => ?_)
  refine wp_ret ?_
  refine br_ 4 (.bool true) ?_
  exact ⟨congrArg (fun b_ => Ending.returned (.bool b_)) (by unfold tltb; simp_all), hm6.bel⟩
 refine lv_ rfl _ (lsF_ h9) ?_
 refine lF_ ?_
 refine pt_ hK8 ?_
 refine wpPrune [(4, .bool false)] fo_ (fun X11 => ?_)
 refine wp_ret ?_
 refine br_ 4 (.bool false) ?_
 exact ⟨congrArg (fun b_ => Ending.returned (.bool b_)) (by unfold tltb; simp_all), hm6.bel⟩
theorem towards_any (a b : Int) (ha : -1048575 ≤ a ∧ a ≤ 1048575) (hb : -1048575 ≤ b ∧ b ≤ 1048575) (w : World) : Calls Tryz.prog 84 #[.int .i64 a, .int .i64 b] w (RetV w (.agg (axs (toward a b)).toArray)) := by
 have hm0 := Mem.nil w
 go_enter Tryz.func84, Tryz.ntmps84
 refine litStart 28 [(0, .int .i64 a), (1, .int .i64 b)] kr_ (fun X0 => ?_)
 refine sp_ fun _ hK1 => ?_
 refine plAlloc (z := [.int .i64 0, .int .i64 0, .int .i64 0, .int .i64 0]) Ty.ag_voxel_ray_axis hm0 (i := 0) rfl (wn rfl) rfl ?_
 intro g2 w4 hm3
 clear hm0
 try simp only [lc_] at hm3
 refine qP rfl ?_
 refine pt_ hK1 ?_
 refine sk_ fun _ hK5 => ?_
 refine sp_ fun _ hK6 => ?_
 refine li_ b ?_
 refine li_ a ?_
 refine lv_ rfl _ (sb_ b a) ?_
 refine li_ (b - a) ?_
 refine pt_ hK6 ?_
 refine wp_block ?_
 refine sp_ fun _ hK7 => ?_
 refine li_ (b - a) ?_
 by_cases h8 : 0 < (b - a)
 ·refine lv_ rfl _ (gtT_ h8) ?_
  refine lT_ ?_
  refine pt_ hK7 ?_
  refine wp_cond_true le_ ?_
  refine sp_ fun _ hK9 => ?_
  refine li_ a ?_
  refine li_ (b - a) ?_
  refine lv_ rfl (.int .i64 (2 * (b - a))) (mulRun (A := 2) (B := (b - a)) (C := 2 * (b - a)) (.const (.int .i64 2)) (.tmp 13) rfl le_ le_ rfl (by omega)) ?_
  refine lk_ (.agg (tcs (1, 2 * (b - a))).toArray) ?_
  refine lk_ (.agg ([.int .i64 a, .int .i64 1, .int .i64 1, .int .i64 (2 * (b - a))]).toArray) ?_
  refine plStore 0 Ty.ag_voxel_ray_axis hm3 rfl (i := 5) (cs := [.int .i64 a, .int .i64 1, .int .i64 1, .int .i64 (2 * (b - a))]) rfl (wn rfl) rfl le_ le_ rfl rfl kr_ ?_
  intro w11 hm10
  clear hm3
  try simp only [lc_] at hm10
  refine qNone rfl ?_
  refine pt_ hK9 ?_
  refine wpPrune [(0, .int .i64 a), (4, .pointer (some ⟨g2, 0, none⟩))] fo_ (fun X12 => ?_)
  refine wp_ret ?_
  refine inBlock_ret ?_
  refine then_ret ?_
  refine bodyPost_ret (v := .agg ([.int .i64 a, .int .i64 1, .int .i64 1, .int .i64 (2 * (b - a))]).toArray) (gRes1 rfl (gResAg (cs := [.int .i64 a, .int .i64 1, .int .i64 1, .int .i64 (2 * (b - a))]) 0 hm10 rfl Ty.ag_voxel_ray_axis rfl (lg_))) rfl ?_
  exact ⟨by unfold toward; rw [if_pos h8]; rfl, hm10.bel⟩
 refine lv_ rfl _ (gtF_ h8) ?_
 refine lF_ ?_
 refine pt_ hK7 ?_
 refine wp_cond_false le_ ?_
 refine sp_ fun _ hK13 => ?_
 refine li_ (b - a) ?_
 by_cases h14 : (b - a) < 0
 ·refine lv_ rfl _ (lsT_ h14) ?_
  refine lT_ ?_
  refine pt_ hK13 ?_
  refine wp_cond_true le_ ?_
  refine sp_ fun _ hK15 => ?_
  refine li_ a ?_
  refine li_ (b - a) ?_
  refine lv_ rfl (.int .i64 ((-2) * (b - a))) (mulRun (A := (-2)) (B := (b - a)) (C := (-2) * (b - a)) (.const (.int .i64 (-2))) (.tmp 21) rfl le_ le_ rfl (by omega)) ?_
  refine lk_ (.agg (tcs (1, (-2) * (b - a))).toArray) ?_
  refine lk_ (.agg ([.int .i64 a, .int .i64 (-1), .int .i64 1, .int .i64 ((-2) * (b - a))]).toArray) ?_
  refine plStore 0 Ty.ag_voxel_ray_axis hm3 rfl (i := 5) (cs := [.int .i64 a, .int .i64 (-1), .int .i64 1, .int .i64 ((-2) * (b - a))]) rfl (wn rfl) rfl le_ le_ rfl rfl kr_ ?_
  intro w17 hm16
  clear hm3
  try simp only [lc_] at hm16
  refine qNone rfl ?_
  refine pt_ hK15 ?_
  refine wpPrune [(0, .int .i64 a), (4, .pointer (some ⟨g2, 0, none⟩))] fo_ (fun X18 => ?_)
  refine wp_ret ?_
  refine inBlock_ret ?_
  refine then_ret ?_
  refine bodyPost_ret (v := .agg ([.int .i64 a, .int .i64 (-1), .int .i64 1, .int .i64 ((-2) * (b - a))]).toArray) (gRes1 rfl (gResAg (cs := [.int .i64 a, .int .i64 (-1), .int .i64 1, .int .i64 ((-2) * (b - a))]) 0 hm16 rfl Ty.ag_voxel_ray_axis rfl (lg_))) rfl ?_
  exact ⟨by unfold toward; rw [if_neg h8, if_pos h14]; rfl, hm16.bel⟩
 refine lv_ rfl _ (lsF_ h14) ?_
 refine lF_ ?_
 refine pt_ hK13 ?_
 refine wp_cond_false le_ ?_
 refine wp_skip ?_
 refine inBlock_normal ?_
 refine tn_ hK5 ?_
 refine sp_ fun _ hK19 => ?_
 refine li_ a ?_
 refine lk_ (.agg (tcs (2, 1)).toArray) ?_
 refine lk_ (.agg ([.int .i64 a, .int .i64 0, .int .i64 2, .int .i64 1]).toArray) ?_
 refine plStore 0 Ty.ag_voxel_ray_axis hm3 rfl (i := 3) (cs := [.int .i64 a, .int .i64 0, .int .i64 2, .int .i64 1]) rfl (wn rfl) rfl le_ le_ rfl rfl kr_ ?_
 intro w21 hm20
 clear hm3
 try simp only [lc_] at hm20
 refine qNone rfl ?_
 refine pt_ hK19 ?_
 refine wpPrune [(4, .pointer (some ⟨g2, 0, none⟩))] fo_ (fun X22 => ?_)
 refine wp_ret ?_
 refine bodyPost_ret (v := .agg ([.int .i64 a, .int .i64 0, .int .i64 2, .int .i64 1]).toArray) (gRes1 rfl (gResAg (cs := [.int .i64 a, .int .i64 0, .int .i64 2, .int .i64 1]) 0 hm20 rfl Ty.ag_voxel_ray_axis rfl (lg_))) rfl ?_
 exact ⟨by unfold toward; rw [if_neg h8, if_neg h14]; rfl, hm20.bel⟩
theorem sub_any (p q : Pt) (hp : (-1073741824 ≤ p.x ∧ p.x ≤ 1073741824) ∧ (-1073741824 ≤ p.y ∧ p.y ≤ 1073741824) ∧ (-1073741824 ≤ p.z ∧ p.z ≤ 1073741824)) (hq : (-1073741824 ≤ q.x ∧ q.x ≤ 1073741824) ∧ (-1073741824 ≤ q.y ∧ q.y ≤ 1073741824) ∧ (-1073741824 ≤ q.z ∧ q.z ≤ 1073741824)) (w : World) : Calls Tryz.prog 16 #[.agg (pcs p).toArray, .agg (pcs q).toArray] w (RetV w (.agg (pcs (p.sub q)).toArray)) := by
 have hm0 := Mem.nil w
 go_enter Tryz.func16, Tryz.ntmps16
 refine litStart 21 [(0, .agg (pcs p).toArray), (1, .agg (pcs q).toArray)] kr_ (fun X0 => ?_)
 refine sp_ fun _ hK1 => ?_
 refine plBox hm0 (cs := pcs p) (i := 0) rfl (wn rfl) rfl le_ ?_
 intro g2 w4 hm3
 clear hm0
 try simp only [lc_] at hm3
 refine qP rfl ?_
 refine plBox hm3 (cs := pcs q) (i := 1) rfl (wn rfl) rfl le_ ?_
 intro g5 w7 hm6
 clear hm3
 try simp only [lc_] at hm6
 refine qP rfl ?_
 refine plAlloc (z := [.int .i64 0, .int .i64 0, .int .i64 0]) Ty.ag_voxel_api_Point hm6 (i := 2) rfl (wn rfl) rfl ?_
 intro g8 w10 hm9
 clear hm6
 try simp only [lc_] at hm9
 refine qP rfl ?_
 refine pt_ hK1 ?_
 refine sp_ fun _ hK11 => ?_
 refine lp_ g2 0 ?_
 refine lv_ rfl (.int .i64 p.x) (ld_ 0 0 hm9) ?_
 refine lp_ g5 0 ?_
 refine lv_ rfl (.int .i64 q.x) (ld_ 0 1 hm9) ?_
 refine lv_ rfl _ (sb_ p.x q.x) ?_
 refine lp_ g2 1 ?_
 refine lv_ rfl (.int .i64 p.y) (ld_ 1 0 hm9) ?_
 refine lp_ g5 1 ?_
 refine lv_ rfl (.int .i64 q.y) (ld_ 1 1 hm9) ?_
 refine lv_ rfl _ (sb_ p.y q.y) ?_
 refine lp_ g2 2 ?_
 refine lv_ rfl (.int .i64 p.z) (ld_ 2 0 hm9) ?_
 refine lp_ g5 2 ?_
 refine lv_ rfl (.int .i64 q.z) (ld_ 2 1 hm9) ?_
 refine lv_ rfl _ (sb_ p.z q.z) ?_
 refine lk_ (.agg (pcs ⟨p.x - q.x, p.y - q.y, p.z - q.z⟩).toArray) ?_
 refine plStore 2 Ty.ag_voxel_api_Point hm9 rfl (i := 16) (cs := pcs ⟨p.x - q.x, p.y - q.y, p.z - q.z⟩) rfl (wn rfl) rfl le_ le_ rfl rfl kr_ ?_
 intro w13 hm12
 clear hm9
 try simp only [lc_] at hm12
 refine qNone rfl ?_
 refine pt_ hK11 ?_
 refine wpPrune [(4, .pointer (some ⟨g8, 0, none⟩))] fo_ (fun X14 => ?_)
 refine wp_ret ?_
 refine bodyPost_ret (v := .agg (pcs ⟨p.x - q.x, p.y - q.y, p.z - q.z⟩).toArray) (gRes1 rfl (gResAg (cs := pcs ⟨p.x - q.x, p.y - q.y, p.z - q.z⟩) 2 hm12 rfl Ty.ag_voxel_api_Point rfl (lg_))) rfl ?_
 exact ⟨by rfl, hm12.bel⟩
theorem near_any (n : Int) (w : World) : Calls Tryz.prog 96 #[.int .i64 n] w (RetV w (.bool (decide (-1048575 ≤ n ∧ n ≤ 1048575)))) := by
 have hm0 := Mem.nil w
 go_enter Tryz.func96, Tryz.ntmps96
 refine litStart 9 [(0, .int .i64 n)] kr_ (fun X0 => ?_)
 refine sp_ fun _ hK1 => ?_
 refine lF_ ?_
 refine pt_ hK1 ?_
 refine sp_ fun _ hK2 => ?_
 refine li_ n ?_
 by_cases h3 : (-1048575) ≤ n
 ·refine lv_ rfl _ (geT_ h3) ?_
  refine lT_ ?_
  refine lw_ rfl (.int .i64 n) (litRun kr_) ?_
  by_cases h4 : n ≤ 1048575
  ·refine lw_ rfl _ (leT_ h4) ?_
   refine lT_ ?_
   refine lT_ ?_
   refine pt_ hK2 ?_
   refine wp_ret ?_
   refine br_ 2 (.bool true) ?_
   exact ⟨congrArg (fun b_ => Ending.returned (.bool b_)) (decide_eq_true (by omega)).symm, hm0.bel⟩
  refine lw_ rfl _ (leF_ h4) ?_
  refine lF_ ?_
  refine lF_ ?_
  refine pt_ hK2 ?_
  refine wp_ret ?_
  refine br_ 2 (.bool false) ?_
  exact ⟨congrArg (fun b_ => Ending.returned (.bool b_)) (decide_eq_false (by omega)).symm, hm0.bel⟩
 refine lv_ rfl _ (geF_ h3) ?_
 refine lF_ ?_
 refine ps_ (i := 3) ?_
 refine ps_ (i := 4) ?_
 refine lF_ ?_
 refine lF_ ?_
 refine pt_ hK2 ?_
 refine wp_ret ?_
 refine br_ 2 (.bool false) ?_
 exact ⟨congrArg (fun b_ => Ending.returned (.bool b_)) (decide_eq_false (by omega)).symm, hm0.bel⟩
theorem ranged_any (p : Pt) (w : World) : Calls Tryz.prog 68 #[.agg (pcs p).toArray] w (RetV w (.bool (decide p.rng))) := by
 have hm0 := Mem.nil w
 go_enter Tryz.func68, Tryz.ntmps68
 refine litStart 16 [(0, .agg (pcs p).toArray)] kr_ (fun X0 => ?_)
 refine sp_ fun _ hK1 => ?_
 refine plBox hm0 (cs := pcs p) (i := 0) rfl (wn rfl) rfl le_ ?_
 intro g2 w4 hm3
 clear hm0
 try simp only [lc_] at hm3
 refine qP rfl ?_
 refine lF_ ?_
 refine pt_ hK1 ?_
 refine sp_ fun _ hK5 => ?_
 refine lp_ g2 0 ?_
 refine lv_ rfl (.int .i64 p.x) (ld_ 0 0 hm3) ?_
 refine plCall (i := 2) 96 [.int .i64 p.x] [] [] rfl kr_ (wn rfl) rfl le_ (litArgs kr_) (near_any p.x _) ?_
 rintro e w6 ⟨rfl, hbz⟩
 have hm7 := hm3.below hbz
 clear hbz hm3
 refine ⟨_, rfl, ?_⟩
 refine qP rfl ?_
 rcases bool_or (decide (-1048575 ≤ p.x ∧ p.x ≤ 1048575)) with h8 | h8
 ·rw [h8]
  refine lF_ ?_
  refine ps_ (i := 4) ?_
  refine ps_ (i := 5) ?_
  refine ps_ (i := 6) ?_
  refine lF_ ?_
  refine lF_ ?_
  refine ps_ (i := 9) ?_
  refine ps_ (i := 10) ?_
  refine ps_ (i := 11) ?_
  refine lF_ ?_
  refine lF_ ?_
  refine pt_ hK5 ?_
  refine wpPrune [(2, .bool false)] fo_ (fun X9 => ?_)
  refine wp_ret ?_
  refine br_ 2 (.bool false) ?_
  exact ⟨congrArg (fun b_ => Ending.returned (.bool b_)) (decide_eq_false (by unfold Pt.rng; simp_all; try omega)).symm, hm7.bel⟩
 rw [h8]
 refine lT_ ?_
 refine lw_ rfl (.pointer (some ⟨g2, 1, none⟩)) (litRun kr_) ?_
 refine lw_ rfl (.int .i64 p.y) (ld_ 1 0 hm7) ?_
 refine plCall (i := 6) 96 [.int .i64 p.y] [] [] rfl kr_ (wgY rfl rfl rfl (by decide) kr_) rfl le_ (litArgs kr_) (near_any p.y _) ?_
 rintro e w10 ⟨rfl, hbz⟩
 have hm11 := hm7.below hbz
 clear hbz hm7
 refine ⟨_, rfl, ?_⟩
 refine qP rfl ?_
 rcases bool_or (decide (-1048575 ≤ p.y ∧ p.y ≤ 1048575)) with h12 | h12
 ·rw [h12]
  refine lF_ ?_
  refine lF_ ?_
  refine ps_ (i := 9) ?_
  refine ps_ (i := 10) ?_
  refine ps_ (i := 11) ?_
  refine lF_ ?_
  refine lF_ ?_
  refine pt_ hK5 ?_
  refine wpPrune [(2, .bool false)] fo_ (fun X13 => ?_)
  refine wp_ret ?_
  refine br_ 2 (.bool false) ?_
  exact ⟨congrArg (fun b_ => Ending.returned (.bool b_)) (decide_eq_false (by unfold Pt.rng; simp_all; try omega)).symm, hm11.bel⟩
 rw [h12]
 refine lT_ ?_
 refine lT_ ?_
 refine lw_ rfl (.pointer (some ⟨g2, 2, none⟩)) (litRun kr_) ?_
 refine lw_ rfl (.int .i64 p.z) (ld_ 2 0 hm11) ?_
 refine plCall (i := 11) 96 [.int .i64 p.z] [] [] rfl kr_ (wgY rfl rfl rfl (by decide) kr_) rfl le_ (litArgs kr_) (near_any p.z _) ?_
 rintro e w14 ⟨rfl, hbz⟩
 have hm15 := hm11.below hbz
 clear hbz hm11
 refine ⟨_, rfl, ?_⟩
 refine qP rfl ?_
 rcases bool_or (decide (-1048575 ≤ p.z ∧ p.z ≤ 1048575)) with h16 | h16
 ·rw [h16]
  refine lF_ ?_
  refine lF_ ?_
  refine pt_ hK5 ?_
  refine wpPrune [(2, .bool false)] fo_ (fun X17 => ?_)
  refine wp_ret ?_
  refine br_ 2 (.bool false) ?_
  exact ⟨congrArg (fun b_ => Ending.returned (.bool b_)) (decide_eq_false (by unfold Pt.rng; simp_all; try omega)).symm, hm15.bel⟩
 rw [h16]
 refine lT_ ?_
 refine lT_ ?_
 refine pt_ hK5 ?_
 refine wpPrune [(2, .bool true)] fo_ (fun X18 => ?_)
 refine wp_ret ?_
 refine br_ 2 (.bool true) ?_
 exact ⟨congrArg (fun b_ => Ending.returned (.bool b_)) (decide_eq_true (by unfold Pt.rng; simp_all; try omega)).symm, hm15.bel⟩
theorem isMat_any (n : Int) (w : World) : Calls Tryz.prog 70 #[.int .i64 n] w (RetV w (.bool (decide (0 ≤ n ∧ n < 256)))) := by
 have hm0 := Mem.nil w
 go_enter Tryz.func70, Tryz.ntmps70
 refine litStart 9 [(0, .int .i64 n)] kr_ (fun X0 => ?_)
 refine sp_ fun _ hK1 => ?_
 refine lF_ ?_
 refine pt_ hK1 ?_
 refine sp_ fun _ hK2 => ?_
 refine li_ n ?_
 by_cases h3 : 0 ≤ n
 ·refine lv_ rfl _ (geT_ h3) ?_
  refine lT_ ?_
  refine lw_ rfl (.int .i64 n) (litRun kr_) ?_
  by_cases h4 : n < 256
  ·refine lw_ rfl _ (lsT_ h4) ?_
   refine lT_ ?_
   refine lT_ ?_
   refine pt_ hK2 ?_
   refine wp_ret ?_
   refine br_ 2 (.bool true) ?_
   exact ⟨congrArg (fun b_ => Ending.returned (.bool b_)) (decide_eq_true (by omega)).symm, hm0.bel⟩
  refine lw_ rfl _ (lsF_ h4) ?_
  refine lF_ ?_
  refine lF_ ?_
  refine pt_ hK2 ?_
  refine wp_ret ?_
  refine br_ 2 (.bool false) ?_
  exact ⟨congrArg (fun b_ => Ending.returned (.bool b_)) (decide_eq_false (by omega)).symm, hm0.bel⟩
 refine lv_ rfl _ (geF_ h3) ?_
 refine lF_ ?_
 refine ps_ (i := 3) ?_
 refine ps_ (i := 4) ?_
 refine lF_ ?_
 refine lF_ ?_
 refine pt_ hK2 ?_
 refine wp_ret ?_
 refine br_ 2 (.bool false) ?_
 exact ⟨congrArg (fun b_ => Ending.returned (.bool b_)) (decide_eq_false (by omega)).symm, hm0.bel⟩
theorem in_any (p : Pt) (b : Bx) (w : World) : Calls Tryz.prog 28 #[.agg (pcs p).toArray, .agg (bxs b).toArray] w (RetV w (.bool (decide (b.has p)))) := by
 have hm0 := Mem.nil w
 go_enter Tryz.func28, Tryz.ntmps28
 refine litStart 57 [(0, .agg (pcs p).toArray), (1, .agg (bxs b).toArray)] kr_ (fun X0 => ?_)
 refine sp_ fun _ hK1 => ?_
 refine plBox hm0 (cs := pcs p) (i := 0) rfl (wn rfl) rfl le_ ?_
 intro g2 w4 hm3
 clear hm0
 try simp only [lc_] at hm3
 refine qP rfl ?_
 refine plBox hm3 (cs := bxs b) (i := 1) rfl (wn rfl) rfl le_ ?_
 intro g5 w7 hm6
 clear hm3
 try simp only [lc_] at hm6
 refine qP rfl ?_
 refine lF_ ?_
 refine pt_ hK1 ?_
 refine gwCut (fun a_ w_ => (True) ∧ Fr a_ 57 [(2, .pointer (some ⟨g2, 0, none⟩)), (3, .pointer (some ⟨g5, 0, none⟩)), (4, .bool false), (5, .bool (decide (b.mn.x ≤ p.x ∧ p.x < b.mx.x)))] ∧ Mem w w_ [.arr g2 23 (pcs p), .arr g5 25 (bxs b)]) ?_ ?_
 ·refine plStart ?_
  refine lp_ g2 0 ?_
  refine lv_ rfl (.int .i64 p.x) (ld_ 0 0 hm6) ?_
  refine lp_ g5 0 ?_
  refine lp_ g5 0 ?_
  refine lv_ rfl (.int .i64 b.mn.x) (ld_ 0 1 hm6) ?_
  by_cases h8 : b.mn.x ≤ p.x
  ·refine lv_ rfl _ (geT_ h8) ?_
   refine lT_ ?_
   refine lw_ rfl (.pointer (some ⟨g2, 0, none⟩)) (litRun kr_) ?_
   refine lw_ rfl (.int .i64 p.x) (ld_ 0 0 hm6) ?_
   refine lw_ rfl (.pointer (some ⟨g5, 3, none⟩)) (litRun kr_) ?_
   refine lw_ rfl (.pointer (some ⟨g5, 3, none⟩)) (litRun kr_) ?_
   refine lw_ rfl (.int .i64 b.mx.x) (ld_ 3 1 hm6) ?_
   by_cases h9 : p.x < b.mx.x
   ·refine lw_ rfl _ (lsT_ h9) ?_
    refine lT_ ?_
    refine lT_ ?_
    refine plD ?_
    refine then_normal ?_
    rw [show (decide (b.mn.x ≤ p.x ∧ p.x < b.mx.x)) = true from decide_eq_true (by omega)]
    exact ⟨trivial, ⟨litSize, rfl, fo_⟩, hm6⟩
   refine lw_ rfl _ (lsF_ h9) ?_
   refine lF_ ?_
   refine lF_ ?_
   refine plD ?_
   refine then_normal ?_
   rw [show (decide (b.mn.x ≤ p.x ∧ p.x < b.mx.x)) = false from decide_eq_false (by omega)]
   exact ⟨trivial, ⟨litSize, rfl, fo_⟩, hm6⟩
  refine lv_ rfl _ (geF_ h8) ?_
  refine lF_ ?_
  refine ps_ (i := 7) ?_
  refine ps_ (i := 8) ?_
  refine ps_ (i := 9) ?_
  refine ps_ (i := 10) ?_
  refine ps_ (i := 11) ?_
  refine ps_ (i := 12) ?_
  refine lF_ ?_
  refine lF_ ?_
  refine plD ?_
  refine then_normal ?_
  rw [show (decide (b.mn.x ≤ p.x ∧ p.x < b.mx.x)) = false from decide_eq_false (by omega)]
  exact ⟨trivial, ⟨litSize, rfl, fo_⟩, hm6⟩
 clear hm6
 intro a12 w10 hI_
 obtain ⟨ht_, hF_, hm11⟩ := hI_
 obtain ⟨X13, rfl⟩ := frLit hF_
 clear hF_
 refine gwCut (fun a_ w_ => (True) ∧ Fr a_ 57 [(2, .pointer (some ⟨g2, 0, none⟩)), (3, .pointer (some ⟨g5, 0, none⟩)), (4, .bool false), (5, .bool (decide (b.mn.x ≤ p.x ∧ p.x < b.mx.x))), (6, .bool (decide (b.mn.y ≤ p.y ∧ p.y < b.mx.y)))] ∧ Mem w w_ [.arr g2 23 (pcs p), .arr g5 25 (bxs b)]) ?_ ?_
 ·refine plStart ?_
  refine lp_ g2 1 ?_
  refine lv_ rfl (.int .i64 p.y) (ld_ 1 0 hm11) ?_
  refine lp_ g5 0 ?_
  refine lp_ g5 1 ?_
  refine lv_ rfl (.int .i64 b.mn.y) (ld_ 1 1 hm11) ?_
  by_cases h14 : b.mn.y ≤ p.y
  ·refine lv_ rfl _ (geT_ h14) ?_
   refine lT_ ?_
   refine lw_ rfl (.pointer (some ⟨g2, 1, none⟩)) (litRun kr_) ?_
   refine lw_ rfl (.int .i64 p.y) (ld_ 1 0 hm11) ?_
   refine lw_ rfl (.pointer (some ⟨g5, 3, none⟩)) (litRun kr_) ?_
   refine lw_ rfl (.pointer (some ⟨g5, 4, none⟩)) (litRun kr_) ?_
   refine lw_ rfl (.int .i64 b.mx.y) (ld_ 4 1 hm11) ?_
   by_cases h15 : p.y < b.mx.y
   ·refine lw_ rfl _ (lsT_ h15) ?_
    refine lT_ ?_
    refine lT_ ?_
    refine plD ?_
    refine then_normal ?_
    rw [show (decide (b.mn.y ≤ p.y ∧ p.y < b.mx.y)) = true from decide_eq_true (by omega)]
    exact ⟨trivial, ⟨litSize, rfl, fo_⟩, hm11⟩
   refine lw_ rfl _ (lsF_ h15) ?_
   refine lF_ ?_
   refine lF_ ?_
   refine plD ?_
   refine then_normal ?_
   rw [show (decide (b.mn.y ≤ p.y ∧ p.y < b.mx.y)) = false from decide_eq_false (by omega)]
   exact ⟨trivial, ⟨litSize, rfl, fo_⟩, hm11⟩
  refine lv_ rfl _ (geF_ h14) ?_
  refine lF_ ?_
  refine ps_ (i := 7) ?_
  refine ps_ (i := 8) ?_
  refine ps_ (i := 9) ?_
  refine ps_ (i := 10) ?_
  refine ps_ (i := 11) ?_
  refine ps_ (i := 12) ?_
  refine lF_ ?_
  refine lF_ ?_
  refine plD ?_
  refine then_normal ?_
  rw [show (decide (b.mn.y ≤ p.y ∧ p.y < b.mx.y)) = false from decide_eq_false (by omega)]
  exact ⟨trivial, ⟨litSize, rfl, fo_⟩, hm11⟩
 clear hm11
 intro a18 w16 hI_
 obtain ⟨ht_, hF_, hm17⟩ := hI_
 obtain ⟨X19, rfl⟩ := frLit hF_
 clear hF_
 refine gwCut (fun a_ w_ => (True) ∧ Fr a_ 57 [(4, .bool false), (5, .bool (decide (b.mn.x ≤ p.x ∧ p.x < b.mx.x))), (6, .bool (decide (b.mn.y ≤ p.y ∧ p.y < b.mx.y))), (7, .bool (decide (b.mn.z ≤ p.z ∧ p.z < b.mx.z)))] ∧ Mem w w_ [.arr g2 23 (pcs p), .arr g5 25 (bxs b)]) ?_ ?_
 ·refine plStart ?_
  refine lp_ g2 2 ?_
  refine lv_ rfl (.int .i64 p.z) (ld_ 2 0 hm17) ?_
  refine lp_ g5 0 ?_
  refine lp_ g5 2 ?_
  refine lv_ rfl (.int .i64 b.mn.z) (ld_ 2 1 hm17) ?_
  by_cases h20 : b.mn.z ≤ p.z
  ·refine lv_ rfl _ (geT_ h20) ?_
   refine lT_ ?_
   refine lw_ rfl (.pointer (some ⟨g2, 2, none⟩)) (litRun kr_) ?_
   refine lw_ rfl (.int .i64 p.z) (ld_ 2 0 hm17) ?_
   refine lw_ rfl (.pointer (some ⟨g5, 3, none⟩)) (litRun kr_) ?_
   refine lw_ rfl (.pointer (some ⟨g5, 5, none⟩)) (litRun kr_) ?_
   refine lw_ rfl (.int .i64 b.mx.z) (ld_ 5 1 hm17) ?_
   by_cases h21 : p.z < b.mx.z
   ·refine lw_ rfl _ (lsT_ h21) ?_
    refine lT_ ?_
    refine lT_ ?_
    refine plD ?_
    refine then_normal ?_
    rw [show (decide (b.mn.z ≤ p.z ∧ p.z < b.mx.z)) = true from decide_eq_true (by omega)]
    exact ⟨trivial, ⟨litSize, rfl, fo_⟩, hm17⟩
   refine lw_ rfl _ (lsF_ h21) ?_
   refine lF_ ?_
   refine lF_ ?_
   refine plD ?_
   refine then_normal ?_
   rw [show (decide (b.mn.z ≤ p.z ∧ p.z < b.mx.z)) = false from decide_eq_false (by omega)]
   exact ⟨trivial, ⟨litSize, rfl, fo_⟩, hm17⟩
  refine lv_ rfl _ (geF_ h20) ?_
  refine lF_ ?_
  refine ps_ (i := 7) ?_
  refine ps_ (i := 8) ?_
  refine ps_ (i := 9) ?_
  refine ps_ (i := 10) ?_
  refine ps_ (i := 11) ?_
  refine ps_ (i := 12) ?_
  refine lF_ ?_
  refine lF_ ?_
  refine plD ?_
  refine then_normal ?_
  rw [show (decide (b.mn.z ≤ p.z ∧ p.z < b.mx.z)) = false from decide_eq_false (by omega)]
  exact ⟨trivial, ⟨litSize, rfl, fo_⟩, hm17⟩
 clear hm17
 intro a24 w22 hI_
 obtain ⟨ht_, hF_, hm23⟩ := hI_
 obtain ⟨X25, rfl⟩ := frLit hF_
 clear hF_
 refine sp_ fun _ hK26 => ?_
 rcases bool_or (decide (b.mn.x ≤ p.x ∧ p.x < b.mx.x)) with h27 | h27
 ·refine lv_ rfl (.bool false) (boolTo h27 (litRun kr_)) ?_
  refine lF_ ?_
  refine ps_ (i := 2) ?_
  refine lF_ ?_
  refine lF_ ?_
  refine ps_ (i := 5) ?_
  refine lF_ ?_
  refine lF_ ?_
  refine pt_ hK26 ?_
  refine wp_ret ?_
  refine br_ 4 (.bool false) ?_
  have hq0_ := of_decide_eq_false h27
  exact ⟨congrArg (fun b_ => Ending.returned (.bool b_)) (decide_eq_false (by unfold Bx.has; omega)).symm, hm23.bel⟩
 refine lv_ rfl (.bool true) (boolTo h27 (litRun kr_)) ?_
 refine lT_ ?_
 rcases bool_or (decide (b.mn.y ≤ p.y ∧ p.y < b.mx.y)) with h28 | h28
 ·refine lw_ rfl (.bool false) (boolTo h28 (litRun kr_)) ?_
  refine lF_ ?_
  refine lF_ ?_
  refine ps_ (i := 5) ?_
  refine lF_ ?_
  refine lF_ ?_
  refine pt_ hK26 ?_
  refine wp_ret ?_
  refine br_ 4 (.bool false) ?_
  have hq0_ := of_decide_eq_true h27
  have hq1_ := of_decide_eq_false h28
  exact ⟨congrArg (fun b_ => Ending.returned (.bool b_)) (decide_eq_false (by unfold Bx.has; omega)).symm, hm23.bel⟩
 refine lw_ rfl (.bool true) (boolTo h28 (litRun kr_)) ?_
 refine lT_ ?_
 refine lT_ ?_
 rcases bool_or (decide (b.mn.z ≤ p.z ∧ p.z < b.mx.z)) with h29 | h29
 ·refine lw_ rfl (.bool false) (boolTo h29 (litRun kr_)) ?_
  refine lF_ ?_
  refine lF_ ?_
  refine pt_ hK26 ?_
  refine wp_ret ?_
  refine br_ 4 (.bool false) ?_
  have hq0_ := of_decide_eq_true h27
  have hq1_ := of_decide_eq_true h28
  have hq2_ := of_decide_eq_false h29
  exact ⟨congrArg (fun b_ => Ending.returned (.bool b_)) (decide_eq_false (by unfold Bx.has; omega)).symm, hm23.bel⟩
 refine lw_ rfl (.bool true) (boolTo h29 (litRun kr_)) ?_
 refine lT_ ?_
 refine lT_ ?_
 refine pt_ hK26 ?_
 refine wp_ret ?_
 refine br_ 4 (.bool true) ?_
 have hq0_ := of_decide_eq_true h27
 have hq1_ := of_decide_eq_true h28
 have hq2_ := of_decide_eq_true h29
 exact ⟨congrArg (fun b_ => Ending.returned (.bool b_)) (decide_eq_true (by unfold Bx.has; omega)).symm, hm23.bel⟩
theorem empty_any (b : Bx) (w : World) : Calls Tryz.prog 123 #[.agg (bxs b).toArray] w (RetV w (.bool (decide b.none))) := by
 have hm0 := Mem.nil w
 go_enter Tryz.func123, Tryz.ntmps123
 refine litStart 28 [(0, .agg (bxs b).toArray)] kr_ (fun X0 => ?_)
 refine sp_ fun _ hK1 => ?_
 refine plBox hm0 (cs := bxs b) (i := 0) rfl (wn rfl) rfl le_ ?_
 intro g2 w4 hm3
 clear hm0
 try simp only [lc_] at hm3
 refine qP rfl ?_
 refine lF_ ?_
 refine pt_ hK1 ?_
 refine sp_ fun _ hK5 => ?_
 refine lp_ g2 0 ?_
 refine lp_ g2 0 ?_
 refine lv_ rfl (.int .i64 b.mn.x) (ld_ 0 0 hm3) ?_
 refine lp_ g2 3 ?_
 refine lp_ g2 3 ?_
 refine lv_ rfl (.int .i64 b.mx.x) (ld_ 3 0 hm3) ?_
 by_cases h6 : b.mx.x ≤ b.mn.x
 ·refine lv_ rfl _ (geT_ h6) ?_
  refine lT_ ?_
  refine ps_ (i := 8) ?_
  refine ps_ (i := 9) ?_
  refine ps_ (i := 10) ?_
  refine ps_ (i := 11) ?_
  refine ps_ (i := 12) ?_
  refine ps_ (i := 13) ?_
  refine ps_ (i := 14) ?_
  refine lT_ ?_
  refine lT_ ?_
  refine ps_ (i := 17) ?_
  refine ps_ (i := 18) ?_
  refine ps_ (i := 19) ?_
  refine ps_ (i := 20) ?_
  refine ps_ (i := 21) ?_
  refine ps_ (i := 22) ?_
  refine ps_ (i := 23) ?_
  refine lT_ ?_
  refine lT_ ?_
  refine pt_ hK5 ?_
  refine wpPrune [(2, .bool true)] fo_ (fun X7 => ?_)
  refine wp_ret ?_
  refine br_ 2 (.bool true) ?_
  exact ⟨congrArg (fun b_ => Ending.returned (.bool b_)) (decide_eq_true (by unfold Bx.none; omega)).symm, hm3.bel⟩
 refine lv_ rfl _ (geF_ h6) ?_
 refine lF_ ?_
 refine lw_ rfl (.pointer (some ⟨g2, 0, none⟩)) (litRun kr_) ?_
 refine lw_ rfl (.pointer (some ⟨g2, 1, none⟩)) (litRun kr_) ?_
 refine lw_ rfl (.int .i64 b.mn.y) (ld_ 1 0 hm3) ?_
 refine lw_ rfl (.pointer (some ⟨g2, 3, none⟩)) (litRun kr_) ?_
 refine lw_ rfl (.pointer (some ⟨g2, 4, none⟩)) (litRun kr_) ?_
 refine lw_ rfl (.int .i64 b.mx.y) (ld_ 4 0 hm3) ?_
 by_cases h8 : b.mx.y ≤ b.mn.y
 ·refine lw_ rfl _ (geT_ h8) ?_
  refine lT_ ?_
  refine lT_ ?_
  refine ps_ (i := 17) ?_
  refine ps_ (i := 18) ?_
  refine ps_ (i := 19) ?_
  refine ps_ (i := 20) ?_
  refine ps_ (i := 21) ?_
  refine ps_ (i := 22) ?_
  refine ps_ (i := 23) ?_
  refine lT_ ?_
  refine lT_ ?_
  refine pt_ hK5 ?_
  refine wpPrune [(2, .bool true)] fo_ (fun X9 => ?_)
  refine wp_ret ?_
  refine br_ 2 (.bool true) ?_
  exact ⟨congrArg (fun b_ => Ending.returned (.bool b_)) (decide_eq_true (by unfold Bx.none; omega)).symm, hm3.bel⟩
 refine lw_ rfl _ (geF_ h8) ?_
 refine lF_ ?_
 refine lF_ ?_
 refine lw_ rfl (.pointer (some ⟨g2, 0, none⟩)) (litRun kr_) ?_
 refine lw_ rfl (.pointer (some ⟨g2, 2, none⟩)) (litRun kr_) ?_
 refine lw_ rfl (.int .i64 b.mn.z) (ld_ 2 0 hm3) ?_
 refine lw_ rfl (.pointer (some ⟨g2, 3, none⟩)) (litRun kr_) ?_
 refine lw_ rfl (.pointer (some ⟨g2, 5, none⟩)) (litRun kr_) ?_
 refine lw_ rfl (.int .i64 b.mx.z) (ld_ 5 0 hm3) ?_
 by_cases h10 : b.mx.z ≤ b.mn.z
 ·refine lw_ rfl _ (geT_ h10) ?_
  refine lT_ ?_
  refine lT_ ?_
  refine pt_ hK5 ?_
  refine wpPrune [(2, .bool true)] fo_ (fun X11 => ?_)
  refine wp_ret ?_
  refine br_ 2 (.bool true) ?_
  exact ⟨congrArg (fun b_ => Ending.returned (.bool b_)) (decide_eq_true (by unfold Bx.none; omega)).symm, hm3.bel⟩
 refine lw_ rfl _ (geF_ h10) ?_
 refine lF_ ?_
 refine lF_ ?_
 refine pt_ hK5 ?_
 refine wpPrune [(2, .bool false)] fo_ (fun X12 => ?_)
 refine wp_ret ?_
 refine br_ 2 (.bool false) ?_
 exact ⟨congrArg (fun b_ => Ending.returned (.bool b_)) (decide_eq_false (by unfold Bx.none; omega)).symm, hm3.bel⟩
theorem inRange_any (l : List Pt) (A : Option Addr) (c : Nat) (w : World) (hn : l.length ≤ 1000) (hrd : Rd w w.heap.size 3 A l.length c (ptsC l)) : Calls Tryz.prog 82 #[.slice A l.length c] w (RetV w (.bool (decide (∀ p ∈ l, p.rng)))) := by
 have hm0 := Mem.nil w
 go_enter Tryz.func82, Tryz.ntmps82
 refine litStart 26 [(0, .slice A l.length c)] kr_ (fun X0 => ?_)
 refine sp_ fun _ hK1 => ?_
 refine lF_ ?_
 refine pt_ hK1 ?_
 refine sk_ fun _ hK2 => ?_
 refine sp_ fun _ hK3 => ?_
 refine lk_ (.slice A l.length c) ?_
 refine lv_ rfl (.int .i64 (l.length : Int)) (ln_ A l.length c Ty.und_L_api_Point) ?_
 refine li_ 0 ?_
 refine pt_ hK3 ?_
 refine wp_block ?_
 refine gwLoop (fun n_ a_ w_ => ∃ (k : Nat), n_ = l.length - k ∧ (k ≤ l.length) ∧ (∀ p ∈ l.take k, p.rng) ∧ Fr a_ 26 [(7, .slice A l.length c), (8, .int .i64 (l.length : Int)), (9, .int .i64 (k : Int))] ∧ Mem w w_ []) (l.length - 0) ⟨0, rfl, by omega, by simp, ⟨litSize, rfl, fo_⟩, hm0⟩ ?_
 clear hm0
 intro n_ a6 w4 hI_
 obtain ⟨k, rfl, hk_, hk2_, hF_, hm5⟩ := hI_
 obtain ⟨X7, rfl⟩ := frLit hF_
 clear hF_
 refine sp_ fun _ hK8 => ?_
 by_cases h9 : (k : Int) < (l.length : Int)
 ·have hkl_ : k < l.length := by omega
  obtain ⟨p, hp⟩ : ∃ p, l[k]? = some p := ⟨_, List.getElem?_eq_getElem hkl_⟩
  obtain ⟨b_, off_, rfl, _, _⟩ := hrd.cells (by omega)
  refine lv_ rfl _ (lsT_ h9) ?_
  refine pt_ hK8 ?_
  refine sk_ fun _ hK10 => ?_
  refine wp_cond_true le_ ?_
  refine wp_skip ?_
  refine tn_ hK10 ?_
  refine sk_ fun _ hK11 => ?_
  refine wp_block ?_
  refine sp_ fun _ hK12 => ?_
  refine lv_ rfl (.pointer (some ⟨b_, off_ + k * 3, none⟩)) (ia_ c k Ty.sl_L_api_Point rfl hkl_) ?_
  refine lv_ rfl (.agg (pcs p).toArray) (lar_ (m := k * 3) ((Rd.below hrd hm5.bel).more hm5.bel.size) (ptsC_get hp) (by omega) Ty.ag_voxel_api_Point) ?_
  refine plAlloc (z := [.int .i64 0, .int .i64 0, .int .i64 0]) Ty.ag_voxel_api_Point hm5 (i := 2) rfl (wn rfl) rfl ?_
  intro g13 w15 hm14
  clear hm5
  try simp only [lc_] at hm14
  refine qP rfl ?_
  refine plStore 0 Ty.ag_voxel_api_Point hm14 rfl (i := 3) (cs := pcs p) rfl (wn rfl) rfl le_ le_ rfl rfl kr_ ?_
  intro w17 hm16
  clear hm14
  try simp only [lc_] at hm16
  refine qNone rfl ?_
  refine pt_ hK12 ?_
  refine sp_ fun _ hK18 => ?_
  refine lv_ rfl (.agg (pcs p).toArray) (la_ 0 0 hm16 Ty.ag_voxel_api_Point) ?_
  refine plCall (i := 1) 83 [.agg (pcs p).toArray] [] [] rfl kr_ (wn rfl) rfl le_ (litArgs kr_) (coordinates_any p _) ?_
  rintro e w19 ⟨rfl, hbz⟩
  have hm20 := hm16.below hbz
  clear hbz hm16
  refine ⟨_, rfl, ?_⟩
  refine qP rfl ?_
  refine li_ 0 ?_
  refine pt_ hK18 ?_
  refine wp_block ?_
  refine roundsStart 3 ?_
  refine sp_ fun _ hK21 => ?_
  refine lT_ ?_
  refine pt_ hK21 ?_
  refine sk_ fun _ hK22 => ?_
  refine wp_cond_true le_ ?_
  refine wp_skip ?_
  refine tn_ hK22 ?_
  refine sk_ fun _ hK23 => ?_
  refine wp_block ?_
  refine sp_ fun _ hK24 => ?_
  refine li_ p.x ?_
  refine li_ p.x ?_
  refine pt_ hK24 ?_
  refine sp_ fun _ hK25 => ?_
  refine li_ p.x ?_
  by_cases h26 : p.x < (-1048575)
  ·refine lv_ rfl _ (lsT_ h26) ?_
   refine lT_ ?_
   refine ps_ (i := 3) ?_
   refine ps_ (i := 4) ?_
   refine lT_ ?_
   refine pt_ hK25 ?_
   refine wp_cond_true le_ ?_
   refine sp_ fun _ hK27 => ?_
   refine lF_ ?_
   refine pt_ hK27 ?_
   refine wp_ret ?_
   refine inBlock_ret ?_
   refine then_ret ?_
   refine then_ret ?_
   refine inBlock_ret ?_
   refine inBlock_ret ?_
   refine then_ret ?_
   refine then_ret ?_
   refine inBlock_ret ?_
   refine then_ret ?_
   refine br_ 2 (.bool false) ?_
   exact ⟨congrArg (fun b_ => Ending.returned (.bool b_)) (decide_eq_false (fun hall => by have hpr := hall p (List.mem_of_getElem? hp); unfold Pt.rng at hpr; omega)).symm, hm20.bel⟩
  refine lv_ rfl _ (lsF_ h26) ?_
  refine lF_ ?_
  refine lw_ rfl (.int .i64 p.x) (litRun kr_) ?_
  by_cases h28 : 1048575 < p.x
  ·refine lw_ rfl _ (gtT_ h28) ?_
   refine lT_ ?_
   refine pt_ hK25 ?_
   refine wp_cond_true le_ ?_
   refine sp_ fun _ hK29 => ?_
   refine lF_ ?_
   refine pt_ hK29 ?_
   refine wp_ret ?_
   refine inBlock_ret ?_
   refine then_ret ?_
   refine then_ret ?_
   refine inBlock_ret ?_
   refine inBlock_ret ?_
   refine then_ret ?_
   refine then_ret ?_
   refine inBlock_ret ?_
   refine then_ret ?_
   refine br_ 2 (.bool false) ?_
   exact ⟨congrArg (fun b_ => Ending.returned (.bool b_)) (decide_eq_false (fun hall => by have hpr := hall p (List.mem_of_getElem? hp); unfold Pt.rng at hpr; omega)).symm, hm20.bel⟩
  refine lw_ rfl _ (gtF_ h28) ?_
  refine lF_ ?_
  refine pt_ hK25 ?_
  refine wp_cond_false le_ ?_
  refine wp_skip ?_
  refine inBlock_normal ?_
  refine tn_ hK23 ?_
  refine plStart ?_
  refine li_ 1 ?_
  refine li_ 1 ?_
  refine plD ?_
  refine then_normal (roundsNext ?_)
  refine sp_ fun _ hK30 => ?_
  refine lT_ ?_
  refine pt_ hK30 ?_
  refine sk_ fun _ hK31 => ?_
  refine wp_cond_true le_ ?_
  refine wp_skip ?_
  refine tn_ hK31 ?_
  refine sk_ fun _ hK32 => ?_
  refine wp_block ?_
  refine sp_ fun _ hK33 => ?_
  refine li_ p.y ?_
  refine li_ p.y ?_
  refine pt_ hK33 ?_
  refine sp_ fun _ hK34 => ?_
  refine li_ p.y ?_
  by_cases h35 : p.y < (-1048575)
  ·refine lv_ rfl _ (lsT_ h35) ?_
   refine lT_ ?_
   refine ps_ (i := 3) ?_
   refine ps_ (i := 4) ?_
   refine lT_ ?_
   refine pt_ hK34 ?_
   refine wp_cond_true le_ ?_
   refine sp_ fun _ hK36 => ?_
   refine lF_ ?_
   refine pt_ hK36 ?_
   refine wp_ret ?_
   refine inBlock_ret ?_
   refine then_ret ?_
   refine then_ret ?_
   refine inBlock_ret ?_
   refine inBlock_ret ?_
   refine then_ret ?_
   refine then_ret ?_
   refine inBlock_ret ?_
   refine then_ret ?_
   refine br_ 2 (.bool false) ?_
   exact ⟨congrArg (fun b_ => Ending.returned (.bool b_)) (decide_eq_false (fun hall => by have hpr := hall p (List.mem_of_getElem? hp); unfold Pt.rng at hpr; omega)).symm, hm20.bel⟩
  refine lv_ rfl _ (lsF_ h35) ?_
  refine lF_ ?_
  refine lw_ rfl (.int .i64 p.y) (litRun kr_) ?_
  by_cases h37 : 1048575 < p.y
  ·refine lw_ rfl _ (gtT_ h37) ?_
   refine lT_ ?_
   refine pt_ hK34 ?_
   refine wp_cond_true le_ ?_
   refine sp_ fun _ hK38 => ?_
   refine lF_ ?_
   refine pt_ hK38 ?_
   refine wp_ret ?_
   refine inBlock_ret ?_
   refine then_ret ?_
   refine then_ret ?_
   refine inBlock_ret ?_
   refine inBlock_ret ?_
   refine then_ret ?_
   refine then_ret ?_
   refine inBlock_ret ?_
   refine then_ret ?_
   refine br_ 2 (.bool false) ?_
   exact ⟨congrArg (fun b_ => Ending.returned (.bool b_)) (decide_eq_false (fun hall => by have hpr := hall p (List.mem_of_getElem? hp); unfold Pt.rng at hpr; omega)).symm, hm20.bel⟩
  refine lw_ rfl _ (gtF_ h37) ?_
  refine lF_ ?_
  refine pt_ hK34 ?_
  refine wp_cond_false le_ ?_
  refine wp_skip ?_
  refine inBlock_normal ?_
  refine tn_ hK32 ?_
  refine plStart ?_
  refine li_ 2 ?_
  refine li_ 2 ?_
  refine plD ?_
  refine then_normal (roundsNext ?_)
  refine sp_ fun _ hK39 => ?_
  refine lT_ ?_
  refine pt_ hK39 ?_
  refine wpPrune [(4, .pointer (some ⟨g13, 0, none⟩)), (6, .int .i64 p.y), (7, .slice (some ⟨b_, off_, none⟩) l.length c), (8, .int .i64 (l.length : Int)), (9, .int .i64 (k : Int)), (10, .bool true), (11, .pointer (some ⟨b_, off_ + k * 3, none⟩)), (12, .agg (pcs p).toArray), (13, .agg (pcs p).toArray), (14, .agg (pcs p).toArray), (15, .int .i64 2), (16, .bool true), (17, .int .i64 p.y), (18, .int .i64 p.y), (19, .bool false), (20, .bool false), (21, .int .i64 p.y), (22, .bool false), (23, .bool false), (24, .int .i64 2)] fo_ (fun X40 => ?_)
  refine sk_ fun _ hK41 => ?_
  refine wp_cond_true le_ ?_
  refine wp_skip ?_
  refine tn_ hK41 ?_
  refine sk_ fun _ hK42 => ?_
  refine wp_block ?_
  refine sp_ fun _ hK43 => ?_
  refine li_ p.z ?_
  refine li_ p.z ?_
  refine pt_ hK43 ?_
  refine sp_ fun _ hK44 => ?_
  refine li_ p.z ?_
  by_cases h45 : p.z < (-1048575)
  ·refine lv_ rfl _ (lsT_ h45) ?_
   refine lT_ ?_
   refine ps_ (i := 3) ?_
   refine ps_ (i := 4) ?_
   refine lT_ ?_
   refine pt_ hK44 ?_
   refine wp_cond_true le_ ?_
   refine sp_ fun _ hK46 => ?_
   refine lF_ ?_
   refine pt_ hK46 ?_
   refine wp_ret ?_
   refine inBlock_ret ?_
   refine then_ret ?_
   refine then_ret ?_
   refine inBlock_ret ?_
   refine inBlock_ret ?_
   refine then_ret ?_
   refine then_ret ?_
   refine inBlock_ret ?_
   refine then_ret ?_
   refine br_ 2 (.bool false) ?_
   exact ⟨congrArg (fun b_ => Ending.returned (.bool b_)) (decide_eq_false (fun hall => by have hpr := hall p (List.mem_of_getElem? hp); unfold Pt.rng at hpr; omega)).symm, hm20.bel⟩
  refine lv_ rfl _ (lsF_ h45) ?_
  refine lF_ ?_
  refine lw_ rfl (.int .i64 p.z) (litRun kr_) ?_
  by_cases h47 : 1048575 < p.z
  ·refine lw_ rfl _ (gtT_ h47) ?_
   refine lT_ ?_
   refine pt_ hK44 ?_
   refine wp_cond_true le_ ?_
   refine sp_ fun _ hK48 => ?_
   refine lF_ ?_
   refine pt_ hK48 ?_
   refine wp_ret ?_
   refine inBlock_ret ?_
   refine then_ret ?_
   refine then_ret ?_
   refine inBlock_ret ?_
   refine inBlock_ret ?_
   refine then_ret ?_
   refine then_ret ?_
   refine inBlock_ret ?_
   refine then_ret ?_
   refine br_ 2 (.bool false) ?_
   exact ⟨congrArg (fun b_ => Ending.returned (.bool b_)) (decide_eq_false (fun hall => by have hpr := hall p (List.mem_of_getElem? hp); unfold Pt.rng at hpr; omega)).symm, hm20.bel⟩
  refine lw_ rfl _ (gtF_ h47) ?_
  refine lF_ ?_
  refine pt_ hK44 ?_
  refine wp_cond_false le_ ?_
  refine wp_skip ?_
  refine inBlock_normal ?_
  refine tn_ hK42 ?_
  refine plStart ?_
  refine li_ 3 ?_
  refine li_ 3 ?_
  refine plD ?_
  refine then_normal (roundsNext ?_)
  refine sp_ fun _ hK49 => ?_
  refine lF_ ?_
  refine pt_ hK49 ?_
  refine sk_ fun _ hK50 => ?_
  refine wp_cond_false le_ ?_
  refine wp_exit ?_
  refine then_exit ?_
  refine then_exit ?_
  refine inBlock_exit ?_
  refine inBlock_normal ?_
  refine tn_ hK11 ?_
  refine plStart ?_
  refine lv_ rfl _ (ad_ (k : Int) 1) ?_
  refine li_ ((k : Int) + 1) ?_
  refine plD ?_
  refine then_normal ?_
  exact ⟨_, by omega, (k + 1), rfl, by omega, rngAll_succ hp hk2_ (by unfold Pt.rng; omega), ⟨litSize, rfl, fo_⟩, (hm20.sub (List.nil_sublist _))⟩
 refine lv_ rfl _ (lsF_ h9) ?_
 refine pt_ hK8 ?_
 refine sk_ fun _ hK51 => ?_
 refine wp_cond_false le_ ?_
 refine wp_exit ?_
 refine then_exit ?_
 refine then_exit ?_
 refine inBlock_exit ?_
 refine tn_ hK2 ?_
 refine sp_ fun _ hK52 => ?_
 refine lT_ ?_
 refine pt_ hK52 ?_
 refine wp_ret ?_
 refine br_ 2 (.bool true) ?_
 exact ⟨congrArg (fun b_ => Ending.returned (.bool b_)) (decide_eq_true (by rw [List.take_of_length_le (by omega)] at hk2_; exact hk2_)).symm, hm5.bel⟩
theorem check_any (a b : Pt) (w : World) : Calls Tryz.prog 46 #[.agg (pcs a).toArray, .agg (pcs b).toArray] w (RetV w (.int .i64 (ckE a b))) := by
 have hm0 := Mem.nil w
 go_enter Tryz.func46, Tryz.ntmps46
 refine litStart 41 [(0, .agg (pcs a).toArray), (1, .agg (pcs b).toArray)] kr_ (fun X0 => ?_)
 refine sp_ fun _ hK1 => ?_
 refine plBox hm0 (cs := pcs a) (i := 0) rfl (wn rfl) rfl le_ ?_
 intro g2 w4 hm3
 clear hm0
 try simp only [lc_] at hm3
 refine qP rfl ?_
 refine plBox hm3 (cs := pcs b) (i := 1) rfl (wn rfl) rfl le_ ?_
 intro g5 w7 hm6
 clear hm3
 try simp only [lc_] at hm6
 refine qP rfl ?_
 refine li_ 0 ?_
 refine pt_ hK1 ?_
 refine sk_ fun _ hK8 => ?_
 refine sp_ fun _ hK9 => ?_
 refine lv_ rfl (.agg (pcs a).toArray) (la_ 0 0 hm6 Ty.ag_voxel_api_Point) ?_
 refine lv_ rfl (.agg (pcs b).toArray) (la_ 0 1 hm6 Ty.ag_voxel_api_Point) ?_
 refine plLit (cs := [.int .i64 a.x, .int .i64 a.y, .int .i64 a.z, .int .i64 b.x, .int .i64 b.y, .int .i64 b.z]) (n := 2) Ty.sl_L_api_Point hm6 (i := 2) rfl (wn rfl) rfl (by decide) (by decide) (by rw [lit_eval]; kernel_rfl) ?_
 intro g10 w12 hm11
 clear hm6
 try simp only [lc_] at hm11
 refine qP rfl ?_
 refine plCall (i := 3) 82 [.slice (some ⟨g10, 0, none⟩) 2 2] [] [] rfl kr_ (wn rfl) rfl le_ (litArgs kr_) (by have h := inRange_any [a, b] (some ⟨g10, 0, none⟩) 2 w12 (of_decide_eq_true kr_) (Rd.of_arr (t := 23) (cs := [.int .i64 a.x, .int .i64 a.y, .int .i64 a.z, .int .i64 b.x, .int .i64 b.y, .int .i64 b.z]) (hm11.arr 2 kr_) kr_ (of_decide_eq_true kr_)); rw [rng2] at h; exact h) ?_
 rintro e w13 ⟨rfl, hbz⟩
 have hm14 := hm11.below hbz
 clear hbz hm11
 refine ⟨_, rfl, ?_⟩
 refine qP rfl ?_
 rcases bool_or (decide (a.rng ∧ b.rng)) with h15 | h15
 ·rw [h15]
  refine lT_ ?_
  refine pt_ hK9 ?_
  refine wp_cond_true le_ ?_
  refine sp_ fun _ hK16 => ?_
  refine li_ 1 ?_
  refine pt_ hK16 ?_
  refine wp_ret ?_
  refine then_ret ?_
  refine br_ 4 (.int .i64 1) ?_
  exact ⟨by unfold ckE; rw [if_neg (of_decide_eq_false h15)], hm14.bel⟩
 rw [h15]
 refine lF_ ?_
 refine pt_ hK9 ?_
 refine wp_cond_false le_ ?_
 refine wp_skip ?_
 refine tn_ hK8 ?_
 refine sp_ fun _ hK17 => ?_
 refine li_ 0 ?_
 refine pt_ hK17 ?_
 refine sk_ fun _ hK18 => ?_
 refine aoStart (aoV [fun _ => .agg (pcs a).toArray, fun _ => .agg (pcs a).toArray, fun _ => .agg (pcs b).toArray, fun _ => .agg (pcs b).toArray, fun γ_ => .pointer (some ⟨(γ_.getD 0 0), 0, none⟩), fun γ_ => .pointer (some ⟨(γ_.getD 0 0), 0, none⟩), fun _ => undef, fun _ => undef]) (aoA [[], [], [], [], [4], [5], [], []]) (fun b_ g_ => ((.arr g2 23 (pcs a)) :: (.arr g5 23 (pcs b)) :: (.arr g10 23 ([.int .i64 a.x, .int .i64 a.y, .int .i64 a.z, .int .i64 b.x, .int .i64 b.y, .int .i64 b.z])) :: (bsel (b_ 4) (.arr (g_ 4) 120 (bsel (b_ 6) [.int .i64 a.x, .int .i64 a.y, .int .i64 a.z] [.int .i64 0, .int .i64 0, .int .i64 0])) .free) :: (bsel (b_ 5) (.arr (g_ 5) 120 (bsel (b_ 7) [.int .i64 b.x, .int .i64 b.y, .int .i64 b.z] [.int .i64 0, .int .i64 0, .int .i64 0])) .free) :: [])) hm14 kr_ kr_ (fun w_ h_ => h_.pushFree.pushFree) (fun b_ g_ h_ => by show (fun (x4_ x5_ x6_ x7_ : Bool) => (((.arr g2 23 (pcs a)) :: (.arr g5 23 (pcs b)) :: (.arr g10 23 ([.int .i64 a.x, .int .i64 a.y, .int .i64 a.z, .int .i64 b.x, .int .i64 b.y, .int .i64 b.z])) :: (bsel x4_ (.arr (g_ 4) 120 (bsel x6_ [.int .i64 a.x, .int .i64 a.y, .int .i64 a.z] [.int .i64 0, .int .i64 0, .int .i64 0])) .free) :: (bsel x5_ (.arr (g_ 5) 120 (bsel x7_ [.int .i64 b.x, .int .i64 b.y, .int .i64 b.z] [.int .i64 0, .int .i64 0, .int .i64 0])) .free) :: []) : List Res)) (b_ 4) (b_ 5) (b_ 6) (b_ 7) = _; rw [h_ 4 (by decide), h_ 5 (by decide), h_ 6 (by decide), h_ 7 (by decide)]) ?_ ?_
 ·refine aoNext rfl (aoV_ (fun b_ g_ X_ w_ h_b h_ => valTo (b := .agg (pcs a).toArray) kr_ (la_ 0 0 h_ Ty.ag_voxel_api_Point))) ?_
  refine aoNext rfl (aoC_ 83 (fun g_ => [.agg (pcs a).toArray]) [] [] (fun b_ g_ w_ h_b h_ => (coordinates_any a _).mono (fun _ _ h_r => ⟨h_r.1.trans kr_, h_r.2⟩))) ?_
  refine aoNext rfl (aoV_ (fun b_ g_ X_ w_ h_b h_ => valTo (b := .agg (pcs b).toArray) kr_ (la_ 0 1 h_ Ty.ag_voxel_api_Point))) ?_
  refine aoNext rfl (aoC_ 83 (fun g_ => [.agg (pcs b).toArray]) [] [] (fun b_ g_ w_ h_b h_ => (coordinates_any b _).mono (fun _ _ h_r => ⟨h_r.1.trans kr_, h_r.2⟩))) ?_
  refine aoNext rfl (aoNewAg (z := [.int .i64 0, .int .i64 0, .int .i64 0]) 3 Ty.ag_3_int rfl rfl (fun _ _ _ => ⟨_, rfl⟩) (fun b_ g_ γ_ h_b => Eq.trans kr_ (congrArg (fun x_ => List.set _ 3 (Res.arr γ_ 120 x_)) (bselF (α := List Value) (h_b.post 6 kr_) [.int .i64 a.x, .int .i64 a.y, .int .i64 a.z] [.int .i64 0, .int .i64 0, .int .i64 0]))) (fun _ => by kernel_rfl) kr_) ?_
  refine aoNext rfl (aoNewAg (z := [.int .i64 0, .int .i64 0, .int .i64 0]) 4 Ty.ag_3_int rfl rfl (fun _ _ _ => ⟨_, rfl⟩) (fun b_ g_ γ_ h_b => Eq.trans kr_ (congrArg (fun x_ => List.set _ 4 (Res.arr γ_ 120 x_)) (bselF (α := List Value) (h_b.post 7 kr_) [.int .i64 b.x, .int .i64 b.y, .int .i64 b.z] [.int .i64 0, .int .i64 0, .int .i64 0]))) (fun _ => by kernel_rfl) kr_) ?_
  refine aoNext rfl (aoStore (gb := fun g_ => (g_ 4)) (k := 0) (cur := fun g_ => [.int .i64 0, .int .i64 0, .int .i64 0]) (vs := fun g_ => pcs a) 3 (fun g_ => [(6, .pointer (some ⟨(g_ 4), 0, none⟩)), (15, .agg (pcs a).toArray)]) (fun g_ a_ h_k => ⟨(h_k.inn 4 _ _ kr_ rfl rfl).trans kr_, (h_k.inn 1 _ _ kr_ rfl rfl).trans kr_, trivial⟩) Ty.ag_3_int (fun b_ g_ h_b => by show some (bsel (b_ 4) (Res.arr (g_ 4) 120 (bsel (b_ 6) [.int .i64 a.x, .int .i64 a.y, .int .i64 a.z] [.int .i64 0, .int .i64 0, .int .i64 0])) Res.free) = some (Res.arr (g_ 4) 120 ([.int .i64 0, .int .i64 0, .int .i64 0])); rw [bselT (h_b.pre 4 kr_), bselF h_b.no]) (fun g_ X_ => (wn rfl)) rfl (fun g_ X_ => litEv kr_) (fun g_ X_ => litEv kr_) (fun _ => by kernel_rfl) (fun _ => by kernel_rfl) (fun _ => by kernel_rfl) (fun b_ g_ h_b => Eq.trans (b := List.set (((.arr g2 23 (pcs a)) :: (.arr g5 23 (pcs b)) :: (.arr g10 23 ([.int .i64 a.x, .int .i64 a.y, .int .i64 a.z, .int .i64 b.x, .int .i64 b.y, .int .i64 b.z])) :: (bsel (b_ 4) (.arr (g_ 4) 120 (bsel (b_ 6) [.int .i64 a.x, .int .i64 a.y, .int .i64 a.z] [.int .i64 0, .int .i64 0, .int .i64 0])) .free) :: (bsel (b_ 5) (.arr (g_ 5) 120 (bsel (b_ 7) [.int .i64 b.x, .int .i64 b.y, .int .i64 b.z] [.int .i64 0, .int .i64 0, .int .i64 0])) .free) :: [])) 3 (bsel (b_ 4) (Res.arr (g_ 4) 120 ([.int .i64 a.x, .int .i64 a.y, .int .i64 a.z])) Res.free)) kr_ (congrArg (fun x_ => List.set _ 3 x_) (bselT (h_b.pre 4 kr_) _ _))) rfl) ?_
  refine aoNext rfl (aoStore (gb := fun g_ => (g_ 5)) (k := 0) (cur := fun g_ => [.int .i64 0, .int .i64 0, .int .i64 0]) (vs := fun g_ => pcs b) 4 (fun g_ => [(7, .pointer (some ⟨(g_ 5), 0, none⟩)), (17, .agg (pcs b).toArray)]) (fun g_ a_ h_k => ⟨(h_k.inn 5 _ _ kr_ rfl rfl).trans kr_, (h_k.inn 3 _ _ kr_ rfl rfl).trans kr_, trivial⟩) Ty.ag_3_int (fun b_ g_ h_b => by show some (bsel (b_ 5) (Res.arr (g_ 5) 120 (bsel (b_ 7) [.int .i64 b.x, .int .i64 b.y, .int .i64 b.z] [.int .i64 0, .int .i64 0, .int .i64 0])) Res.free) = some (Res.arr (g_ 5) 120 ([.int .i64 0, .int .i64 0, .int .i64 0])); rw [bselT (h_b.pre 5 kr_), bselF h_b.no]) (fun g_ X_ => (wn rfl)) rfl (fun g_ X_ => litEv kr_) (fun g_ X_ => litEv kr_) (fun _ => by kernel_rfl) (fun _ => by kernel_rfl) (fun _ => by kernel_rfl) (fun b_ g_ h_b => Eq.trans (b := List.set (((.arr g2 23 (pcs a)) :: (.arr g5 23 (pcs b)) :: (.arr g10 23 ([.int .i64 a.x, .int .i64 a.y, .int .i64 a.z, .int .i64 b.x, .int .i64 b.y, .int .i64 b.z])) :: (bsel (b_ 4) (.arr (g_ 4) 120 (bsel (b_ 6) [.int .i64 a.x, .int .i64 a.y, .int .i64 a.z] [.int .i64 0, .int .i64 0, .int .i64 0])) .free) :: (bsel (b_ 5) (.arr (g_ 5) 120 (bsel (b_ 7) [.int .i64 b.x, .int .i64 b.y, .int .i64 b.z] [.int .i64 0, .int .i64 0, .int .i64 0])) .free) :: [])) 4 (bsel (b_ 5) (Res.arr (g_ 5) 120 ([.int .i64 b.x, .int .i64 b.y, .int .i64 b.z])) Res.free)) kr_ (congrArg (fun x_ => List.set _ 4 x_) (bselT (h_b.pre 5 kr_) _ _))) rfl) ?_
  exact aoDone (by decide)
 intro g_ a_ w20 hF_ hm19
 obtain ⟨X21, rfl⟩ := frLit (⟨hF_.size, hF_.defers, ⟨hF_.o_ 4, hF_.o_ 5, hF_.i_ 4, hF_.i_ 5, hF_.i_ 0, hF_.i_ 1, hF_.i_ 2, hF_.i_ 3, trivial⟩⟩ : Fr _ 41 [(4, .int .i64 0), (5, .int .i64 0), (6, .pointer (some ⟨(g_ 4), 0, none⟩)), (7, .pointer (some ⟨(g_ 5), 0, none⟩)), (14, .agg (pcs a).toArray), (15, .agg (pcs a).toArray), (16, .agg (pcs b).toArray), (17, .agg (pcs b).toArray)])
 clear hF_
 have hm22 : Mem w w20 [.arr g2 23 (pcs a), .arr g5 23 (pcs b), .arr g10 23 ([.int .i64 a.x, .int .i64 a.y, .int .i64 a.z, .int .i64 b.x, .int .i64 b.y, .int .i64 b.z]), .arr (g_ 4) 120 (pcs a), .arr (g_ 5) 120 (pcs b)] := hm19
 clear hm19 hm14
 generalize g_ 4 = g23 at hm22 ⊢
 generalize g_ 5 = g24 at hm22 ⊢
 clear g_
 refine tn_ hK18 ?_
 refine sk_ fun _ hK25 => ?_
 refine sp_ fun _ hK26 => ?_
 refine li_ 0 ?_
 refine pt_ hK26 ?_
 refine wp_block ?_
 refine roundsStart 3 ?_
 refine sp_ fun _ hK27 => ?_
 refine lT_ ?_
 refine pt_ hK27 ?_
 refine sk_ fun _ hK28 => ?_
 refine wp_cond_true le_ ?_
 refine wp_skip ?_
 refine tn_ hK28 ?_
 refine sk_ fun _ hK29 => ?_
 refine wp_block ?_
 refine sp_ fun _ hK30 => ?_
 refine li_ 0 ?_
 refine li_ 0 ?_
 refine pt_ hK30 ?_
 refine mgStart hm22 kr_ ?_
 intro w32 hm31
 clear hm22
 refine mk_ (i := 0) (v := .int .i64 0) rfl rfl (fun _ _ _ h => h) hm31 rfl ?_
 refine mk_ (i := 1) (v := .int .i64 0) rfl rfl (fun _ _ _ h => h) hm31 rfl ?_
 refine mt_ 2 rfl (.pointer (some ⟨g23, 0, none⟩)) hm31 (fun w_ h_ => iaRun (b := g23) (off := 0) (s := 1) (n := 3) (kk := .i64) (.tmp 6) (.tmp 22) 0 Ty.und_3_int kr_ rfl le_ le_ rfl (by decide)) ?_
 refine mt_ 3 rfl (.int .i64 a.x) hm31 (fun w_ h_ => ld_ 0 3 h_) ?_
 refine mk_ (i := 4) (v := .int .i64 0) rfl rfl (fun _ _ _ h => h) hm31 rfl ?_
 refine mt_ 5 rfl (.pointer (some ⟨g24, 0, none⟩)) hm31 (fun w_ h_ => iaRun (b := g24) (off := 0) (s := 1) (n := 3) (kk := .i64) (.tmp 7) (.tmp 25) 0 Ty.und_3_int kr_ rfl le_ le_ rfl (by decide)) ?_
 refine mt_ 6 rfl (.int .i64 b.x) hm31 (fun w_ h_ => ld_ 0 4 h_) ?_
 refine mt_ 7 rfl (.int .i64 (a.x - b.x)) hm31 (fun w_ h_ => sb_ a.x b.x (h := by have hr_ := of_decide_eq_true h15; unfold Pt.rng at hr_; omega)) ?_
 refine mk_ (i := 8) (v := .int .i64 0) rfl rfl (fun _ _ _ h => h) hm31 rfl ?_
 refine mt_ 9 rfl (.pointer (some ⟨g24, 0, none⟩)) hm31 (fun w_ h_ => iaRun (b := g24) (off := 0) (s := 1) (n := 3) (kk := .i64) (.tmp 7) (.tmp 29) 0 Ty.und_3_int kr_ rfl le_ le_ rfl (by decide)) ?_
 refine mt_ 10 rfl (.int .i64 b.x) hm31 (fun w_ h_ => ld_ 0 4 h_) ?_
 refine mk_ (i := 11) (v := .int .i64 0) rfl rfl (fun _ _ _ h => h) hm31 rfl ?_
 refine mt_ 12 rfl (.pointer (some ⟨g23, 0, none⟩)) hm31 (fun w_ h_ => iaRun (b := g23) (off := 0) (s := 1) (n := 3) (kk := .i64) (.tmp 6) (.tmp 32) 0 Ty.und_3_int kr_ rfl le_ le_ rfl (by decide)) ?_
 refine mt_ 13 rfl (.int .i64 a.x) hm31 (fun w_ h_ => ld_ 0 3 h_) ?_
 refine mt_ 14 rfl (.int .i64 (b.x - a.x)) hm31 (fun w_ h_ => sb_ b.x a.x (h := by have hr_ := of_decide_eq_true h15; unfold Pt.rng at hr_; omega)) ?_
 refine mt_ 15 rfl (.int .i64 (max (a.x - b.x) (b.x - a.x))) hm31 (fun w_ h_ => gMax (.tmp 28) (.tmp 35) rfl le_ le_) ?_
 refine mt_ 16 rfl (.int .i64 (0 + (max (a.x - b.x) (b.x - a.x)))) hm31 (fun w_ h_ => ad_ 0 (max (a.x - b.x) (b.x - a.x)) (h := by have hr_ := of_decide_eq_true h15; unfold Pt.rng at hr_; omega)) ?_
 refine mk_ (i := 17) (v := .int .i64 (0 + (max (a.x - b.x) (b.x - a.x)))) rfl rfl (fun _ _ _ h => h) hm31 rfl ?_
 refine mgDone kr_ ?_
 refine inBlock_normal ?_
 refine tn_ hK29 ?_
 refine plStart ?_
 refine li_ 1 ?_
 refine li_ 1 ?_
 refine plD ?_
 refine then_normal (roundsNext ?_)
 refine sp_ fun _ hK33 => ?_
 refine lT_ ?_
 refine pt_ hK33 ?_
 refine sk_ fun _ hK34 => ?_
 refine wp_cond_true le_ ?_
 refine wp_skip ?_
 refine tn_ hK34 ?_
 refine sk_ fun _ hK35 => ?_
 refine wp_block ?_
 refine sp_ fun _ hK36 => ?_
 refine li_ 1 ?_
 refine li_ 1 ?_
 refine pt_ hK36 ?_
 refine mgStart hm31 kr_ ?_
 intro w38 hm37
 clear hm31
 refine mk_ (i := 0) (v := .int .i64 (0 + (max (a.x - b.x) (b.x - a.x)))) rfl rfl (fun _ _ _ h => h) hm37 rfl ?_
 refine mk_ (i := 1) (v := .int .i64 1) rfl rfl (fun _ _ _ h => h) hm37 rfl ?_
 refine mt_ 2 rfl (.pointer (some ⟨g23, 1, none⟩)) hm37 (fun w_ h_ => iaRun (b := g23) (off := 0) (s := 1) (n := 3) (kk := .i64) (.tmp 6) (.tmp 22) 1 Ty.und_3_int kr_ rfl le_ le_ rfl (by decide)) ?_
 refine mt_ 3 rfl (.int .i64 a.y) hm37 (fun w_ h_ => ld_ 1 3 h_) ?_
 refine mk_ (i := 4) (v := .int .i64 1) rfl rfl (fun _ _ _ h => h) hm37 rfl ?_
 refine mt_ 5 rfl (.pointer (some ⟨g24, 1, none⟩)) hm37 (fun w_ h_ => iaRun (b := g24) (off := 0) (s := 1) (n := 3) (kk := .i64) (.tmp 7) (.tmp 25) 1 Ty.und_3_int kr_ rfl le_ le_ rfl (by decide)) ?_
 refine mt_ 6 rfl (.int .i64 b.y) hm37 (fun w_ h_ => ld_ 1 4 h_) ?_
 refine mt_ 7 rfl (.int .i64 (a.y - b.y)) hm37 (fun w_ h_ => sb_ a.y b.y (h := by have hr_ := of_decide_eq_true h15; unfold Pt.rng at hr_; omega)) ?_
 refine mk_ (i := 8) (v := .int .i64 1) rfl rfl (fun _ _ _ h => h) hm37 rfl ?_
 refine mt_ 9 rfl (.pointer (some ⟨g24, 1, none⟩)) hm37 (fun w_ h_ => iaRun (b := g24) (off := 0) (s := 1) (n := 3) (kk := .i64) (.tmp 7) (.tmp 29) 1 Ty.und_3_int kr_ rfl le_ le_ rfl (by decide)) ?_
 refine mt_ 10 rfl (.int .i64 b.y) hm37 (fun w_ h_ => ld_ 1 4 h_) ?_
 refine mk_ (i := 11) (v := .int .i64 1) rfl rfl (fun _ _ _ h => h) hm37 rfl ?_
 refine mt_ 12 rfl (.pointer (some ⟨g23, 1, none⟩)) hm37 (fun w_ h_ => iaRun (b := g23) (off := 0) (s := 1) (n := 3) (kk := .i64) (.tmp 6) (.tmp 32) 1 Ty.und_3_int kr_ rfl le_ le_ rfl (by decide)) ?_
 refine mt_ 13 rfl (.int .i64 a.y) hm37 (fun w_ h_ => ld_ 1 3 h_) ?_
 refine mt_ 14 rfl (.int .i64 (b.y - a.y)) hm37 (fun w_ h_ => sb_ b.y a.y (h := by have hr_ := of_decide_eq_true h15; unfold Pt.rng at hr_; omega)) ?_
 refine mt_ 15 rfl (.int .i64 (max (a.y - b.y) (b.y - a.y))) hm37 (fun w_ h_ => gMax (.tmp 28) (.tmp 35) rfl le_ le_) ?_
 refine mt_ 16 rfl (.int .i64 ((0 + (max (a.x - b.x) (b.x - a.x))) + (max (a.y - b.y) (b.y - a.y)))) hm37 (fun w_ h_ => ad_ (0 + (max (a.x - b.x) (b.x - a.x))) (max (a.y - b.y) (b.y - a.y)) (h := by have hr_ := of_decide_eq_true h15; unfold Pt.rng at hr_; omega)) ?_
 refine mk_ (i := 17) (v := .int .i64 ((0 + (max (a.x - b.x) (b.x - a.x))) + (max (a.y - b.y) (b.y - a.y)))) rfl rfl (fun _ _ _ h => h) hm37 rfl ?_
 refine mgDone kr_ ?_
 refine inBlock_normal ?_
 refine tn_ hK35 ?_
 refine wpPrune [(4, .int .i64 0), (5, .int .i64 ((0 + (max (a.x - b.x) (b.x - a.x))) + (max (a.y - b.y) (b.y - a.y)))), (6, .pointer (some ⟨g23, 0, none⟩)), (7, .pointer (some ⟨g24, 0, none⟩)), (8, .int .i64 1), (18, .int .i64 1), (19, .bool true), (20, .int .i64 1), (21, .int .i64 (0 + (max (a.x - b.x) (b.x - a.x)))), (22, .int .i64 1), (23, .pointer (some ⟨g23, 1, none⟩)), (24, .int .i64 a.y), (25, .int .i64 1), (26, .pointer (some ⟨g24, 1, none⟩)), (27, .int .i64 b.y), (28, .int .i64 (a.y - b.y)), (29, .int .i64 1), (30, .pointer (some ⟨g24, 1, none⟩)), (31, .int .i64 b.y), (32, .int .i64 1), (33, .pointer (some ⟨g23, 1, none⟩)), (34, .int .i64 a.y), (35, .int .i64 (b.y - a.y)), (36, .int .i64 (max (a.y - b.y) (b.y - a.y))), (37, .int .i64 ((0 + (max (a.x - b.x) (b.x - a.x))) + (max (a.y - b.y) (b.y - a.y)))), (38, .int .i64 1)] fo_ (fun X39 => ?_)
 refine plStart ?_
 refine li_ 2 ?_
 refine li_ 2 ?_
 refine plD ?_
 refine then_normal (roundsNext ?_)
 refine sp_ fun _ hK40 => ?_
 refine lT_ ?_
 refine pt_ hK40 ?_
 refine sk_ fun _ hK41 => ?_
 refine wp_cond_true le_ ?_
 refine wp_skip ?_
 refine tn_ hK41 ?_
 refine sk_ fun _ hK42 => ?_
 refine wp_block ?_
 refine sp_ fun _ hK43 => ?_
 refine li_ 2 ?_
 refine li_ 2 ?_
 refine pt_ hK43 ?_
 refine mgStart hm37 kr_ ?_
 intro w45 hm44
 clear hm37
 refine mk_ (i := 0) (v := .int .i64 ((0 + (max (a.x - b.x) (b.x - a.x))) + (max (a.y - b.y) (b.y - a.y)))) rfl rfl (fun _ _ _ h => h) hm44 rfl ?_
 refine mk_ (i := 1) (v := .int .i64 2) rfl rfl (fun _ _ _ h => h) hm44 rfl ?_
 refine mt_ 2 rfl (.pointer (some ⟨g23, 2, none⟩)) hm44 (fun w_ h_ => iaRun (b := g23) (off := 0) (s := 1) (n := 3) (kk := .i64) (.tmp 6) (.tmp 22) 2 Ty.und_3_int kr_ rfl le_ le_ rfl (by decide)) ?_
 refine mt_ 3 rfl (.int .i64 a.z) hm44 (fun w_ h_ => ld_ 2 3 h_) ?_
 refine mk_ (i := 4) (v := .int .i64 2) rfl rfl (fun _ _ _ h => h) hm44 rfl ?_
 refine mt_ 5 rfl (.pointer (some ⟨g24, 2, none⟩)) hm44 (fun w_ h_ => iaRun (b := g24) (off := 0) (s := 1) (n := 3) (kk := .i64) (.tmp 7) (.tmp 25) 2 Ty.und_3_int kr_ rfl le_ le_ rfl (by decide)) ?_
 refine mt_ 6 rfl (.int .i64 b.z) hm44 (fun w_ h_ => ld_ 2 4 h_) ?_
 refine mt_ 7 rfl (.int .i64 (a.z - b.z)) hm44 (fun w_ h_ => sb_ a.z b.z (h := by have hr_ := of_decide_eq_true h15; unfold Pt.rng at hr_; omega)) ?_
 refine mk_ (i := 8) (v := .int .i64 2) rfl rfl (fun _ _ _ h => h) hm44 rfl ?_
 refine mt_ 9 rfl (.pointer (some ⟨g24, 2, none⟩)) hm44 (fun w_ h_ => iaRun (b := g24) (off := 0) (s := 1) (n := 3) (kk := .i64) (.tmp 7) (.tmp 29) 2 Ty.und_3_int kr_ rfl le_ le_ rfl (by decide)) ?_
 refine mt_ 10 rfl (.int .i64 b.z) hm44 (fun w_ h_ => ld_ 2 4 h_) ?_
 refine mk_ (i := 11) (v := .int .i64 2) rfl rfl (fun _ _ _ h => h) hm44 rfl ?_
 refine mt_ 12 rfl (.pointer (some ⟨g23, 2, none⟩)) hm44 (fun w_ h_ => iaRun (b := g23) (off := 0) (s := 1) (n := 3) (kk := .i64) (.tmp 6) (.tmp 32) 2 Ty.und_3_int kr_ rfl le_ le_ rfl (by decide)) ?_
 refine mt_ 13 rfl (.int .i64 a.z) hm44 (fun w_ h_ => ld_ 2 3 h_) ?_
 refine mt_ 14 rfl (.int .i64 (b.z - a.z)) hm44 (fun w_ h_ => sb_ b.z a.z (h := by have hr_ := of_decide_eq_true h15; unfold Pt.rng at hr_; omega)) ?_
 refine mt_ 15 rfl (.int .i64 (max (a.z - b.z) (b.z - a.z))) hm44 (fun w_ h_ => gMax (.tmp 28) (.tmp 35) rfl le_ le_) ?_
 refine mt_ 16 rfl (.int .i64 (((0 + (max (a.x - b.x) (b.x - a.x))) + (max (a.y - b.y) (b.y - a.y))) + (max (a.z - b.z) (b.z - a.z)))) hm44 (fun w_ h_ => ad_ ((0 + (max (a.x - b.x) (b.x - a.x))) + (max (a.y - b.y) (b.y - a.y))) (max (a.z - b.z) (b.z - a.z)) (h := by have hr_ := of_decide_eq_true h15; unfold Pt.rng at hr_; omega)) ?_
 refine mk_ (i := 17) (v := .int .i64 (((0 + (max (a.x - b.x) (b.x - a.x))) + (max (a.y - b.y) (b.y - a.y))) + (max (a.z - b.z) (b.z - a.z)))) rfl rfl (fun _ _ _ h => h) hm44 rfl ?_
 refine mgDone kr_ ?_
 refine inBlock_normal ?_
 refine tn_ hK42 ?_
 refine wpPrune [(4, .int .i64 0), (5, .int .i64 (((0 + (max (a.x - b.x) (b.x - a.x))) + (max (a.y - b.y) (b.y - a.y))) + (max (a.z - b.z) (b.z - a.z)))), (6, .pointer (some ⟨g23, 0, none⟩)), (7, .pointer (some ⟨g24, 0, none⟩)), (8, .int .i64 2), (18, .int .i64 2), (19, .bool true), (20, .int .i64 2), (21, .int .i64 ((0 + (max (a.x - b.x) (b.x - a.x))) + (max (a.y - b.y) (b.y - a.y)))), (22, .int .i64 2), (23, .pointer (some ⟨g23, 2, none⟩)), (24, .int .i64 a.z), (25, .int .i64 2), (26, .pointer (some ⟨g24, 2, none⟩)), (27, .int .i64 b.z), (28, .int .i64 (a.z - b.z)), (29, .int .i64 2), (30, .pointer (some ⟨g24, 2, none⟩)), (31, .int .i64 b.z), (32, .int .i64 2), (33, .pointer (some ⟨g23, 2, none⟩)), (34, .int .i64 a.z), (35, .int .i64 (b.z - a.z)), (36, .int .i64 (max (a.z - b.z) (b.z - a.z))), (37, .int .i64 (((0 + (max (a.x - b.x) (b.x - a.x))) + (max (a.y - b.y) (b.y - a.y))) + (max (a.z - b.z) (b.z - a.z)))), (38, .int .i64 2)] fo_ (fun X46 => ?_)
 refine plStart ?_
 refine li_ 3 ?_
 refine li_ 3 ?_
 refine plD ?_
 refine then_normal (roundsNext ?_)
 refine sp_ fun _ hK47 => ?_
 refine lF_ ?_
 refine pt_ hK47 ?_
 refine sk_ fun _ hK48 => ?_
 refine wp_cond_false le_ ?_
 refine wp_exit ?_
 refine then_exit ?_
 refine then_exit ?_
 refine inBlock_exit ?_
 refine tn_ hK25 ?_
 refine wpPrune [(4, .int .i64 0), (5, .int .i64 (((0 + (max (a.x - b.x) (b.x - a.x))) + (max (a.y - b.y) (b.y - a.y))) + (max (a.z - b.z) (b.z - a.z))))] fo_ (fun X49 => ?_)
 refine sk_ fun _ hK50 => ?_
 refine sp_ fun _ hK51 => ?_
 refine li_ (((0 + (max (a.x - b.x) (b.x - a.x))) + (max (a.y - b.y) (b.y - a.y))) + (max (a.z - b.z) (b.z - a.z))) ?_
 by_cases h52 : 65536 < (((0 + (max (a.x - b.x) (b.x - a.x))) + (max (a.y - b.y) (b.y - a.y))) + (max (a.z - b.z) (b.z - a.z)))
 ·refine lv_ rfl _ (gtT_ h52) ?_
  refine pt_ hK51 ?_
  refine wp_cond_true le_ ?_
  refine sp_ fun _ hK53 => ?_
  refine li_ 2 ?_
  refine pt_ hK53 ?_
  refine wp_ret ?_
  refine then_ret ?_
  refine br_ 4 (.int .i64 2) ?_
  exact ⟨by unfold ckE; rw [if_pos (of_decide_eq_true h15), if_pos (by unfold Pt.sum dif; omega)], hm44.bel⟩
 refine lv_ rfl _ (gtF_ h52) ?_
 refine pt_ hK51 ?_
 refine wp_cond_false le_ ?_
 refine wp_skip ?_
 refine tn_ hK50 ?_
 refine sp_ fun _ hK54 => ?_
 refine li_ 0 ?_
 refine pt_ hK54 ?_
 refine wp_ret ?_
 refine br_ 4 (.int .i64 0) ?_
 exact ⟨by unfold ckE; rw [if_pos (of_decide_eq_true h15), if_neg (by unfold Pt.sum dif; omega)], hm44.bel⟩
end Go.Proofs.YtbpihalphhoiaaaGreatDoor
namespace Go.Proofs.YtbpihalphhoiaaaGreatDoor
structure Mat where
 nm : List UInt8
 solid : Bool
 liquid : Bool
 falling : Bool
 fade : Int
 e1 : Int
 e2 : Int
 e3 : Int
def Mat.none : Mat := ⟨[], false, false, false, 16, 0, 0, 0⟩
def matAt (T : List Mat) (c : Int) : Mat := if c < 0 ∨ (T.length : Int) ≤ c then .none else T.getD c.toNat .none
structure Gr where
 box : Bx
 cells : List Int
def Gr.get (g : Gr) (p : Pt) : Int := if g.box.idx p < 0 then 0 else g.cells.getD (g.box.idx p).toNat 0
def Bx.rng (b : Bx) : Prop := b.mn.rng ∧ b.mx.rng
instance (b : Bx) : Decidable b.rng := by unfold Bx.rng; infer_instance
def bx0 : Bx := ⟨p0, p0⟩
def Gr.Valid (g : Gr) : Prop := g.box.rng ∧ ¬ ((g.box.vol = 0 ∧ g.box ≠ bx0) ∨ 2097152 < g.box.vol ∨ (g.cells.length : Int) ≠ g.box.vol) ∧ ∀ c ∈ g.cells, 0 ≤ c ∧ c < 256
instance (g : Gr) : Decidable g.Valid := by unfold Gr.Valid; infer_instance
def solidAt (g : Gr) (T : List Mat) (p : Pt) : Bool := decide (g.box.has p) && (matAt T (g.get p)).solid
theorem size_bd {b : Bx} (h : b.rng) : (0 ≤ b.size.x ∧ b.size.x ≤ 2097150) ∧ (0 ≤ b.size.y ∧ b.size.y ≤ 2097150) ∧ (0 ≤ b.size.z ∧ b.size.z ≤ 2097150) := by
 unfold Bx.rng Pt.rng at h
 unfold Bx.size
 split
 ·unfold p0; simp only; omega
 ·rename_i hn
  unfold Bx.none at hn
  unfold Pt.sub
  simp only
  omega
theorem mul_bd {x y X Y : Int} (hx : 0 ≤ x ∧ x ≤ X) (hy : 0 ≤ y ∧ y ≤ Y) : 0 ≤ x * y ∧ x * y ≤ X * Y :=
 ⟨Int.mul_nonneg hx.1 hy.1, Int.mul_le_mul hx.2 hy.2 hy.1 (by omega)⟩
theorem vol_bd {b : Bx} (h : b.rng) : (0 ≤ b.size.x * b.size.y ∧ b.size.x * b.size.y ≤ 4398038122500) ∧ (0 ≤ b.vol ∧ b.vol ≤ 9223345648600875000) := by
 obtain ⟨h1, h2, h3⟩ := size_bd h
 have g1 := mul_bd h1 h2
 have g2 := mul_bd g1 h3
 exact ⟨by omega, by unfold Bx.vol; omega⟩
theorem idx_bd {b : Bx} {p : Pt} (h : b.rng) (hp : b.has p) : b.size = b.mx.sub b.mn ∧ (0 ≤ p.x - b.mn.x ∧ p.x - b.mn.x < b.size.x) ∧ (0 ≤ p.y - b.mn.y ∧ p.y - b.mn.y < b.size.y) ∧ (0 ≤ p.z - b.mn.z ∧ p.z - b.mn.z < b.size.z) ∧
 (0 ≤ b.size.y * (p.z - b.mn.z) ∧ b.size.y * (p.z - b.mn.z) ≤ 4398038122500) ∧ (0 ≤ (p.y - b.mn.y) + b.size.y * (p.z - b.mn.z) ∧ (p.y - b.mn.y) + b.size.y * (p.z - b.mn.z) ≤ 4398038122500) ∧ (0 ≤ b.size.x * ((p.y - b.mn.y) + b.size.y * (p.z - b.mn.z)) ∧ b.size.x * ((p.y - b.mn.y) + b.size.y * (p.z - b.mn.z)) ≤ 9223345648600875000) ∧
 (0 ≤ b.idx p ∧ b.idx p < b.vol) := by
 have hs : b.size = b.mx.sub b.mn := by
  unfold Bx.size
  rw [if_neg]
  unfold Bx.has at hp
  unfold Bx.none
  omega
 obtain ⟨h1, h2, h3⟩ := size_bd h
 have hx : b.size.x = b.mx.x - b.mn.x := by rw [hs]; rfl
 have hy : b.size.y = b.mx.y - b.mn.y := by rw [hs]; rfl
 have hz : b.size.z = b.mx.z - b.mn.z := by rw [hs]; rfl
 have hvol : b.vol = b.size.x * b.size.y * b.size.z := rfl
 have hidx : b.idx p = (p.x - b.mn.x) + b.size.x * ((p.y - b.mn.y) + b.size.y * (p.z - b.mn.z)) := by unfold Bx.idx; rw [if_pos hp]
 have hv := vol_bd h
 unfold Bx.has at hp
 rw [hvol] at hv ⊢
 rw [hidx]
 clear hvol hidx
 generalize b.size.x = X at *
 generalize b.size.y = Y at *
 generalize b.size.z = Z at *
 have hdx : 0 ≤ p.x - b.mn.x ∧ p.x - b.mn.x < X := by omega
 have hdy : 0 ≤ p.y - b.mn.y ∧ p.y - b.mn.y < Y := by omega
 have hdz : 0 ≤ p.z - b.mn.z ∧ p.z - b.mn.z < Z := by omega
 generalize p.x - b.mn.x = u at *
 generalize p.y - b.mn.y = v at *
 generalize p.z - b.mn.z = t at *
 have g1 : 0 ≤ Y * t := Int.mul_nonneg (by omega) (by omega)
 have g2 : Y * t ≤ Y * (Z - 1) := Int.mul_le_mul_of_nonneg_left (by omega) (by omega)
 have g3 : Y * (Z - 1) = Y * Z - Y := by rw [Int.mul_sub, Int.mul_one]
 have g4 : 0 ≤ Y * Z ∧ Y * Z ≤ 2097150 * 2097150 := mul_bd (by omega) (by omega)
 have g5 : 0 ≤ X * (v + Y * t) := Int.mul_nonneg (by omega) (by omega)
 have g6 : X * (v + Y * t) ≤ X * (Y * Z - 1) := Int.mul_le_mul_of_nonneg_left (by omega) (by omega)
 have g7 : X * (Y * Z - 1) = X * Y * Z - X := by rw [Int.mul_sub, Int.mul_one, Int.mul_assoc]
 exact ⟨hs, hdx, hdy, hdz, by omega, by omega, by omega, by omega⟩
theorem Gr.Valid.idx {g : Gr} (h : g.Valid) {p : Pt} (hp : g.box.has p) : 0 ≤ g.box.idx p ∧ (g.box.idx p).toNat < g.cells.length := by
 have h1 := (idx_bd h.1 hp).2.2.2.2.2.2.2
 have h2 := h.2.1
 omega
theorem idx_neg {b : Bx} {p : Pt} (hp : ¬ b.has p) : b.idx p = -1 := by unfold Bx.idx; rw [if_neg hp]
def firstSol (f : Pt → Bool) : List Pt → Nat → Option (Nat × Pt)
 | [], _ => .none
 | p :: l, i => if f p then some (i, p) else firstSol f l (i + 1)
theorem firstSol_some {f : Pt → Bool} {p : Pt} : ∀ {l : List Pt} {k i : Nat}, l[k]? = some p → f p = true → (∀ q ∈ l.take k, f q = false) → firstSol f l i = some (i + k, p)
 | [], k, i, h, _, _ => by simp at h
 | q :: l, 0, i, h, hf, _ => by
  simp at h; subst h
  unfold firstSol; rw [if_pos hf]; rfl
 | q :: l, k + 1, i, h, hf, hn => by
  unfold firstSol
  rw [if_neg (by rw [hn q (by simp)]; decide), firstSol_some (l := l) (k := k) (by simpa using h) hf (fun r hr => hn r (by rw [List.take_succ_cons]; exact List.mem_cons_of_mem _ hr))]
  rw [show i + 1 + k = i + (k + 1) by omega]
theorem firstSol_none {f : Pt → Bool} : ∀ {l : List Pt} {i : Nat}, (∀ q ∈ l, f q = false) → firstSol f l i = .none
 | [], _, _ => rfl
 | q :: l, i, h => by
  unfold firstSol
  rw [if_neg (by rw [h q List.mem_cons_self]; decide)]
  exact firstSol_none fun r hr => h r (List.mem_cons_of_mem _ hr)
theorem take_all_succ {P : Pt → Prop} {l : List Pt} {k : Nat} {p : Pt} (hp : l[k]? = some p) (h : ∀ q ∈ l.take k, P q) (h1 : P p) : ∀ q ∈ l.take (k + 1), P q := by
 intro q hq
 rw [List.take_add_one, List.mem_append, hp] at hq
 rcases hq with hq | hq
 ·exact h q hq
 ·simp at hq; rw [hq]; exact h1
def befOf (l : List Pt) (a : Pt) (i : Nat) : Pt := if i = 0 then a else l.getD (i - 1) a
theorem befOf_succ {l : List Pt} {a p : Pt} {i : Nat} (h : l[i]? = some p) : befOf l a (i + 1) = p := by
 unfold befOf
 rw [if_neg (by omega), Nat.add_sub_cancel, List.getD_eq_getElem?_getD, h]; rfl
end Go.Proofs.YtbpihalphhoiaaaGreatDoor
namespace Go.Proofs.YtbpihalphhoiaaaGreatDoor
open Go.RowKit
theorem cross0_any {w0 w : World} {M : List Res} (g : Nat) (s : Ax3) (hp : -1073741824 ≤ s.x.pos ∧ s.x.pos ≤ 1073741824) (hs : -1 ≤ s.x.step ∧ s.x.step ≤ 1) (hn : -1073741824 ≤ s.x.n ∧ s.x.n ≤ 1073741824) (hm : Mem w0 w (.arr g 152 (a3 s) :: M)) : Calls Tryz.prog 86 #[.pointer (some ⟨g, 0, none⟩)] w (fun e w' => e = .returned (.tuple #[]) ∧ Mem w0 w' (.arr g 152 (a3 ⟨s.x.inc, s.y, s.z⟩) :: M)) := by
 have hm0 := hm
 go_enter Tryz.func86, Tryz.ntmps86
 refine litStart 22 [(0, .pointer (some ⟨g, 0, none⟩))] kr_ (fun X0 => ?_)
 refine sk_ fun _ hK1 => ?_
 refine aoStart (aoV [fun _ => .pointer (some ⟨g, 0, none⟩), fun _ => .pointer (some ⟨g, 0, none⟩), fun _ => .pointer (some ⟨g, 0, none⟩), fun _ => .int .i64 s.x.pos, fun _ => .pointer (some ⟨g, 0, none⟩), fun _ => .pointer (some ⟨g, 0, none⟩), fun _ => .pointer (some ⟨g, 1, none⟩), fun _ => .int .i64 s.x.step, fun _ => .int .i64 (s.x.pos + s.x.step), fun _ => .pointer (some ⟨g, 0, none⟩), fun _ => .pointer (some ⟨g, 0, none⟩), fun _ => undef]) (aoA [[], [], [], [], [], [], [], [], [], [], [], []]) (fun b_ g_ => ((.arr g 152 (bsel (b_ 11) [.int .i64 (s.x.pos + s.x.step), .int .i64 s.x.step, .int .i64 s.x.n, .int .i64 s.x.d, .int .i64 s.y.pos, .int .i64 s.y.step, .int .i64 s.y.n, .int .i64 s.y.d, .int .i64 s.z.pos, .int .i64 s.z.step, .int .i64 s.z.n, .int .i64 s.z.d] (a3 s))) :: M)) hm0 kr_ kr_ (fun w_ h_ => h_) (fun b_ g_ h_ => by show (fun (x11_ : Bool) => (((.arr g 152 (bsel x11_ [.int .i64 (s.x.pos + s.x.step), .int .i64 s.x.step, .int .i64 s.x.n, .int .i64 s.x.d, .int .i64 s.y.pos, .int .i64 s.y.step, .int .i64 s.y.n, .int .i64 s.y.d, .int .i64 s.z.pos, .int .i64 s.z.step, .int .i64 s.z.n, .int .i64 s.z.d] (a3 s))) :: M) : List Res)) (b_ 11) = _; rw [h_ 11 (by decide)]) ?_ ?_
 ·refine aoNext rfl aoK_ ?_
  refine aoNext rfl aoK_ ?_
  refine aoNext rfl aoK_ ?_
  refine aoNext rfl (aoV_ (fun b_ g_ X_ w_ h_b h_ => valTo (b := .int .i64 s.x.pos) kr_ ((fun (h_ : Mem _ w_ ((.arr g 152 (a3 s)) :: M)) => gLoad (v := .int .i64 s.x.pos) (k := 0) 0 h_ rfl kr_ (.tmp 4) kr_ rfl le_) (by have h2_ : Mem w0 w_ ((.arr g 152 (bsel (b_ 11) [.int .i64 (s.x.pos + s.x.step), .int .i64 s.x.step, .int .i64 s.x.n, .int .i64 s.x.d, .int .i64 s.y.pos, .int .i64 s.y.step, .int .i64 s.y.n, .int .i64 s.y.d, .int .i64 s.z.pos, .int .i64 s.z.step, .int .i64 s.z.n, .int .i64 s.z.d] (a3 s))) :: M) := h_; rw [bselF (h_b.post 11 kr_)] at h2_; exact h2_)))) ?_
  refine aoNext rfl aoK_ ?_
  refine aoNext rfl aoK_ ?_
  refine aoNext rfl aoK_ ?_
  refine aoNext rfl (aoV_ (fun b_ g_ X_ w_ h_b h_ => valTo (b := .int .i64 s.x.step) kr_ ((fun (h_ : Mem _ w_ ((.arr g 152 (a3 s)) :: M)) => gLoad (v := .int .i64 s.x.step) (k := 1) 0 h_ rfl kr_ (.tmp 8) kr_ rfl le_) (by have h2_ : Mem w0 w_ ((.arr g 152 (bsel (b_ 11) [.int .i64 (s.x.pos + s.x.step), .int .i64 s.x.step, .int .i64 s.x.n, .int .i64 s.x.d, .int .i64 s.y.pos, .int .i64 s.y.step, .int .i64 s.y.n, .int .i64 s.y.d, .int .i64 s.z.pos, .int .i64 s.z.step, .int .i64 s.z.n, .int .i64 s.z.d] (a3 s))) :: M) := h_; rw [bselF (h_b.post 11 kr_)] at h2_; exact h2_)))) ?_
  refine aoNext rfl (aoV_ (fun b_ g_ X_ w_ h_b h_ => valTo (b := .int .i64 (s.x.pos + s.x.step)) kr_ (ad_ s.x.pos s.x.step))) ?_
  refine aoNext rfl aoK_ ?_
  refine aoNext rfl aoK_ ?_
  refine aoNext rfl (aoStore1 (gb := fun g_ => g) (k := 0) (cur := fun g_ => a3 s) (v := fun g_ => .int .i64 (s.x.pos + s.x.step)) (v0 := fun g_ => .int .i64 s.x.pos) 0 (fun g_ => [(10, .int .i64 (s.x.pos + s.x.step)), (12, .pointer (some ⟨g, 0, none⟩))]) (fun g_ a_ h_k => ⟨(h_k.inn 8 _ _ kr_ rfl rfl).trans kr_, (h_k.inn 10 _ _ kr_ rfl rfl).trans kr_, trivial⟩) kr_ (fun b_ g_ h_b => by show some (Res.arr g 152 (bsel (b_ 11) [.int .i64 (s.x.pos + s.x.step), .int .i64 s.x.step, .int .i64 s.x.n, .int .i64 s.x.d, .int .i64 s.y.pos, .int .i64 s.y.step, .int .i64 s.y.n, .int .i64 s.y.d, .int .i64 s.z.pos, .int .i64 s.z.step, .int .i64 s.z.n, .int .i64 s.z.d] (a3 s))) = some (Res.arr g 152 (a3 s)); rw [bselF h_b.no]) (fun g_ X_ => (wn rfl)) rfl (fun g_ X_ => litEv kr_) (fun g_ X_ => litEv kr_) (fun _ => rfl) (fun _ => rfl) (fun _ => rfl) (fun b_ g_ h_b => by kernel_rfl) rfl) ?_
  exact aoDone (by decide)
 intro g_ a_ w3 hF_ hm2
 obtain ⟨X4, rfl⟩ := frLit (⟨hF_.size, hF_.defers, ⟨hF_.o_ 0, hF_.i_ 0, hF_.i_ 1, hF_.i_ 2, hF_.i_ 3, hF_.i_ 4, hF_.i_ 5, hF_.i_ 6, hF_.i_ 7, hF_.i_ 8, hF_.i_ 9, hF_.i_ 10, trivial⟩⟩ : Fr _ 22 [(0, .pointer (some ⟨g, 0, none⟩)), (2, .pointer (some ⟨g, 0, none⟩)), (3, .pointer (some ⟨g, 0, none⟩)), (4, .pointer (some ⟨g, 0, none⟩)), (5, .int .i64 s.x.pos), (6, .pointer (some ⟨g, 0, none⟩)), (7, .pointer (some ⟨g, 0, none⟩)), (8, .pointer (some ⟨g, 1, none⟩)), (9, .int .i64 s.x.step), (10, .int .i64 (s.x.pos + s.x.step)), (11, .pointer (some ⟨g, 0, none⟩)), (12, .pointer (some ⟨g, 0, none⟩))])
 clear hF_
 have hm5 : Mem w0 w3 ((.arr g 152 ([.int .i64 (s.x.pos + s.x.step), .int .i64 s.x.step, .int .i64 s.x.n, .int .i64 s.x.d, .int .i64 s.y.pos, .int .i64 s.y.step, .int .i64 s.y.n, .int .i64 s.y.d, .int .i64 s.z.pos, .int .i64 s.z.step, .int .i64 s.z.n, .int .i64 s.z.d])) :: M) := hm2
 clear hm2 hm0
 refine tn_ hK1 ?_
 refine plStart ?_
 refine lp_ g 0 ?_
 refine lp_ g 0 ?_
 refine lp_ g 2 ?_
 refine lp_ g 2 ?_
 refine lv_ rfl (.int .i64 s.x.n) (ld_ 2 0 hm5) ?_
 refine lv_ rfl _ (ad_ s.x.n 2) ?_
 refine lp_ g 0 ?_
 refine lp_ g 2 ?_
 refine lp_ g 2 ?_
 refine plStore1 (v := .int .i64 (s.x.n + 2)) (k := 2) 0 kr_ hm5 rfl (i := 9) rfl (wn rfl) rfl le_ le_ rfl rfl rfl ?_
 intro w7 hm6
 clear hm5
 try simp only [lc_] at hm6
 refine qNone rfl ?_
 refine plD ?_
 refine bodyPost_end (v := .tuple #[]) (gRes0 rfl ) rfl ?_
 exact ⟨rfl, by have h2_ := hm6; exact h2_⟩
theorem cross1_any {w0 w : World} {M : List Res} (g : Nat) (s : Ax3) (hp : -1073741824 ≤ s.y.pos ∧ s.y.pos ≤ 1073741824) (hs : -1 ≤ s.y.step ∧ s.y.step ≤ 1) (hn : -1073741824 ≤ s.y.n ∧ s.y.n ≤ 1073741824) (hm : Mem w0 w (.arr g 152 (a3 s) :: M)) : Calls Tryz.prog 86 #[.pointer (some ⟨g, 4, none⟩)] w (fun e w' => e = .returned (.tuple #[]) ∧ Mem w0 w' (.arr g 152 (a3 ⟨s.x, s.y.inc, s.z⟩) :: M)) := by
 have hm0 := hm
 go_enter Tryz.func86, Tryz.ntmps86
 refine litStart 22 [(0, .pointer (some ⟨g, 4, none⟩))] kr_ (fun X0 => ?_)
 refine sk_ fun _ hK1 => ?_
 refine aoStart (aoV [fun _ => .pointer (some ⟨g, 4, none⟩), fun _ => .pointer (some ⟨g, 4, none⟩), fun _ => .pointer (some ⟨g, 4, none⟩), fun _ => .int .i64 s.y.pos, fun _ => .pointer (some ⟨g, 4, none⟩), fun _ => .pointer (some ⟨g, 4, none⟩), fun _ => .pointer (some ⟨g, 5, none⟩), fun _ => .int .i64 s.y.step, fun _ => .int .i64 (s.y.pos + s.y.step), fun _ => .pointer (some ⟨g, 4, none⟩), fun _ => .pointer (some ⟨g, 4, none⟩), fun _ => undef]) (aoA [[], [], [], [], [], [], [], [], [], [], [], []]) (fun b_ g_ => ((.arr g 152 (bsel (b_ 11) [.int .i64 s.x.pos, .int .i64 s.x.step, .int .i64 s.x.n, .int .i64 s.x.d, .int .i64 (s.y.pos + s.y.step), .int .i64 s.y.step, .int .i64 s.y.n, .int .i64 s.y.d, .int .i64 s.z.pos, .int .i64 s.z.step, .int .i64 s.z.n, .int .i64 s.z.d] (a3 s))) :: M)) hm0 kr_ kr_ (fun w_ h_ => h_) (fun b_ g_ h_ => by show (fun (x11_ : Bool) => (((.arr g 152 (bsel x11_ [.int .i64 s.x.pos, .int .i64 s.x.step, .int .i64 s.x.n, .int .i64 s.x.d, .int .i64 (s.y.pos + s.y.step), .int .i64 s.y.step, .int .i64 s.y.n, .int .i64 s.y.d, .int .i64 s.z.pos, .int .i64 s.z.step, .int .i64 s.z.n, .int .i64 s.z.d] (a3 s))) :: M) : List Res)) (b_ 11) = _; rw [h_ 11 (by decide)]) ?_ ?_
 ·refine aoNext rfl aoK_ ?_
  refine aoNext rfl aoK_ ?_
  refine aoNext rfl aoK_ ?_
  refine aoNext rfl (aoV_ (fun b_ g_ X_ w_ h_b h_ => valTo (b := .int .i64 s.y.pos) kr_ ((fun (h_ : Mem _ w_ ((.arr g 152 (a3 s)) :: M)) => gLoad (v := .int .i64 s.y.pos) (k := 4) 0 h_ rfl kr_ (.tmp 4) kr_ rfl le_) (by have h2_ : Mem w0 w_ ((.arr g 152 (bsel (b_ 11) [.int .i64 s.x.pos, .int .i64 s.x.step, .int .i64 s.x.n, .int .i64 s.x.d, .int .i64 (s.y.pos + s.y.step), .int .i64 s.y.step, .int .i64 s.y.n, .int .i64 s.y.d, .int .i64 s.z.pos, .int .i64 s.z.step, .int .i64 s.z.n, .int .i64 s.z.d] (a3 s))) :: M) := h_; rw [bselF (h_b.post 11 kr_)] at h2_; exact h2_)))) ?_
  refine aoNext rfl aoK_ ?_
  refine aoNext rfl aoK_ ?_
  refine aoNext rfl aoK_ ?_
  refine aoNext rfl (aoV_ (fun b_ g_ X_ w_ h_b h_ => valTo (b := .int .i64 s.y.step) kr_ ((fun (h_ : Mem _ w_ ((.arr g 152 (a3 s)) :: M)) => gLoad (v := .int .i64 s.y.step) (k := 5) 0 h_ rfl kr_ (.tmp 8) kr_ rfl le_) (by have h2_ : Mem w0 w_ ((.arr g 152 (bsel (b_ 11) [.int .i64 s.x.pos, .int .i64 s.x.step, .int .i64 s.x.n, .int .i64 s.x.d, .int .i64 (s.y.pos + s.y.step), .int .i64 s.y.step, .int .i64 s.y.n, .int .i64 s.y.d, .int .i64 s.z.pos, .int .i64 s.z.step, .int .i64 s.z.n, .int .i64 s.z.d] (a3 s))) :: M) := h_; rw [bselF (h_b.post 11 kr_)] at h2_; exact h2_)))) ?_
  refine aoNext rfl (aoV_ (fun b_ g_ X_ w_ h_b h_ => valTo (b := .int .i64 (s.y.pos + s.y.step)) kr_ (ad_ s.y.pos s.y.step))) ?_
  refine aoNext rfl aoK_ ?_
  refine aoNext rfl aoK_ ?_
  refine aoNext rfl (aoStore1 (gb := fun g_ => g) (k := 4) (cur := fun g_ => a3 s) (v := fun g_ => .int .i64 (s.y.pos + s.y.step)) (v0 := fun g_ => .int .i64 s.y.pos) 0 (fun g_ => [(10, .int .i64 (s.y.pos + s.y.step)), (12, .pointer (some ⟨g, 4, none⟩))]) (fun g_ a_ h_k => ⟨(h_k.inn 8 _ _ kr_ rfl rfl).trans kr_, (h_k.inn 10 _ _ kr_ rfl rfl).trans kr_, trivial⟩) kr_ (fun b_ g_ h_b => by show some (Res.arr g 152 (bsel (b_ 11) [.int .i64 s.x.pos, .int .i64 s.x.step, .int .i64 s.x.n, .int .i64 s.x.d, .int .i64 (s.y.pos + s.y.step), .int .i64 s.y.step, .int .i64 s.y.n, .int .i64 s.y.d, .int .i64 s.z.pos, .int .i64 s.z.step, .int .i64 s.z.n, .int .i64 s.z.d] (a3 s))) = some (Res.arr g 152 (a3 s)); rw [bselF h_b.no]) (fun g_ X_ => (wn rfl)) rfl (fun g_ X_ => litEv kr_) (fun g_ X_ => litEv kr_) (fun _ => rfl) (fun _ => rfl) (fun _ => rfl) (fun b_ g_ h_b => by kernel_rfl) rfl) ?_
  exact aoDone (by decide)
 intro g_ a_ w3 hF_ hm2
 obtain ⟨X4, rfl⟩ := frLit (⟨hF_.size, hF_.defers, ⟨hF_.o_ 0, hF_.i_ 0, hF_.i_ 1, hF_.i_ 2, hF_.i_ 3, hF_.i_ 4, hF_.i_ 5, hF_.i_ 6, hF_.i_ 7, hF_.i_ 8, hF_.i_ 9, hF_.i_ 10, trivial⟩⟩ : Fr _ 22 [(0, .pointer (some ⟨g, 4, none⟩)), (2, .pointer (some ⟨g, 4, none⟩)), (3, .pointer (some ⟨g, 4, none⟩)), (4, .pointer (some ⟨g, 4, none⟩)), (5, .int .i64 s.y.pos), (6, .pointer (some ⟨g, 4, none⟩)), (7, .pointer (some ⟨g, 4, none⟩)), (8, .pointer (some ⟨g, 5, none⟩)), (9, .int .i64 s.y.step), (10, .int .i64 (s.y.pos + s.y.step)), (11, .pointer (some ⟨g, 4, none⟩)), (12, .pointer (some ⟨g, 4, none⟩))])
 clear hF_
 have hm5 : Mem w0 w3 ((.arr g 152 ([.int .i64 s.x.pos, .int .i64 s.x.step, .int .i64 s.x.n, .int .i64 s.x.d, .int .i64 (s.y.pos + s.y.step), .int .i64 s.y.step, .int .i64 s.y.n, .int .i64 s.y.d, .int .i64 s.z.pos, .int .i64 s.z.step, .int .i64 s.z.n, .int .i64 s.z.d])) :: M) := hm2
 clear hm2 hm0
 refine tn_ hK1 ?_
 refine plStart ?_
 refine lp_ g 4 ?_
 refine lp_ g 4 ?_
 refine lp_ g 6 ?_
 refine lp_ g 6 ?_
 refine lv_ rfl (.int .i64 s.y.n) (ld_ 6 0 hm5) ?_
 refine lv_ rfl _ (ad_ s.y.n 2) ?_
 refine lp_ g 4 ?_
 refine lp_ g 6 ?_
 refine lp_ g 6 ?_
 refine plStore1 (v := .int .i64 (s.y.n + 2)) (k := 6) 0 kr_ hm5 rfl (i := 9) rfl (wn rfl) rfl le_ le_ rfl rfl rfl ?_
 intro w7 hm6
 clear hm5
 try simp only [lc_] at hm6
 refine qNone rfl ?_
 refine plD ?_
 refine bodyPost_end (v := .tuple #[]) (gRes0 rfl ) rfl ?_
 exact ⟨rfl, by have h2_ := hm6; exact h2_⟩
theorem cross2_any {w0 w : World} {M : List Res} (g : Nat) (s : Ax3) (hp : -1073741824 ≤ s.z.pos ∧ s.z.pos ≤ 1073741824) (hs : -1 ≤ s.z.step ∧ s.z.step ≤ 1) (hn : -1073741824 ≤ s.z.n ∧ s.z.n ≤ 1073741824) (hm : Mem w0 w (.arr g 152 (a3 s) :: M)) : Calls Tryz.prog 86 #[.pointer (some ⟨g, 8, none⟩)] w (fun e w' => e = .returned (.tuple #[]) ∧ Mem w0 w' (.arr g 152 (a3 ⟨s.x, s.y, s.z.inc⟩) :: M)) := by
 have hm0 := hm
 go_enter Tryz.func86, Tryz.ntmps86
 refine litStart 22 [(0, .pointer (some ⟨g, 8, none⟩))] kr_ (fun X0 => ?_)
 refine sk_ fun _ hK1 => ?_
 refine aoStart (aoV [fun _ => .pointer (some ⟨g, 8, none⟩), fun _ => .pointer (some ⟨g, 8, none⟩), fun _ => .pointer (some ⟨g, 8, none⟩), fun _ => .int .i64 s.z.pos, fun _ => .pointer (some ⟨g, 8, none⟩), fun _ => .pointer (some ⟨g, 8, none⟩), fun _ => .pointer (some ⟨g, 9, none⟩), fun _ => .int .i64 s.z.step, fun _ => .int .i64 (s.z.pos + s.z.step), fun _ => .pointer (some ⟨g, 8, none⟩), fun _ => .pointer (some ⟨g, 8, none⟩), fun _ => undef]) (aoA [[], [], [], [], [], [], [], [], [], [], [], []]) (fun b_ g_ => ((.arr g 152 (bsel (b_ 11) [.int .i64 s.x.pos, .int .i64 s.x.step, .int .i64 s.x.n, .int .i64 s.x.d, .int .i64 s.y.pos, .int .i64 s.y.step, .int .i64 s.y.n, .int .i64 s.y.d, .int .i64 (s.z.pos + s.z.step), .int .i64 s.z.step, .int .i64 s.z.n, .int .i64 s.z.d] (a3 s))) :: M)) hm0 kr_ kr_ (fun w_ h_ => h_) (fun b_ g_ h_ => by show (fun (x11_ : Bool) => (((.arr g 152 (bsel x11_ [.int .i64 s.x.pos, .int .i64 s.x.step, .int .i64 s.x.n, .int .i64 s.x.d, .int .i64 s.y.pos, .int .i64 s.y.step, .int .i64 s.y.n, .int .i64 s.y.d, .int .i64 (s.z.pos + s.z.step), .int .i64 s.z.step, .int .i64 s.z.n, .int .i64 s.z.d] (a3 s))) :: M) : List Res)) (b_ 11) = _; rw [h_ 11 (by decide)]) ?_ ?_
 ·refine aoNext rfl aoK_ ?_
  refine aoNext rfl aoK_ ?_
  refine aoNext rfl aoK_ ?_
  refine aoNext rfl (aoV_ (fun b_ g_ X_ w_ h_b h_ => valTo (b := .int .i64 s.z.pos) kr_ ((fun (h_ : Mem _ w_ ((.arr g 152 (a3 s)) :: M)) => gLoad (v := .int .i64 s.z.pos) (k := 8) 0 h_ rfl kr_ (.tmp 4) kr_ rfl le_) (by have h2_ : Mem w0 w_ ((.arr g 152 (bsel (b_ 11) [.int .i64 s.x.pos, .int .i64 s.x.step, .int .i64 s.x.n, .int .i64 s.x.d, .int .i64 s.y.pos, .int .i64 s.y.step, .int .i64 s.y.n, .int .i64 s.y.d, .int .i64 (s.z.pos + s.z.step), .int .i64 s.z.step, .int .i64 s.z.n, .int .i64 s.z.d] (a3 s))) :: M) := h_; rw [bselF (h_b.post 11 kr_)] at h2_; exact h2_)))) ?_
  refine aoNext rfl aoK_ ?_
  refine aoNext rfl aoK_ ?_
  refine aoNext rfl aoK_ ?_
  refine aoNext rfl (aoV_ (fun b_ g_ X_ w_ h_b h_ => valTo (b := .int .i64 s.z.step) kr_ ((fun (h_ : Mem _ w_ ((.arr g 152 (a3 s)) :: M)) => gLoad (v := .int .i64 s.z.step) (k := 9) 0 h_ rfl kr_ (.tmp 8) kr_ rfl le_) (by have h2_ : Mem w0 w_ ((.arr g 152 (bsel (b_ 11) [.int .i64 s.x.pos, .int .i64 s.x.step, .int .i64 s.x.n, .int .i64 s.x.d, .int .i64 s.y.pos, .int .i64 s.y.step, .int .i64 s.y.n, .int .i64 s.y.d, .int .i64 (s.z.pos + s.z.step), .int .i64 s.z.step, .int .i64 s.z.n, .int .i64 s.z.d] (a3 s))) :: M) := h_; rw [bselF (h_b.post 11 kr_)] at h2_; exact h2_)))) ?_
  refine aoNext rfl (aoV_ (fun b_ g_ X_ w_ h_b h_ => valTo (b := .int .i64 (s.z.pos + s.z.step)) kr_ (ad_ s.z.pos s.z.step))) ?_
  refine aoNext rfl aoK_ ?_
  refine aoNext rfl aoK_ ?_
  refine aoNext rfl (aoStore1 (gb := fun g_ => g) (k := 8) (cur := fun g_ => a3 s) (v := fun g_ => .int .i64 (s.z.pos + s.z.step)) (v0 := fun g_ => .int .i64 s.z.pos) 0 (fun g_ => [(10, .int .i64 (s.z.pos + s.z.step)), (12, .pointer (some ⟨g, 8, none⟩))]) (fun g_ a_ h_k => ⟨(h_k.inn 8 _ _ kr_ rfl rfl).trans kr_, (h_k.inn 10 _ _ kr_ rfl rfl).trans kr_, trivial⟩) kr_ (fun b_ g_ h_b => by show some (Res.arr g 152 (bsel (b_ 11) [.int .i64 s.x.pos, .int .i64 s.x.step, .int .i64 s.x.n, .int .i64 s.x.d, .int .i64 s.y.pos, .int .i64 s.y.step, .int .i64 s.y.n, .int .i64 s.y.d, .int .i64 (s.z.pos + s.z.step), .int .i64 s.z.step, .int .i64 s.z.n, .int .i64 s.z.d] (a3 s))) = some (Res.arr g 152 (a3 s)); rw [bselF h_b.no]) (fun g_ X_ => (wn rfl)) rfl (fun g_ X_ => litEv kr_) (fun g_ X_ => litEv kr_) (fun _ => rfl) (fun _ => rfl) (fun _ => rfl) (fun b_ g_ h_b => by kernel_rfl) rfl) ?_
  exact aoDone (by decide)
 intro g_ a_ w3 hF_ hm2
 obtain ⟨X4, rfl⟩ := frLit (⟨hF_.size, hF_.defers, ⟨hF_.o_ 0, hF_.i_ 0, hF_.i_ 1, hF_.i_ 2, hF_.i_ 3, hF_.i_ 4, hF_.i_ 5, hF_.i_ 6, hF_.i_ 7, hF_.i_ 8, hF_.i_ 9, hF_.i_ 10, trivial⟩⟩ : Fr _ 22 [(0, .pointer (some ⟨g, 8, none⟩)), (2, .pointer (some ⟨g, 8, none⟩)), (3, .pointer (some ⟨g, 8, none⟩)), (4, .pointer (some ⟨g, 8, none⟩)), (5, .int .i64 s.z.pos), (6, .pointer (some ⟨g, 8, none⟩)), (7, .pointer (some ⟨g, 8, none⟩)), (8, .pointer (some ⟨g, 9, none⟩)), (9, .int .i64 s.z.step), (10, .int .i64 (s.z.pos + s.z.step)), (11, .pointer (some ⟨g, 8, none⟩)), (12, .pointer (some ⟨g, 8, none⟩))])
 clear hF_
 have hm5 : Mem w0 w3 ((.arr g 152 ([.int .i64 s.x.pos, .int .i64 s.x.step, .int .i64 s.x.n, .int .i64 s.x.d, .int .i64 s.y.pos, .int .i64 s.y.step, .int .i64 s.y.n, .int .i64 s.y.d, .int .i64 (s.z.pos + s.z.step), .int .i64 s.z.step, .int .i64 s.z.n, .int .i64 s.z.d])) :: M) := hm2
 clear hm2 hm0
 refine tn_ hK1 ?_
 refine plStart ?_
 refine lp_ g 8 ?_
 refine lp_ g 8 ?_
 refine lp_ g 10 ?_
 refine lp_ g 10 ?_
 refine lv_ rfl (.int .i64 s.z.n) (ld_ 10 0 hm5) ?_
 refine lv_ rfl _ (ad_ s.z.n 2) ?_
 refine lp_ g 8 ?_
 refine lp_ g 10 ?_
 refine lp_ g 10 ?_
 refine plStore1 (v := .int .i64 (s.z.n + 2)) (k := 10) 0 kr_ hm5 rfl (i := 9) rfl (wn rfl) rfl le_ le_ rfl rfl rfl ?_
 intro w7 hm6
 clear hm5
 try simp only [lc_] at hm6
 refine qNone rfl ?_
 refine plD ?_
 refine bodyPost_end (v := .tuple #[]) (gRes0 rfl ) rfl ?_
 exact ⟨rfl, by have h2_ := hm6; exact h2_⟩
theorem each_any {w0 w : World} (a b : Pt) (ha : a.rng) (hb : b.rng) (vf : FuncId) (first caps : List Value) (hvf : callable Tryz.prog vf = true) (Vp : Nat → List Res → Prop) (Rp : List Res → Prop) (hvis : ∀ (i : Nat) (c : Pt) (w : World) (V M : List Res), (walk a b)[i]? = some c → Vp i V → Mem w0 w (V ++ M) → Calls Tryz.prog vf (first ++ [Value.agg (pcs c).toArray] ++ caps).toArray w (fun e w' => ∃ t V', e = .returned (.bool t) ∧ Mem w0 w' (V' ++ M) ∧ (t = true → Vp (i + 1) V') ∧ (t = false → Rp V'))) (hend : ∀ V, Vp (walk a b).length V → Rp V) (V0 : List Res) (h0 : Vp 0 V0) (hm : Mem w0 w V0) : Calls Tryz.prog 47 #[.agg (pcs a).toArray, .agg (pcs b).toArray, .func (.func vf) first.toArray caps.toArray] w (fun e w' => e = .returned (.tuple #[]) ∧ ∃ V, Mem w0 w' V ∧ Rp V) := by
 unfold Pt.rng at ha hb
 have hm0 := hm
 go_enter Tryz.func47, Tryz.ntmps47
 refine litStart 82 [(0, .agg (pcs a).toArray), (1, .agg (pcs b).toArray), (2, .func (.func vf) first.toArray caps.toArray)] kr_ (fun X0 => ?_)
 refine sp_ fun _ hK1 => ?_
 refine plBox hm0 (cs := pcs a) (i := 0) rfl (wn rfl) rfl le_ ?_
 intro g2 w4 hm3
 clear hm0
 try simp only [lc_] at hm3
 replace hm3 := hm3.i0
 refine qP rfl ?_
 refine plBox hm3 (cs := pcs b) (i := 1) rfl (wn rfl) rfl le_ ?_
 intro g5 w7 hm6
 clear hm3
 try simp only [lc_] at hm6
 replace hm6 := hm6.i1
 refine qP rfl ?_
 refine pt_ hK1 ?_
 refine sp_ fun _ hK8 => ?_
 refine plAlloc (z := [.int .i64 0, .int .i64 0, .int .i64 0, .int .i64 0, .int .i64 0, .int .i64 0, .int .i64 0, .int .i64 0, .int .i64 0, .int .i64 0, .int .i64 0, .int .i64 0]) Ty.ag_3_ray_axis hm6 (i := 0) rfl (wn rfl) rfl ?_
 intro g9 w11 hm10
 clear hm6
 try simp only [lc_] at hm10
 replace hm10 := hm10.i2
 refine qP rfl ?_
 refine pt_ hK8 ?_
 refine sk_ fun _ hK12 => ?_
 refine aoStart (aoV [fun _ => .agg (pcs a).toArray, fun _ => .agg (pcs a).toArray, fun _ => .agg (pcs b).toArray, fun _ => .agg (pcs b).toArray, fun γ_ => .pointer (some ⟨(γ_.getD 0 0), 0, none⟩), fun γ_ => .pointer (some ⟨(γ_.getD 0 0), 0, none⟩), fun _ => undef, fun _ => undef]) (aoA [[], [], [], [], [4], [5], [], []]) (fun b_ g_ => ((.arr g2 23 (pcs a)) :: (.arr g5 23 (pcs b)) :: (.arr g9 152 ([.int .i64 0, .int .i64 0, .int .i64 0, .int .i64 0, .int .i64 0, .int .i64 0, .int .i64 0, .int .i64 0, .int .i64 0, .int .i64 0, .int .i64 0, .int .i64 0])) :: (bsel (b_ 4) (.arr (g_ 4) 120 (bsel (b_ 6) [.int .i64 a.x, .int .i64 a.y, .int .i64 a.z] [.int .i64 0, .int .i64 0, .int .i64 0])) .free) :: (bsel (b_ 5) (.arr (g_ 5) 120 (bsel (b_ 7) [.int .i64 b.x, .int .i64 b.y, .int .i64 b.z] [.int .i64 0, .int .i64 0, .int .i64 0])) .free) :: V0)) hm10 kr_ kr_ (fun w_ h_ => (Mem.insAt 4 (Mem.insAt 3 h_.pushFree).pushFree)) (fun b_ g_ h_ => by show (fun (x4_ x5_ x6_ x7_ : Bool) => (((.arr g2 23 (pcs a)) :: (.arr g5 23 (pcs b)) :: (.arr g9 152 ([.int .i64 0, .int .i64 0, .int .i64 0, .int .i64 0, .int .i64 0, .int .i64 0, .int .i64 0, .int .i64 0, .int .i64 0, .int .i64 0, .int .i64 0, .int .i64 0])) :: (bsel x4_ (.arr (g_ 4) 120 (bsel x6_ [.int .i64 a.x, .int .i64 a.y, .int .i64 a.z] [.int .i64 0, .int .i64 0, .int .i64 0])) .free) :: (bsel x5_ (.arr (g_ 5) 120 (bsel x7_ [.int .i64 b.x, .int .i64 b.y, .int .i64 b.z] [.int .i64 0, .int .i64 0, .int .i64 0])) .free) :: V0) : List Res)) (b_ 4) (b_ 5) (b_ 6) (b_ 7) = _; rw [h_ 4 (by decide), h_ 5 (by decide), h_ 6 (by decide), h_ 7 (by decide)]) ?_ ?_
 ·refine aoNext rfl (aoV_ (fun b_ g_ X_ w_ h_b h_ => valTo (b := .agg (pcs a).toArray) kr_ (la_ 0 0 h_ Ty.ag_voxel_api_Point))) ?_
  refine aoNext rfl (aoC_ 83 (fun g_ => [.agg (pcs a).toArray]) [] [] (fun b_ g_ w_ h_b h_ => (coordinates_any a _).mono (fun _ _ h_r => ⟨h_r.1.trans kr_, h_r.2⟩))) ?_
  refine aoNext rfl (aoV_ (fun b_ g_ X_ w_ h_b h_ => valTo (b := .agg (pcs b).toArray) kr_ (la_ 0 1 h_ Ty.ag_voxel_api_Point))) ?_
  refine aoNext rfl (aoC_ 83 (fun g_ => [.agg (pcs b).toArray]) [] [] (fun b_ g_ w_ h_b h_ => (coordinates_any b _).mono (fun _ _ h_r => ⟨h_r.1.trans kr_, h_r.2⟩))) ?_
  refine aoNext rfl (aoNewAg (z := [.int .i64 0, .int .i64 0, .int .i64 0]) 3 Ty.ag_3_int rfl rfl (fun _ _ _ => ⟨_, rfl⟩) (fun b_ g_ γ_ h_b => Eq.trans kr_ (congrArg (fun x_ => List.set _ 3 (Res.arr γ_ 120 x_)) (bselF (α := List Value) (h_b.post 6 kr_) [.int .i64 a.x, .int .i64 a.y, .int .i64 a.z] [.int .i64 0, .int .i64 0, .int .i64 0]))) (fun _ => by kernel_rfl) kr_) ?_
  refine aoNext rfl (aoNewAg (z := [.int .i64 0, .int .i64 0, .int .i64 0]) 4 Ty.ag_3_int rfl rfl (fun _ _ _ => ⟨_, rfl⟩) (fun b_ g_ γ_ h_b => Eq.trans kr_ (congrArg (fun x_ => List.set _ 4 (Res.arr γ_ 120 x_)) (bselF (α := List Value) (h_b.post 7 kr_) [.int .i64 b.x, .int .i64 b.y, .int .i64 b.z] [.int .i64 0, .int .i64 0, .int .i64 0]))) (fun _ => by kernel_rfl) kr_) ?_
  refine aoNext rfl (aoStore (gb := fun g_ => (g_ 4)) (k := 0) (cur := fun g_ => [.int .i64 0, .int .i64 0, .int .i64 0]) (vs := fun g_ => pcs a) 3 (fun g_ => [(7, .pointer (some ⟨(g_ 4), 0, none⟩)), (17, .agg (pcs a).toArray)]) (fun g_ a_ h_k => ⟨(h_k.inn 4 _ _ kr_ rfl rfl).trans kr_, (h_k.inn 1 _ _ kr_ rfl rfl).trans kr_, trivial⟩) Ty.ag_3_int (fun b_ g_ h_b => by show some (bsel (b_ 4) (Res.arr (g_ 4) 120 (bsel (b_ 6) [.int .i64 a.x, .int .i64 a.y, .int .i64 a.z] [.int .i64 0, .int .i64 0, .int .i64 0])) Res.free) = some (Res.arr (g_ 4) 120 ([.int .i64 0, .int .i64 0, .int .i64 0])); rw [bselT (h_b.pre 4 kr_), bselF h_b.no]) (fun g_ X_ => (wn rfl)) rfl (fun g_ X_ => litEv kr_) (fun g_ X_ => litEv kr_) (fun _ => by kernel_rfl) (fun _ => by kernel_rfl) (fun _ => by kernel_rfl) (fun b_ g_ h_b => Eq.trans (b := List.set (((.arr g2 23 (pcs a)) :: (.arr g5 23 (pcs b)) :: (.arr g9 152 ([.int .i64 0, .int .i64 0, .int .i64 0, .int .i64 0, .int .i64 0, .int .i64 0, .int .i64 0, .int .i64 0, .int .i64 0, .int .i64 0, .int .i64 0, .int .i64 0])) :: (bsel (b_ 4) (.arr (g_ 4) 120 (bsel (b_ 6) [.int .i64 a.x, .int .i64 a.y, .int .i64 a.z] [.int .i64 0, .int .i64 0, .int .i64 0])) .free) :: (bsel (b_ 5) (.arr (g_ 5) 120 (bsel (b_ 7) [.int .i64 b.x, .int .i64 b.y, .int .i64 b.z] [.int .i64 0, .int .i64 0, .int .i64 0])) .free) :: V0)) 3 (bsel (b_ 4) (Res.arr (g_ 4) 120 ([.int .i64 a.x, .int .i64 a.y, .int .i64 a.z])) Res.free)) kr_ (congrArg (fun x_ => List.set _ 3 x_) (bselT (h_b.pre 4 kr_) _ _))) rfl) ?_
  refine aoNext rfl (aoStore (gb := fun g_ => (g_ 5)) (k := 0) (cur := fun g_ => [.int .i64 0, .int .i64 0, .int .i64 0]) (vs := fun g_ => pcs b) 4 (fun g_ => [(8, .pointer (some ⟨(g_ 5), 0, none⟩)), (19, .agg (pcs b).toArray)]) (fun g_ a_ h_k => ⟨(h_k.inn 5 _ _ kr_ rfl rfl).trans kr_, (h_k.inn 3 _ _ kr_ rfl rfl).trans kr_, trivial⟩) Ty.ag_3_int (fun b_ g_ h_b => by show some (bsel (b_ 5) (Res.arr (g_ 5) 120 (bsel (b_ 7) [.int .i64 b.x, .int .i64 b.y, .int .i64 b.z] [.int .i64 0, .int .i64 0, .int .i64 0])) Res.free) = some (Res.arr (g_ 5) 120 ([.int .i64 0, .int .i64 0, .int .i64 0])); rw [bselT (h_b.pre 5 kr_), bselF h_b.no]) (fun g_ X_ => (wn rfl)) rfl (fun g_ X_ => litEv kr_) (fun g_ X_ => litEv kr_) (fun _ => by kernel_rfl) (fun _ => by kernel_rfl) (fun _ => by kernel_rfl) (fun b_ g_ h_b => Eq.trans (b := List.set (((.arr g2 23 (pcs a)) :: (.arr g5 23 (pcs b)) :: (.arr g9 152 ([.int .i64 0, .int .i64 0, .int .i64 0, .int .i64 0, .int .i64 0, .int .i64 0, .int .i64 0, .int .i64 0, .int .i64 0, .int .i64 0, .int .i64 0, .int .i64 0])) :: (bsel (b_ 4) (.arr (g_ 4) 120 (bsel (b_ 6) [.int .i64 a.x, .int .i64 a.y, .int .i64 a.z] [.int .i64 0, .int .i64 0, .int .i64 0])) .free) :: (bsel (b_ 5) (.arr (g_ 5) 120 (bsel (b_ 7) [.int .i64 b.x, .int .i64 b.y, .int .i64 b.z] [.int .i64 0, .int .i64 0, .int .i64 0])) .free) :: V0)) 4 (bsel (b_ 5) (Res.arr (g_ 5) 120 ([.int .i64 b.x, .int .i64 b.y, .int .i64 b.z])) Res.free)) kr_ (congrArg (fun x_ => List.set _ 4 x_) (bselT (h_b.pre 5 kr_) _ _))) rfl) ?_
  exact aoDone (by decide)
 intro g_ a_ w14 hF_ hm13
 obtain ⟨X15, rfl⟩ := frLit (⟨hF_.size, hF_.defers, ⟨hF_.o_ 2, hF_.o_ 4, hF_.o_ 6, hF_.i_ 4, hF_.i_ 5, hF_.i_ 0, hF_.i_ 1, hF_.i_ 2, hF_.i_ 3, trivial⟩⟩ : Fr _ 82 [(2, .func (.func vf) first.toArray caps.toArray), (4, .pointer (some ⟨g5, 0, none⟩)), (6, .pointer (some ⟨g9, 0, none⟩)), (7, .pointer (some ⟨(g_ 4), 0, none⟩)), (8, .pointer (some ⟨(g_ 5), 0, none⟩)), (16, .agg (pcs a).toArray), (17, .agg (pcs a).toArray), (18, .agg (pcs b).toArray), (19, .agg (pcs b).toArray)])
 clear hF_
 have hm16 : Mem w0 w14 ((.arr g2 23 (pcs a)) :: (.arr g5 23 (pcs b)) :: (.arr g9 152 ([.int .i64 0, .int .i64 0, .int .i64 0, .int .i64 0, .int .i64 0, .int .i64 0, .int .i64 0, .int .i64 0, .int .i64 0, .int .i64 0, .int .i64 0, .int .i64 0])) :: (.arr (g_ 4) 120 (pcs a)) :: (.arr (g_ 5) 120 (pcs b)) :: V0) := hm13
 clear hm13 hm10
 generalize g_ 4 = g17 at hm16 ⊢
 generalize g_ 5 = g18 at hm16 ⊢
 clear g_
 refine tn_ hK12 ?_
 refine sk_ fun _ hK19 => ?_
 refine sp_ fun _ hK20 => ?_
 refine li_ 0 ?_
 refine pt_ hK20 ?_
 refine wp_block ?_
 refine roundsStart 4 ?_
 refine sp_ fun _ hK21 => ?_
 refine lT_ ?_
 refine pt_ hK21 ?_
 refine sk_ fun _ hK22 => ?_
 refine wp_cond_true le_ ?_
 refine wp_skip ?_
 refine tn_ hK22 ?_
 refine sk_ fun _ hK23 => ?_
 refine wp_block ?_
 refine sp_ fun _ hK24 => ?_
 refine li_ 0 ?_
 refine li_ 0 ?_
 refine pt_ hK24 ?_
 refine aoStart (aoV [fun _ => .int .i64 0, fun _ => .int .i64 0, fun _ => .pointer (some ⟨g17, 0, none⟩), fun _ => .int .i64 a.x, fun _ => .int .i64 0, fun _ => .pointer (some ⟨g18, 0, none⟩), fun _ => .int .i64 b.x, fun _ => .agg (axs (toward a.x b.x)).toArray, fun _ => .pointer (some ⟨g9, 0, none⟩), fun _ => undef]) (aoA [[], [], [], [], [], [], [], [], [], []]) (fun b_ g_ => ((.arr g2 23 (pcs a)) :: (.arr g5 23 (pcs b)) :: (.arr g9 152 (bsel (b_ 9) [.int .i64 ((toward a.x b.x).pos), .int .i64 ((toward a.x b.x).step), .int .i64 ((toward a.x b.x).n), .int .i64 ((toward a.x b.x).d), .int .i64 0, .int .i64 0, .int .i64 0, .int .i64 0, .int .i64 0, .int .i64 0, .int .i64 0, .int .i64 0] [.int .i64 0, .int .i64 0, .int .i64 0, .int .i64 0, .int .i64 0, .int .i64 0, .int .i64 0, .int .i64 0, .int .i64 0, .int .i64 0, .int .i64 0, .int .i64 0])) :: (.arr g17 120 (pcs a)) :: (.arr g18 120 (pcs b)) :: V0)) hm16 kr_ kr_ (fun w_ h_ => h_) (fun b_ g_ h_ => by show (fun (x9_ : Bool) => (((.arr g2 23 (pcs a)) :: (.arr g5 23 (pcs b)) :: (.arr g9 152 (bsel x9_ [.int .i64 ((toward a.x b.x).pos), .int .i64 ((toward a.x b.x).step), .int .i64 ((toward a.x b.x).n), .int .i64 ((toward a.x b.x).d), .int .i64 0, .int .i64 0, .int .i64 0, .int .i64 0, .int .i64 0, .int .i64 0, .int .i64 0, .int .i64 0] [.int .i64 0, .int .i64 0, .int .i64 0, .int .i64 0, .int .i64 0, .int .i64 0, .int .i64 0, .int .i64 0, .int .i64 0, .int .i64 0, .int .i64 0, .int .i64 0])) :: (.arr g17 120 (pcs a)) :: (.arr g18 120 (pcs b)) :: V0) : List Res)) (b_ 9) = _; rw [h_ 9 (by decide)]) ?_ ?_
 ·refine aoNext rfl aoK_ ?_
  refine aoNext rfl aoK_ ?_
  refine aoNext rfl (aoV_ (fun b_ g_ X_ w_ h_b h_ => valTo (b := .pointer (some ⟨g17, 0, none⟩)) kr_ (iaRun (b := g17) (off := 0) (s := 1) (n := 3) (kk := .i64) (.tmp 7) (.tmp 24) 0 Ty.und_3_int kr_ rfl le_ le_ rfl (by decide)))) ?_
  refine aoNext rfl (aoV_ (fun b_ g_ X_ w_ h_b h_ => valTo (b := .int .i64 a.x) kr_ ((fun (h_ : Mem _ w_ ((.arr g2 23 (pcs a)) :: (.arr g5 23 (pcs b)) :: (.arr g9 152 ([.int .i64 0, .int .i64 0, .int .i64 0, .int .i64 0, .int .i64 0, .int .i64 0, .int .i64 0, .int .i64 0, .int .i64 0, .int .i64 0, .int .i64 0, .int .i64 0])) :: (.arr g17 120 (pcs a)) :: (.arr g18 120 (pcs b)) :: V0)) => gLoad (v := .int .i64 a.x) (k := 0) 3 h_ rfl kr_ (.tmp 25) kr_ rfl le_) (by have h2_ : Mem w0 w_ ((.arr g2 23 (pcs a)) :: (.arr g5 23 (pcs b)) :: (.arr g9 152 (bsel (b_ 9) [.int .i64 ((toward a.x b.x).pos), .int .i64 ((toward a.x b.x).step), .int .i64 ((toward a.x b.x).n), .int .i64 ((toward a.x b.x).d), .int .i64 0, .int .i64 0, .int .i64 0, .int .i64 0, .int .i64 0, .int .i64 0, .int .i64 0, .int .i64 0] [.int .i64 0, .int .i64 0, .int .i64 0, .int .i64 0, .int .i64 0, .int .i64 0, .int .i64 0, .int .i64 0, .int .i64 0, .int .i64 0, .int .i64 0, .int .i64 0])) :: (.arr g17 120 (pcs a)) :: (.arr g18 120 (pcs b)) :: V0) := h_; rw [bselF (h_b.post 9 kr_)] at h2_; exact h2_)))) ?_
  refine aoNext rfl aoK_ ?_
  refine aoNext rfl (aoV_ (fun b_ g_ X_ w_ h_b h_ => valTo (b := .pointer (some ⟨g18, 0, none⟩)) kr_ (iaRun (b := g18) (off := 0) (s := 1) (n := 3) (kk := .i64) (.tmp 8) (.tmp 27) 0 Ty.und_3_int kr_ rfl le_ le_ rfl (by decide)))) ?_
  refine aoNext rfl (aoV_ (fun b_ g_ X_ w_ h_b h_ => valTo (b := .int .i64 b.x) kr_ ((fun (h_ : Mem _ w_ ((.arr g2 23 (pcs a)) :: (.arr g5 23 (pcs b)) :: (.arr g9 152 ([.int .i64 0, .int .i64 0, .int .i64 0, .int .i64 0, .int .i64 0, .int .i64 0, .int .i64 0, .int .i64 0, .int .i64 0, .int .i64 0, .int .i64 0, .int .i64 0])) :: (.arr g17 120 (pcs a)) :: (.arr g18 120 (pcs b)) :: V0)) => gLoad (v := .int .i64 b.x) (k := 0) 4 h_ rfl kr_ (.tmp 28) kr_ rfl le_) (by have h2_ : Mem w0 w_ ((.arr g2 23 (pcs a)) :: (.arr g5 23 (pcs b)) :: (.arr g9 152 (bsel (b_ 9) [.int .i64 ((toward a.x b.x).pos), .int .i64 ((toward a.x b.x).step), .int .i64 ((toward a.x b.x).n), .int .i64 ((toward a.x b.x).d), .int .i64 0, .int .i64 0, .int .i64 0, .int .i64 0, .int .i64 0, .int .i64 0, .int .i64 0, .int .i64 0] [.int .i64 0, .int .i64 0, .int .i64 0, .int .i64 0, .int .i64 0, .int .i64 0, .int .i64 0, .int .i64 0, .int .i64 0, .int .i64 0, .int .i64 0, .int .i64 0])) :: (.arr g17 120 (pcs a)) :: (.arr g18 120 (pcs b)) :: V0) := h_; rw [bselF (h_b.post 9 kr_)] at h2_; exact h2_)))) ?_
  refine aoNext rfl (aoC_ 84 (fun g_ => [.int .i64 a.x, .int .i64 b.x]) [] [] (fun b_ g_ w_ h_b h_ => (towards_any a.x b.x (by omega) (by omega) _).mono (fun _ _ h_r => ⟨h_r.1.trans kr_, h_r.2⟩))) ?_
  refine aoNext rfl (aoV_ (fun b_ g_ X_ w_ h_b h_ => valTo (b := .pointer (some ⟨g9, 0, none⟩)) kr_ (iaRun (b := g9) (off := 0) (s := 4) (n := 3) (kk := .i64) (.tmp 6) (.tmp 23) 0 Ty.und_3_ray_axis kr_ rfl le_ le_ rfl (by decide)))) ?_
  refine aoNext rfl (aoStore (gb := fun g_ => g9) (k := 0) (cur := fun g_ => [.int .i64 0, .int .i64 0, .int .i64 0, .int .i64 0, .int .i64 0, .int .i64 0, .int .i64 0, .int .i64 0, .int .i64 0, .int .i64 0, .int .i64 0, .int .i64 0]) (vs := fun g_ => axs (toward a.x b.x)) 2 (fun g_ => [(30, .agg (axs (toward a.x b.x)).toArray), (31, .pointer (some ⟨g9, 0, none⟩))]) (fun g_ a_ h_k => ⟨(h_k.inn 7 _ _ kr_ rfl rfl).trans kr_, (h_k.inn 8 _ _ kr_ rfl rfl).trans kr_, trivial⟩) Ty.ag_voxel_ray_axis (fun b_ g_ h_b => by show some (Res.arr g9 152 (bsel (b_ 9) [.int .i64 ((toward a.x b.x).pos), .int .i64 ((toward a.x b.x).step), .int .i64 ((toward a.x b.x).n), .int .i64 ((toward a.x b.x).d), .int .i64 0, .int .i64 0, .int .i64 0, .int .i64 0, .int .i64 0, .int .i64 0, .int .i64 0, .int .i64 0] [.int .i64 0, .int .i64 0, .int .i64 0, .int .i64 0, .int .i64 0, .int .i64 0, .int .i64 0, .int .i64 0, .int .i64 0, .int .i64 0, .int .i64 0, .int .i64 0])) = some (Res.arr g9 152 ([.int .i64 0, .int .i64 0, .int .i64 0, .int .i64 0, .int .i64 0, .int .i64 0, .int .i64 0, .int .i64 0, .int .i64 0, .int .i64 0, .int .i64 0, .int .i64 0])); rw [bselF h_b.no]) (fun g_ X_ => (wn rfl)) rfl (fun g_ X_ => litEv kr_) (fun g_ X_ => litEv kr_) (fun _ => by kernel_rfl) (fun _ => by kernel_rfl) (fun _ => by kernel_rfl) (fun b_ g_ h_b => by kernel_rfl) rfl) ?_
  exact aoDone (by decide)
 intro g_ a_ w26 hF_ hm25
 obtain ⟨X27, rfl⟩ := frLit (⟨hF_.size, hF_.defers, ⟨hF_.o_ 2, hF_.o_ 4, hF_.o_ 6, hF_.o_ 7, hF_.o_ 8, hF_.o_ 9, hF_.o_ 20, hF_.o_ 21, hF_.o_ 22, hF_.i_ 0, hF_.i_ 1, hF_.i_ 2, hF_.i_ 3, hF_.i_ 4, hF_.i_ 5, hF_.i_ 6, hF_.i_ 7, hF_.i_ 8, trivial⟩⟩ : Fr _ 82 [(2, .func (.func vf) first.toArray caps.toArray), (4, .pointer (some ⟨g5, 0, none⟩)), (6, .pointer (some ⟨g9, 0, none⟩)), (7, .pointer (some ⟨g17, 0, none⟩)), (8, .pointer (some ⟨g18, 0, none⟩)), (9, .int .i64 0), (20, .int .i64 0), (21, .bool true), (22, .int .i64 0), (23, .int .i64 0), (24, .int .i64 0), (25, .pointer (some ⟨g17, 0, none⟩)), (26, .int .i64 a.x), (27, .int .i64 0), (28, .pointer (some ⟨g18, 0, none⟩)), (29, .int .i64 b.x), (30, .agg (axs (toward a.x b.x)).toArray), (31, .pointer (some ⟨g9, 0, none⟩))])
 clear hF_
 have hm28 : Mem w0 w26 ((.arr g2 23 (pcs a)) :: (.arr g5 23 (pcs b)) :: (.arr g9 152 ([.int .i64 ((toward a.x b.x).pos), .int .i64 ((toward a.x b.x).step), .int .i64 ((toward a.x b.x).n), .int .i64 ((toward a.x b.x).d), .int .i64 0, .int .i64 0, .int .i64 0, .int .i64 0, .int .i64 0, .int .i64 0, .int .i64 0, .int .i64 0])) :: (.arr g17 120 (pcs a)) :: (.arr g18 120 (pcs b)) :: V0) := hm25
 clear hm25 hm16
 refine inBlock_normal ?_
 refine tn_ hK23 ?_
 refine plStart ?_
 refine li_ 1 ?_
 refine li_ 1 ?_
 refine plD ?_
 refine then_normal (roundsNext ?_)
 refine sp_ fun _ hK29 => ?_
 refine lT_ ?_
 refine pt_ hK29 ?_
 refine sk_ fun _ hK30 => ?_
 refine wp_cond_true le_ ?_
 refine wp_skip ?_
 refine tn_ hK30 ?_
 refine sk_ fun _ hK31 => ?_
 refine wp_block ?_
 refine sp_ fun _ hK32 => ?_
 refine li_ 1 ?_
 refine li_ 1 ?_
 refine pt_ hK32 ?_
 refine aoStart (aoV [fun _ => .int .i64 1, fun _ => .int .i64 1, fun _ => .pointer (some ⟨g17, 1, none⟩), fun _ => .int .i64 a.y, fun _ => .int .i64 1, fun _ => .pointer (some ⟨g18, 1, none⟩), fun _ => .int .i64 b.y, fun _ => .agg (axs (toward a.y b.y)).toArray, fun _ => .pointer (some ⟨g9, 4, none⟩), fun _ => undef]) (aoA [[], [], [], [], [], [], [], [], [], []]) (fun b_ g_ => ((.arr g2 23 (pcs a)) :: (.arr g5 23 (pcs b)) :: (.arr g9 152 (bsel (b_ 9) [.int .i64 ((toward a.x b.x).pos), .int .i64 ((toward a.x b.x).step), .int .i64 ((toward a.x b.x).n), .int .i64 ((toward a.x b.x).d), .int .i64 ((toward a.y b.y).pos), .int .i64 ((toward a.y b.y).step), .int .i64 ((toward a.y b.y).n), .int .i64 ((toward a.y b.y).d), .int .i64 0, .int .i64 0, .int .i64 0, .int .i64 0] [.int .i64 ((toward a.x b.x).pos), .int .i64 ((toward a.x b.x).step), .int .i64 ((toward a.x b.x).n), .int .i64 ((toward a.x b.x).d), .int .i64 0, .int .i64 0, .int .i64 0, .int .i64 0, .int .i64 0, .int .i64 0, .int .i64 0, .int .i64 0])) :: (.arr g17 120 (pcs a)) :: (.arr g18 120 (pcs b)) :: V0)) hm28 kr_ kr_ (fun w_ h_ => h_) (fun b_ g_ h_ => by show (fun (x9_ : Bool) => (((.arr g2 23 (pcs a)) :: (.arr g5 23 (pcs b)) :: (.arr g9 152 (bsel x9_ [.int .i64 ((toward a.x b.x).pos), .int .i64 ((toward a.x b.x).step), .int .i64 ((toward a.x b.x).n), .int .i64 ((toward a.x b.x).d), .int .i64 ((toward a.y b.y).pos), .int .i64 ((toward a.y b.y).step), .int .i64 ((toward a.y b.y).n), .int .i64 ((toward a.y b.y).d), .int .i64 0, .int .i64 0, .int .i64 0, .int .i64 0] [.int .i64 ((toward a.x b.x).pos), .int .i64 ((toward a.x b.x).step), .int .i64 ((toward a.x b.x).n), .int .i64 ((toward a.x b.x).d), .int .i64 0, .int .i64 0, .int .i64 0, .int .i64 0, .int .i64 0, .int .i64 0, .int .i64 0, .int .i64 0])) :: (.arr g17 120 (pcs a)) :: (.arr g18 120 (pcs b)) :: V0) : List Res)) (b_ 9) = _; rw [h_ 9 (by decide)]) ?_ ?_
 ·refine aoNext rfl aoK_ ?_
  refine aoNext rfl aoK_ ?_
  refine aoNext rfl (aoV_ (fun b_ g_ X_ w_ h_b h_ => valTo (b := .pointer (some ⟨g17, 1, none⟩)) kr_ (iaRun (b := g17) (off := 0) (s := 1) (n := 3) (kk := .i64) (.tmp 7) (.tmp 24) 1 Ty.und_3_int kr_ rfl le_ le_ rfl (by decide)))) ?_
  refine aoNext rfl (aoV_ (fun b_ g_ X_ w_ h_b h_ => valTo (b := .int .i64 a.y) kr_ ((fun (h_ : Mem _ w_ ((.arr g2 23 (pcs a)) :: (.arr g5 23 (pcs b)) :: (.arr g9 152 ([.int .i64 ((toward a.x b.x).pos), .int .i64 ((toward a.x b.x).step), .int .i64 ((toward a.x b.x).n), .int .i64 ((toward a.x b.x).d), .int .i64 0, .int .i64 0, .int .i64 0, .int .i64 0, .int .i64 0, .int .i64 0, .int .i64 0, .int .i64 0])) :: (.arr g17 120 (pcs a)) :: (.arr g18 120 (pcs b)) :: V0)) => gLoad (v := .int .i64 a.y) (k := 1) 3 h_ rfl kr_ (.tmp 25) kr_ rfl le_) (by have h2_ : Mem w0 w_ ((.arr g2 23 (pcs a)) :: (.arr g5 23 (pcs b)) :: (.arr g9 152 (bsel (b_ 9) [.int .i64 ((toward a.x b.x).pos), .int .i64 ((toward a.x b.x).step), .int .i64 ((toward a.x b.x).n), .int .i64 ((toward a.x b.x).d), .int .i64 ((toward a.y b.y).pos), .int .i64 ((toward a.y b.y).step), .int .i64 ((toward a.y b.y).n), .int .i64 ((toward a.y b.y).d), .int .i64 0, .int .i64 0, .int .i64 0, .int .i64 0] [.int .i64 ((toward a.x b.x).pos), .int .i64 ((toward a.x b.x).step), .int .i64 ((toward a.x b.x).n), .int .i64 ((toward a.x b.x).d), .int .i64 0, .int .i64 0, .int .i64 0, .int .i64 0, .int .i64 0, .int .i64 0, .int .i64 0, .int .i64 0])) :: (.arr g17 120 (pcs a)) :: (.arr g18 120 (pcs b)) :: V0) := h_; rw [bselF (h_b.post 9 kr_)] at h2_; exact h2_)))) ?_
  refine aoNext rfl aoK_ ?_
  refine aoNext rfl (aoV_ (fun b_ g_ X_ w_ h_b h_ => valTo (b := .pointer (some ⟨g18, 1, none⟩)) kr_ (iaRun (b := g18) (off := 0) (s := 1) (n := 3) (kk := .i64) (.tmp 8) (.tmp 27) 1 Ty.und_3_int kr_ rfl le_ le_ rfl (by decide)))) ?_
  refine aoNext rfl (aoV_ (fun b_ g_ X_ w_ h_b h_ => valTo (b := .int .i64 b.y) kr_ ((fun (h_ : Mem _ w_ ((.arr g2 23 (pcs a)) :: (.arr g5 23 (pcs b)) :: (.arr g9 152 ([.int .i64 ((toward a.x b.x).pos), .int .i64 ((toward a.x b.x).step), .int .i64 ((toward a.x b.x).n), .int .i64 ((toward a.x b.x).d), .int .i64 0, .int .i64 0, .int .i64 0, .int .i64 0, .int .i64 0, .int .i64 0, .int .i64 0, .int .i64 0])) :: (.arr g17 120 (pcs a)) :: (.arr g18 120 (pcs b)) :: V0)) => gLoad (v := .int .i64 b.y) (k := 1) 4 h_ rfl kr_ (.tmp 28) kr_ rfl le_) (by have h2_ : Mem w0 w_ ((.arr g2 23 (pcs a)) :: (.arr g5 23 (pcs b)) :: (.arr g9 152 (bsel (b_ 9) [.int .i64 ((toward a.x b.x).pos), .int .i64 ((toward a.x b.x).step), .int .i64 ((toward a.x b.x).n), .int .i64 ((toward a.x b.x).d), .int .i64 ((toward a.y b.y).pos), .int .i64 ((toward a.y b.y).step), .int .i64 ((toward a.y b.y).n), .int .i64 ((toward a.y b.y).d), .int .i64 0, .int .i64 0, .int .i64 0, .int .i64 0] [.int .i64 ((toward a.x b.x).pos), .int .i64 ((toward a.x b.x).step), .int .i64 ((toward a.x b.x).n), .int .i64 ((toward a.x b.x).d), .int .i64 0, .int .i64 0, .int .i64 0, .int .i64 0, .int .i64 0, .int .i64 0, .int .i64 0, .int .i64 0])) :: (.arr g17 120 (pcs a)) :: (.arr g18 120 (pcs b)) :: V0) := h_; rw [bselF (h_b.post 9 kr_)] at h2_; exact h2_)))) ?_
  refine aoNext rfl (aoC_ 84 (fun g_ => [.int .i64 a.y, .int .i64 b.y]) [] [] (fun b_ g_ w_ h_b h_ => (towards_any a.y b.y (by omega) (by omega) _).mono (fun _ _ h_r => ⟨h_r.1.trans kr_, h_r.2⟩))) ?_
  refine aoNext rfl (aoV_ (fun b_ g_ X_ w_ h_b h_ => valTo (b := .pointer (some ⟨g9, 4, none⟩)) kr_ (iaRun (b := g9) (off := 0) (s := 4) (n := 3) (kk := .i64) (.tmp 6) (.tmp 23) 1 Ty.und_3_ray_axis kr_ rfl le_ le_ rfl (by decide)))) ?_
  refine aoNext rfl (aoStore (gb := fun g_ => g9) (k := 4) (cur := fun g_ => [.int .i64 ((toward a.x b.x).pos), .int .i64 ((toward a.x b.x).step), .int .i64 ((toward a.x b.x).n), .int .i64 ((toward a.x b.x).d), .int .i64 0, .int .i64 0, .int .i64 0, .int .i64 0, .int .i64 0, .int .i64 0, .int .i64 0, .int .i64 0]) (vs := fun g_ => axs (toward a.y b.y)) 2 (fun g_ => [(30, .agg (axs (toward a.y b.y)).toArray), (31, .pointer (some ⟨g9, 4, none⟩))]) (fun g_ a_ h_k => ⟨(h_k.inn 7 _ _ kr_ rfl rfl).trans kr_, (h_k.inn 8 _ _ kr_ rfl rfl).trans kr_, trivial⟩) Ty.ag_voxel_ray_axis (fun b_ g_ h_b => by show some (Res.arr g9 152 (bsel (b_ 9) [.int .i64 ((toward a.x b.x).pos), .int .i64 ((toward a.x b.x).step), .int .i64 ((toward a.x b.x).n), .int .i64 ((toward a.x b.x).d), .int .i64 ((toward a.y b.y).pos), .int .i64 ((toward a.y b.y).step), .int .i64 ((toward a.y b.y).n), .int .i64 ((toward a.y b.y).d), .int .i64 0, .int .i64 0, .int .i64 0, .int .i64 0] [.int .i64 ((toward a.x b.x).pos), .int .i64 ((toward a.x b.x).step), .int .i64 ((toward a.x b.x).n), .int .i64 ((toward a.x b.x).d), .int .i64 0, .int .i64 0, .int .i64 0, .int .i64 0, .int .i64 0, .int .i64 0, .int .i64 0, .int .i64 0])) = some (Res.arr g9 152 ([.int .i64 ((toward a.x b.x).pos), .int .i64 ((toward a.x b.x).step), .int .i64 ((toward a.x b.x).n), .int .i64 ((toward a.x b.x).d), .int .i64 0, .int .i64 0, .int .i64 0, .int .i64 0, .int .i64 0, .int .i64 0, .int .i64 0, .int .i64 0])); rw [bselF h_b.no]) (fun g_ X_ => (wn rfl)) rfl (fun g_ X_ => litEv kr_) (fun g_ X_ => litEv kr_) (fun _ => by kernel_rfl) (fun _ => by kernel_rfl) (fun _ => by kernel_rfl) (fun b_ g_ h_b => by kernel_rfl) rfl) ?_
  exact aoDone (by decide)
 intro g_ a_ w34 hF_ hm33
 obtain ⟨X35, rfl⟩ := frLit (⟨hF_.size, hF_.defers, ⟨hF_.o_ 2, hF_.o_ 4, hF_.o_ 6, hF_.o_ 7, hF_.o_ 8, hF_.o_ 9, hF_.o_ 20, hF_.o_ 21, hF_.o_ 22, hF_.i_ 0, hF_.i_ 1, hF_.i_ 2, hF_.i_ 3, hF_.i_ 4, hF_.i_ 5, hF_.i_ 6, hF_.i_ 7, hF_.i_ 8, hF_.o_ 32, trivial⟩⟩ : Fr _ 82 [(2, .func (.func vf) first.toArray caps.toArray), (4, .pointer (some ⟨g5, 0, none⟩)), (6, .pointer (some ⟨g9, 0, none⟩)), (7, .pointer (some ⟨g17, 0, none⟩)), (8, .pointer (some ⟨g18, 0, none⟩)), (9, .int .i64 1), (20, .int .i64 1), (21, .bool true), (22, .int .i64 1), (23, .int .i64 1), (24, .int .i64 1), (25, .pointer (some ⟨g17, 1, none⟩)), (26, .int .i64 a.y), (27, .int .i64 1), (28, .pointer (some ⟨g18, 1, none⟩)), (29, .int .i64 b.y), (30, .agg (axs (toward a.y b.y)).toArray), (31, .pointer (some ⟨g9, 4, none⟩)), (32, .int .i64 1)])
 clear hF_
 have hm36 : Mem w0 w34 ((.arr g2 23 (pcs a)) :: (.arr g5 23 (pcs b)) :: (.arr g9 152 ([.int .i64 ((toward a.x b.x).pos), .int .i64 ((toward a.x b.x).step), .int .i64 ((toward a.x b.x).n), .int .i64 ((toward a.x b.x).d), .int .i64 ((toward a.y b.y).pos), .int .i64 ((toward a.y b.y).step), .int .i64 ((toward a.y b.y).n), .int .i64 ((toward a.y b.y).d), .int .i64 0, .int .i64 0, .int .i64 0, .int .i64 0])) :: (.arr g17 120 (pcs a)) :: (.arr g18 120 (pcs b)) :: V0) := hm33
 clear hm33 hm28
 refine inBlock_normal ?_
 refine tn_ hK31 ?_
 refine plStart ?_
 refine li_ 2 ?_
 refine li_ 2 ?_
 refine plD ?_
 refine then_normal (roundsNext ?_)
 refine sp_ fun _ hK37 => ?_
 refine lT_ ?_
 refine pt_ hK37 ?_
 refine sk_ fun _ hK38 => ?_
 refine wp_cond_true le_ ?_
 refine wp_skip ?_
 refine tn_ hK38 ?_
 refine sk_ fun _ hK39 => ?_
 refine wp_block ?_
 refine sp_ fun _ hK40 => ?_
 refine li_ 2 ?_
 refine li_ 2 ?_
 refine pt_ hK40 ?_
 refine aoStart (aoV [fun _ => .int .i64 2, fun _ => .int .i64 2, fun _ => .pointer (some ⟨g17, 2, none⟩), fun _ => .int .i64 a.z, fun _ => .int .i64 2, fun _ => .pointer (some ⟨g18, 2, none⟩), fun _ => .int .i64 b.z, fun _ => .agg (axs (toward a.z b.z)).toArray, fun _ => .pointer (some ⟨g9, 8, none⟩), fun _ => undef]) (aoA [[], [], [], [], [], [], [], [], [], []]) (fun b_ g_ => ((.arr g2 23 (pcs a)) :: (.arr g5 23 (pcs b)) :: (.arr g9 152 (bsel (b_ 9) [.int .i64 ((toward a.x b.x).pos), .int .i64 ((toward a.x b.x).step), .int .i64 ((toward a.x b.x).n), .int .i64 ((toward a.x b.x).d), .int .i64 ((toward a.y b.y).pos), .int .i64 ((toward a.y b.y).step), .int .i64 ((toward a.y b.y).n), .int .i64 ((toward a.y b.y).d), .int .i64 ((toward a.z b.z).pos), .int .i64 ((toward a.z b.z).step), .int .i64 ((toward a.z b.z).n), .int .i64 ((toward a.z b.z).d)] [.int .i64 ((toward a.x b.x).pos), .int .i64 ((toward a.x b.x).step), .int .i64 ((toward a.x b.x).n), .int .i64 ((toward a.x b.x).d), .int .i64 ((toward a.y b.y).pos), .int .i64 ((toward a.y b.y).step), .int .i64 ((toward a.y b.y).n), .int .i64 ((toward a.y b.y).d), .int .i64 0, .int .i64 0, .int .i64 0, .int .i64 0])) :: (.arr g17 120 (pcs a)) :: (.arr g18 120 (pcs b)) :: V0)) hm36 kr_ kr_ (fun w_ h_ => h_) (fun b_ g_ h_ => by show (fun (x9_ : Bool) => (((.arr g2 23 (pcs a)) :: (.arr g5 23 (pcs b)) :: (.arr g9 152 (bsel x9_ [.int .i64 ((toward a.x b.x).pos), .int .i64 ((toward a.x b.x).step), .int .i64 ((toward a.x b.x).n), .int .i64 ((toward a.x b.x).d), .int .i64 ((toward a.y b.y).pos), .int .i64 ((toward a.y b.y).step), .int .i64 ((toward a.y b.y).n), .int .i64 ((toward a.y b.y).d), .int .i64 ((toward a.z b.z).pos), .int .i64 ((toward a.z b.z).step), .int .i64 ((toward a.z b.z).n), .int .i64 ((toward a.z b.z).d)] [.int .i64 ((toward a.x b.x).pos), .int .i64 ((toward a.x b.x).step), .int .i64 ((toward a.x b.x).n), .int .i64 ((toward a.x b.x).d), .int .i64 ((toward a.y b.y).pos), .int .i64 ((toward a.y b.y).step), .int .i64 ((toward a.y b.y).n), .int .i64 ((toward a.y b.y).d), .int .i64 0, .int .i64 0, .int .i64 0, .int .i64 0])) :: (.arr g17 120 (pcs a)) :: (.arr g18 120 (pcs b)) :: V0) : List Res)) (b_ 9) = _; rw [h_ 9 (by decide)]) ?_ ?_
 ·refine aoNext rfl aoK_ ?_
  refine aoNext rfl aoK_ ?_
  refine aoNext rfl (aoV_ (fun b_ g_ X_ w_ h_b h_ => valTo (b := .pointer (some ⟨g17, 2, none⟩)) kr_ (iaRun (b := g17) (off := 0) (s := 1) (n := 3) (kk := .i64) (.tmp 7) (.tmp 24) 2 Ty.und_3_int kr_ rfl le_ le_ rfl (by decide)))) ?_
  refine aoNext rfl (aoV_ (fun b_ g_ X_ w_ h_b h_ => valTo (b := .int .i64 a.z) kr_ ((fun (h_ : Mem _ w_ ((.arr g2 23 (pcs a)) :: (.arr g5 23 (pcs b)) :: (.arr g9 152 ([.int .i64 ((toward a.x b.x).pos), .int .i64 ((toward a.x b.x).step), .int .i64 ((toward a.x b.x).n), .int .i64 ((toward a.x b.x).d), .int .i64 ((toward a.y b.y).pos), .int .i64 ((toward a.y b.y).step), .int .i64 ((toward a.y b.y).n), .int .i64 ((toward a.y b.y).d), .int .i64 0, .int .i64 0, .int .i64 0, .int .i64 0])) :: (.arr g17 120 (pcs a)) :: (.arr g18 120 (pcs b)) :: V0)) => gLoad (v := .int .i64 a.z) (k := 2) 3 h_ rfl kr_ (.tmp 25) kr_ rfl le_) (by have h2_ : Mem w0 w_ ((.arr g2 23 (pcs a)) :: (.arr g5 23 (pcs b)) :: (.arr g9 152 (bsel (b_ 9) [.int .i64 ((toward a.x b.x).pos), .int .i64 ((toward a.x b.x).step), .int .i64 ((toward a.x b.x).n), .int .i64 ((toward a.x b.x).d), .int .i64 ((toward a.y b.y).pos), .int .i64 ((toward a.y b.y).step), .int .i64 ((toward a.y b.y).n), .int .i64 ((toward a.y b.y).d), .int .i64 ((toward a.z b.z).pos), .int .i64 ((toward a.z b.z).step), .int .i64 ((toward a.z b.z).n), .int .i64 ((toward a.z b.z).d)] [.int .i64 ((toward a.x b.x).pos), .int .i64 ((toward a.x b.x).step), .int .i64 ((toward a.x b.x).n), .int .i64 ((toward a.x b.x).d), .int .i64 ((toward a.y b.y).pos), .int .i64 ((toward a.y b.y).step), .int .i64 ((toward a.y b.y).n), .int .i64 ((toward a.y b.y).d), .int .i64 0, .int .i64 0, .int .i64 0, .int .i64 0])) :: (.arr g17 120 (pcs a)) :: (.arr g18 120 (pcs b)) :: V0) := h_; rw [bselF (h_b.post 9 kr_)] at h2_; exact h2_)))) ?_
  refine aoNext rfl aoK_ ?_
  refine aoNext rfl (aoV_ (fun b_ g_ X_ w_ h_b h_ => valTo (b := .pointer (some ⟨g18, 2, none⟩)) kr_ (iaRun (b := g18) (off := 0) (s := 1) (n := 3) (kk := .i64) (.tmp 8) (.tmp 27) 2 Ty.und_3_int kr_ rfl le_ le_ rfl (by decide)))) ?_
  refine aoNext rfl (aoV_ (fun b_ g_ X_ w_ h_b h_ => valTo (b := .int .i64 b.z) kr_ ((fun (h_ : Mem _ w_ ((.arr g2 23 (pcs a)) :: (.arr g5 23 (pcs b)) :: (.arr g9 152 ([.int .i64 ((toward a.x b.x).pos), .int .i64 ((toward a.x b.x).step), .int .i64 ((toward a.x b.x).n), .int .i64 ((toward a.x b.x).d), .int .i64 ((toward a.y b.y).pos), .int .i64 ((toward a.y b.y).step), .int .i64 ((toward a.y b.y).n), .int .i64 ((toward a.y b.y).d), .int .i64 0, .int .i64 0, .int .i64 0, .int .i64 0])) :: (.arr g17 120 (pcs a)) :: (.arr g18 120 (pcs b)) :: V0)) => gLoad (v := .int .i64 b.z) (k := 2) 4 h_ rfl kr_ (.tmp 28) kr_ rfl le_) (by have h2_ : Mem w0 w_ ((.arr g2 23 (pcs a)) :: (.arr g5 23 (pcs b)) :: (.arr g9 152 (bsel (b_ 9) [.int .i64 ((toward a.x b.x).pos), .int .i64 ((toward a.x b.x).step), .int .i64 ((toward a.x b.x).n), .int .i64 ((toward a.x b.x).d), .int .i64 ((toward a.y b.y).pos), .int .i64 ((toward a.y b.y).step), .int .i64 ((toward a.y b.y).n), .int .i64 ((toward a.y b.y).d), .int .i64 ((toward a.z b.z).pos), .int .i64 ((toward a.z b.z).step), .int .i64 ((toward a.z b.z).n), .int .i64 ((toward a.z b.z).d)] [.int .i64 ((toward a.x b.x).pos), .int .i64 ((toward a.x b.x).step), .int .i64 ((toward a.x b.x).n), .int .i64 ((toward a.x b.x).d), .int .i64 ((toward a.y b.y).pos), .int .i64 ((toward a.y b.y).step), .int .i64 ((toward a.y b.y).n), .int .i64 ((toward a.y b.y).d), .int .i64 0, .int .i64 0, .int .i64 0, .int .i64 0])) :: (.arr g17 120 (pcs a)) :: (.arr g18 120 (pcs b)) :: V0) := h_; rw [bselF (h_b.post 9 kr_)] at h2_; exact h2_)))) ?_
  refine aoNext rfl (aoC_ 84 (fun g_ => [.int .i64 a.z, .int .i64 b.z]) [] [] (fun b_ g_ w_ h_b h_ => (towards_any a.z b.z (by omega) (by omega) _).mono (fun _ _ h_r => ⟨h_r.1.trans kr_, h_r.2⟩))) ?_
  refine aoNext rfl (aoV_ (fun b_ g_ X_ w_ h_b h_ => valTo (b := .pointer (some ⟨g9, 8, none⟩)) kr_ (iaRun (b := g9) (off := 0) (s := 4) (n := 3) (kk := .i64) (.tmp 6) (.tmp 23) 2 Ty.und_3_ray_axis kr_ rfl le_ le_ rfl (by decide)))) ?_
  refine aoNext rfl (aoStore (gb := fun g_ => g9) (k := 8) (cur := fun g_ => [.int .i64 ((toward a.x b.x).pos), .int .i64 ((toward a.x b.x).step), .int .i64 ((toward a.x b.x).n), .int .i64 ((toward a.x b.x).d), .int .i64 ((toward a.y b.y).pos), .int .i64 ((toward a.y b.y).step), .int .i64 ((toward a.y b.y).n), .int .i64 ((toward a.y b.y).d), .int .i64 0, .int .i64 0, .int .i64 0, .int .i64 0]) (vs := fun g_ => axs (toward a.z b.z)) 2 (fun g_ => [(30, .agg (axs (toward a.z b.z)).toArray), (31, .pointer (some ⟨g9, 8, none⟩))]) (fun g_ a_ h_k => ⟨(h_k.inn 7 _ _ kr_ rfl rfl).trans kr_, (h_k.inn 8 _ _ kr_ rfl rfl).trans kr_, trivial⟩) Ty.ag_voxel_ray_axis (fun b_ g_ h_b => by show some (Res.arr g9 152 (bsel (b_ 9) [.int .i64 ((toward a.x b.x).pos), .int .i64 ((toward a.x b.x).step), .int .i64 ((toward a.x b.x).n), .int .i64 ((toward a.x b.x).d), .int .i64 ((toward a.y b.y).pos), .int .i64 ((toward a.y b.y).step), .int .i64 ((toward a.y b.y).n), .int .i64 ((toward a.y b.y).d), .int .i64 ((toward a.z b.z).pos), .int .i64 ((toward a.z b.z).step), .int .i64 ((toward a.z b.z).n), .int .i64 ((toward a.z b.z).d)] [.int .i64 ((toward a.x b.x).pos), .int .i64 ((toward a.x b.x).step), .int .i64 ((toward a.x b.x).n), .int .i64 ((toward a.x b.x).d), .int .i64 ((toward a.y b.y).pos), .int .i64 ((toward a.y b.y).step), .int .i64 ((toward a.y b.y).n), .int .i64 ((toward a.y b.y).d), .int .i64 0, .int .i64 0, .int .i64 0, .int .i64 0])) = some (Res.arr g9 152 ([.int .i64 ((toward a.x b.x).pos), .int .i64 ((toward a.x b.x).step), .int .i64 ((toward a.x b.x).n), .int .i64 ((toward a.x b.x).d), .int .i64 ((toward a.y b.y).pos), .int .i64 ((toward a.y b.y).step), .int .i64 ((toward a.y b.y).n), .int .i64 ((toward a.y b.y).d), .int .i64 0, .int .i64 0, .int .i64 0, .int .i64 0])); rw [bselF h_b.no]) (fun g_ X_ => (wn rfl)) rfl (fun g_ X_ => litEv kr_) (fun g_ X_ => litEv kr_) (fun _ => by kernel_rfl) (fun _ => by kernel_rfl) (fun _ => by kernel_rfl) (fun b_ g_ h_b => by kernel_rfl) rfl) ?_
  exact aoDone (by decide)
 intro g_ a_ w42 hF_ hm41
 obtain ⟨X43, rfl⟩ := frLit (⟨hF_.size, hF_.defers, ⟨hF_.o_ 2, hF_.o_ 4, hF_.o_ 6, hF_.o_ 7, hF_.o_ 8, hF_.o_ 9, hF_.o_ 20, hF_.o_ 21, hF_.o_ 22, hF_.i_ 0, hF_.i_ 1, hF_.i_ 2, hF_.i_ 3, hF_.i_ 4, hF_.i_ 5, hF_.i_ 6, hF_.i_ 7, hF_.i_ 8, hF_.o_ 32, trivial⟩⟩ : Fr _ 82 [(2, .func (.func vf) first.toArray caps.toArray), (4, .pointer (some ⟨g5, 0, none⟩)), (6, .pointer (some ⟨g9, 0, none⟩)), (7, .pointer (some ⟨g17, 0, none⟩)), (8, .pointer (some ⟨g18, 0, none⟩)), (9, .int .i64 2), (20, .int .i64 2), (21, .bool true), (22, .int .i64 2), (23, .int .i64 2), (24, .int .i64 2), (25, .pointer (some ⟨g17, 2, none⟩)), (26, .int .i64 a.z), (27, .int .i64 2), (28, .pointer (some ⟨g18, 2, none⟩)), (29, .int .i64 b.z), (30, .agg (axs (toward a.z b.z)).toArray), (31, .pointer (some ⟨g9, 8, none⟩)), (32, .int .i64 2)])
 clear hF_
 have hm44 : Mem w0 w42 ((.arr g2 23 (pcs a)) :: (.arr g5 23 (pcs b)) :: (.arr g9 152 ([.int .i64 ((toward a.x b.x).pos), .int .i64 ((toward a.x b.x).step), .int .i64 ((toward a.x b.x).n), .int .i64 ((toward a.x b.x).d), .int .i64 ((toward a.y b.y).pos), .int .i64 ((toward a.y b.y).step), .int .i64 ((toward a.y b.y).n), .int .i64 ((toward a.y b.y).d), .int .i64 ((toward a.z b.z).pos), .int .i64 ((toward a.z b.z).step), .int .i64 ((toward a.z b.z).n), .int .i64 ((toward a.z b.z).d)])) :: (.arr g17 120 (pcs a)) :: (.arr g18 120 (pcs b)) :: V0) := hm41
 clear hm41 hm36
 refine inBlock_normal ?_
 refine tn_ hK39 ?_
 refine plStart ?_
 refine li_ 3 ?_
 refine li_ 3 ?_
 refine plD ?_
 refine then_normal (roundsNext ?_)
 refine sp_ fun _ hK45 => ?_
 refine lF_ ?_
 refine pt_ hK45 ?_
 refine sk_ fun _ hK46 => ?_
 refine wp_cond_false le_ ?_
 refine wp_exit ?_
 refine then_exit ?_
 refine then_exit ?_
 refine inBlock_exit ?_
 refine tn_ hK19 ?_
 refine wpPrune [(2, .func (.func vf) first.toArray caps.toArray), (4, .pointer (some ⟨g5, 0, none⟩)), (6, .pointer (some ⟨g9, 0, none⟩))] fo_ (fun X47 => ?_)
 refine wp_block ?_
 have hm0_ : Mem w0 w42 ((.arr g5 23 (pcs b)) :: (.arr g9 152 ([.int .i64 ((toward a.x b.x).pos), .int .i64 ((toward a.x b.x).step), .int .i64 ((toward a.x b.x).n), .int .i64 ((toward a.x b.x).d), .int .i64 ((toward a.y b.y).pos), .int .i64 ((toward a.y b.y).step), .int .i64 ((toward a.y b.y).n), .int .i64 ((toward a.y b.y).d), .int .i64 ((toward a.z b.z).pos), .int .i64 ((toward a.z b.z).step), .int .i64 ((toward a.z b.z).n), .int .i64 ((toward a.z b.z).d)])) :: V0) := hm44.sub (by simp [List.sublist_cons_iff])
 refine gwLoop (fun n_ a_ w_ => ∃ (i : Nat) (s : Ax3) (V : List Res), n_ = (s.left b).toNat ∧ (s.Ok a b) ∧ ((walk a b).drop i = walkS s b) ∧ (Vp i V) ∧ Fr a_ 82 [(2, .func (.func vf) first.toArray caps.toArray), (4, .pointer (some ⟨g5, 0, none⟩)), (6, .pointer (some ⟨g9, 0, none⟩))] ∧ Mem w0 w_ ((.arr g5 23 (pcs b)) :: (.arr g9 152 (a3 s)) :: V)) (((ax0 a b).left b).toNat) ⟨0, (ax0 a b), V0, rfl, ax0_ok a b, rfl, h0, ⟨litSize, rfl, fo_⟩, hm0_⟩ ?_
 clear hm44
 intro n_ a50 w48 hI_
 obtain ⟨i, s, V, rfl, hs, hi, hV, hF_, hm49⟩ := hI_
 obtain ⟨X51, rfl⟩ := frLit hF_
 clear hF_
 have bx := hs.1.bd (by omega) (by omega)
 have by_ := hs.2.1.bd (by omega) (by omega)
 have bz := hs.2.2.bd (by omega) (by omega)
 rw [walkS_eq hs] at hi
 obtain ⟨F2, hF2⟩ : ∃ F, sooner s.x.next s.y = F := ⟨_, rfl⟩
 obtain ⟨F3, hF3⟩ : ∃ F, sooner F2 s.z = F := ⟨_, rfl⟩
 have sF2 : Tm30 F2 := hF2 ▸ sooner_bd bx.1 by_.1
 have sF3 : Tm30 F3 := hF3 ▸ sooner_bd sF2 bz.1
 have hF : s.first = F3 := by unfold Ax3.first; rw [hF2, hF3]
 obtain ⟨X1, hX1⟩ : ∃ x, s.x.over F3 = x := ⟨_, rfl⟩
 obtain ⟨X2, hX2⟩ : ∃ x, s.y.over F3 = x := ⟨_, rfl⟩
 obtain ⟨X3, hX3⟩ : ∃ x, s.z.over F3 = x := ⟨_, rfl⟩
 have hgo : s.go = ⟨X1, X2, X3⟩ := by unfold Ax3.go; rw [hF, hX1, hX2, hX3]
 refine wp_block ?_
 refine sp_ fun _ hK52 => ?_
 refine lv_ rfl (.pointer (some ⟨g9, 0, none⟩)) (iaRun (b := g9) (off := 0) (s := 4) (n := 3) (kk := .i64) (.tmp 6) (.const (.int .i64 0)) 0 Ty.und_3_ray_axis kr_ rfl le_ le_ rfl (by decide)) ?_
 refine lp_ g9 0 ?_
 refine lv_ rfl (.int .i64 s.x.pos) (ld_ 0 1 hm49) ?_
 refine lv_ rfl (.pointer (some ⟨g9, 4, none⟩)) (iaRun (b := g9) (off := 0) (s := 4) (n := 3) (kk := .i64) (.tmp 6) (.const (.int .i64 1)) 1 Ty.und_3_ray_axis kr_ rfl le_ le_ rfl (by decide)) ?_
 refine lp_ g9 4 ?_
 refine lv_ rfl (.int .i64 s.y.pos) (ld_ 4 1 hm49) ?_
 refine lv_ rfl (.pointer (some ⟨g9, 8, none⟩)) (iaRun (b := g9) (off := 0) (s := 4) (n := 3) (kk := .i64) (.tmp 6) (.const (.int .i64 2)) 2 Ty.und_3_ray_axis kr_ rfl le_ le_ rfl (by decide)) ?_
 refine lp_ g9 8 ?_
 refine lv_ rfl (.int .i64 s.z.pos) (ld_ 8 1 hm49) ?_
 refine lk_ (.agg (pcs s.cell).toArray) ?_
 refine plAlloc (z := [.int .i64 0, .int .i64 0, .int .i64 0]) Ty.ag_voxel_api_Point hm49 (i := 10) rfl (wn rfl) rfl ?_
 intro g53 w55 hm54
 clear hm49
 try simp only [lc_] at hm54
 replace hm54 := hm54.i2
 refine qP rfl ?_
 refine plStore 2 Ty.ag_voxel_api_Point hm54 rfl (i := 11) (cs := pcs s.cell) rfl (wn rfl) rfl le_ le_ rfl rfl kr_ ?_
 intro w57 hm56
 clear hm54
 try simp only [lc_] at hm56
 refine qNone rfl ?_
 refine pt_ hK52 ?_
 refine sk_ fun _ hK58 => ?_
 refine sp_ fun _ hK59 => ?_
 refine lk_ (.func (.func vf) first.toArray caps.toArray) ?_
 refine lv_ rfl (.agg (pcs s.cell).toArray) (la_ 0 2 hm56 Ty.ag_voxel_api_Point) ?_
 refine plCall (i := 2) vf [.agg (pcs s.cell).toArray] first caps rfl hvf (wn rfl) rfl le_ (litArgs kr_) (hvis i s.cell _ V [.arr g5 23 (pcs b), .arr g9 152 (a3 s), .arr g53 23 (pcs s.cell)] (drop_get hi).1 hV (Mem.swap (A := [.arr g5 23 (pcs b), .arr g9 152 (a3 s), .arr g53 23 (pcs s.cell)]) (B := V) hm56)) ?_
 rintro e w64 ⟨t61, V60, rfl, hm65, hc62, hd63⟩
 replace hm65 : Mem w0 w64 ((.arr g5 23 (pcs b)) :: (.arr g9 152 (a3 s)) :: (.arr g53 23 (pcs s.cell)) :: V60) := Mem.swap (A := V60) (B := [.arr g5 23 (pcs b), .arr g9 152 (a3 s), .arr g53 23 (pcs s.cell)]) hm65
 clear hm56
 refine ⟨_, rfl, ?_⟩
 refine qP rfl ?_
 rcases bool_or (t61) with h66 | h66
 ·rw [h66]
  refine lT_ ?_
  refine lT_ ?_
  refine ps_ (i := 5) ?_
  refine ps_ (i := 6) ?_
  refine ps_ (i := 7) ?_
  refine lT_ ?_
  refine pt_ hK59 ?_
  refine wp_cond_true le_ ?_
  refine wp_ret ?_
  refine then_ret ?_
  refine inBlock_ret ?_
  refine then_ret ?_
  refine inBlock_ret ?_
  refine bodyPost_ret (v := .tuple #[]) (gRes0 rfl ) rfl ?_
  exact ⟨rfl, V60, hm65.keep 0 3, hd63 h66⟩
 rw [h66]
 refine lF_ ?_
 refine lF_ ?_
 refine lw_ rfl (.agg (pcs s.cell).toArray) (la_ 0 2 hm65 Ty.ag_voxel_api_Point) ?_
 refine lw_ rfl (.agg (pcs b).toArray) (la_ 0 0 hm65 Ty.ag_voxel_api_Point) ?_
 by_cases h67 : s.cell = b
 ·refine lw_ rfl (.bool true) (boolTo (decide_eq_true h67) (eqPtRun (.tmp 48) (.tmp 49) s.cell b kr_ kr_ kr_ kr_ rfl le_ le_)) ?_
  refine lT_ ?_
  refine pt_ hK59 ?_
  refine wp_cond_true le_ ?_
  refine wp_ret ?_
  refine then_ret ?_
  refine inBlock_ret ?_
  refine then_ret ?_
  refine inBlock_ret ?_
  refine bodyPost_ret (v := .tuple #[]) (gRes0 rfl ) rfl ?_
  rw [if_pos h67] at hi
  exact ⟨rfl, V60, hm65.keep 0 3, hend _ (by rw [drop_last hi]; exact hc62 h66)⟩
 refine lw_ rfl (.bool false) (boolTo (decide_eq_false h67) (eqPtRun (.tmp 48) (.tmp 49) s.cell b kr_ kr_ kr_ kr_ rfl le_ le_)) ?_
 refine lF_ ?_
 refine pt_ hK59 ?_
 refine wp_cond_false le_ ?_
 refine wp_skip ?_
 refine tn_ hK58 ?_
 refine sp_ fun _ hK68 => ?_
 refine lv_ rfl (.pointer (some ⟨g9, 0, none⟩)) (iaRun (b := g9) (off := 0) (s := 4) (n := 3) (kk := .i64) (.tmp 6) (.const (.int .i64 0)) 0 Ty.und_3_ray_axis kr_ rfl le_ le_ rfl (by decide)) ?_
 refine lp_ g9 2 ?_
 refine lv_ rfl (.agg (tcs s.x.next).toArray) (la_ 2 1 hm65 Ty.ag_voxel_ray_time) ?_
 refine plAlloc (z := [.int .i64 0, .int .i64 0]) Ty.ag_voxel_ray_time hm65 (i := 3) rfl (wn rfl) rfl ?_
 intro g69 w71 hm70
 clear hm65
 try simp only [lc_] at hm70
 replace hm70 := hm70.i3
 refine qP rfl ?_
 refine plStore 3 Ty.ag_voxel_ray_time hm70 rfl (i := 4) (cs := tcs s.x.next) rfl (wn rfl) rfl le_ le_ rfl rfl kr_ ?_
 intro w73 hm72
 clear hm70
 try simp only [lc_] at hm72
 refine qNone rfl ?_
 refine pt_ hK68 ?_
 refine sk_ fun _ hK74 => ?_
 refine sp_ fun _ hK75 => ?_
 refine lv_ rfl (.agg (a3 s).toArray) (la_ 0 1 hm72 Ty.ag_3_ray_axis) ?_
 refine li_ 0 ?_
 refine pt_ hK75 ?_
 refine wp_block ?_
 refine roundsStart 4 ?_
 refine sp_ fun _ hK76 => ?_
 refine lT_ ?_
 refine pt_ hK76 ?_
 refine sk_ fun _ hK77 => ?_
 refine wp_cond_true le_ ?_
 refine wp_skip ?_
 refine tn_ hK77 ?_
 refine gwCut (fun a_ w_ => Fr a_ 82 [(2, .func (.func vf) first.toArray caps.toArray), (4, .pointer (some ⟨g5, 0, none⟩)), (6, .pointer (some ⟨g9, 0, none⟩)), (10, .pointer (some ⟨g53, 0, none⟩)), (11, .pointer (some ⟨g69, 0, none⟩)), (33, .pointer (some ⟨g9, 0, none⟩)), (34, .pointer (some ⟨g9, 0, none⟩)), (35, .int .i64 s.x.pos), (36, .pointer (some ⟨g9, 4, none⟩)), (37, .pointer (some ⟨g9, 4, none⟩)), (38, .int .i64 s.y.pos), (39, .pointer (some ⟨g9, 8, none⟩)), (40, .pointer (some ⟨g9, 8, none⟩)), (41, .int .i64 s.z.pos), (42, .agg (pcs s.cell).toArray), (43, .func (.func vf) first.toArray caps.toArray), (44, .agg (pcs s.cell).toArray), (45, .bool true), (46, .bool false), (47, .bool false), (48, .agg (pcs s.cell).toArray), (49, .agg (pcs b).toArray), (50, .bool false), (51, .bool false), (52, .pointer (some ⟨g9, 0, none⟩)), (53, .pointer (some ⟨g9, 2, none⟩)), (54, .agg (tcs s.x.next).toArray), (55, .agg (a3 s).toArray), (56, .int .i64 0), (57, .bool true)] ∧ Mem w0 w_ ((.arr g5 23 (pcs b)) :: (.arr g9 152 (a3 s)) :: (.arr g69 149 (tcs s.x.next)) :: V60)) ?_ ?_
 ·refine wp_block ?_
  refine sp_ fun _ hK78 => ?_
  refine lk_ (.agg (axs s.x).toArray) ?_
  refine plAlloc (z := [.int .i64 0, .int .i64 0, .int .i64 0, .int .i64 0]) Ty.ag_voxel_ray_axis hm72 (i := 1) rfl (wn rfl) rfl ?_
  intro g79 w81 hm80
  clear hm72
  try simp only [lc_] at hm80
  replace hm80 := hm80.i4
  refine qP rfl ?_
  refine plStore 4 Ty.ag_voxel_ray_axis hm80 rfl (i := 2) (cs := axs s.x) rfl (wn rfl) rfl le_ le_ rfl rfl kr_ ?_
  intro w83 hm82
  clear hm80
  try simp only [lc_] at hm82
  refine qNone rfl ?_
  refine pt_ hK78 ?_
  refine sp_ fun _ hK84 => ?_
  refine lp_ g79 2 ?_
  refine lv_ rfl (.agg (tcs s.x.next).toArray) (la_ 2 4 hm82 Ty.ag_voxel_ray_time) ?_
  refine lk_ (.func (.func 85) #[.agg (tcs s.x.next).toArray] #[]) ?_
  refine lk_ (.func (.func 85) #[.agg (tcs s.x.next).toArray] #[]) ?_
  refine pt_ hK84 ?_
  refine sp_ fun _ hK85 => ?_
  refine lk_ (.func (.func 85) #[.agg (tcs s.x.next).toArray] #[]) ?_
  refine lv_ rfl (.agg (tcs s.x.next).toArray) (la_ 0 3 hm82 Ty.ag_voxel_ray_time) ?_
  refine plCall (i := 2) 85 [.agg (tcs s.x.next).toArray] [.agg (tcs s.x.next).toArray] [] rfl kr_ (wn rfl) rfl le_ (litArgs kr_) (callsTo (congrArg Value.bool (tltb_irrefl s.x.next)) (before_any s.x.next s.x.next bx.1 bx.1 _)) ?_
  rintro e w86 ⟨rfl, hbz⟩
  have hm87 := hm82.below hbz
  clear hbz hm82
  refine ⟨_, rfl, ?_⟩
  refine qP rfl ?_
  refine pt_ hK85 ?_
  refine wp_cond_false le_ ?_
  refine wp_skip ?_
  refine inBlock_normal ?_
  refine then_normal ?_
  exact ⟨⟨litSize, rfl, fo_⟩, (hm87.sub (by simp [List.sublist_cons_iff]))⟩
 clear hm72
 intro a90 w88 hI_
 obtain ⟨hF_, hm89⟩ := hI_
 obtain ⟨X91, rfl⟩ := frLit hF_
 clear hF_
 refine plStart ?_
 refine li_ 1 ?_
 refine li_ 1 ?_
 refine plD ?_
 refine then_normal (roundsNext ?_)
 refine sp_ fun _ hK92 => ?_
 refine lT_ ?_
 refine pt_ hK92 ?_
 refine sk_ fun _ hK93 => ?_
 refine wp_cond_true le_ ?_
 refine wp_skip ?_
 refine tn_ hK93 ?_
 refine gwCut (fun a_ w_ => Fr a_ 82 [(2, .func (.func vf) first.toArray caps.toArray), (4, .pointer (some ⟨g5, 0, none⟩)), (6, .pointer (some ⟨g9, 0, none⟩)), (10, .pointer (some ⟨g53, 0, none⟩)), (11, .pointer (some ⟨g69, 0, none⟩)), (33, .pointer (some ⟨g9, 0, none⟩)), (34, .pointer (some ⟨g9, 0, none⟩)), (35, .int .i64 s.x.pos), (36, .pointer (some ⟨g9, 4, none⟩)), (37, .pointer (some ⟨g9, 4, none⟩)), (38, .int .i64 s.y.pos), (39, .pointer (some ⟨g9, 8, none⟩)), (40, .pointer (some ⟨g9, 8, none⟩)), (41, .int .i64 s.z.pos), (42, .agg (pcs s.cell).toArray), (43, .func (.func vf) first.toArray caps.toArray), (44, .agg (pcs s.cell).toArray), (45, .bool true), (46, .bool false), (47, .bool false), (48, .agg (pcs s.cell).toArray), (49, .agg (pcs b).toArray), (50, .bool false), (51, .bool false), (52, .pointer (some ⟨g9, 0, none⟩)), (53, .pointer (some ⟨g9, 2, none⟩)), (54, .agg (tcs s.x.next).toArray), (55, .agg (a3 s).toArray), (56, .int .i64 1), (57, .bool true), (67, .int .i64 1)] ∧ Mem w0 w_ ((.arr g5 23 (pcs b)) :: (.arr g9 152 (a3 s)) :: (.arr g69 149 (tcs F2)) :: V60)) ?_ ?_
 ·refine wp_block ?_
  refine sp_ fun _ hK94 => ?_
  refine lk_ (.agg (axs s.y).toArray) ?_
  refine plAlloc (z := [.int .i64 0, .int .i64 0, .int .i64 0, .int .i64 0]) Ty.ag_voxel_ray_axis hm89 (i := 1) rfl (wn rfl) rfl ?_
  intro g95 w97 hm96
  clear hm89
  try simp only [lc_] at hm96
  replace hm96 := hm96.i3
  refine qP rfl ?_
  refine plStore 3 Ty.ag_voxel_ray_axis hm96 rfl (i := 2) (cs := axs s.y) rfl (wn rfl) rfl le_ le_ rfl rfl kr_ ?_
  intro w99 hm98
  clear hm96
  try simp only [lc_] at hm98
  refine qNone rfl ?_
  refine pt_ hK94 ?_
  refine sp_ fun _ hK100 => ?_
  refine lp_ g95 2 ?_
  refine lv_ rfl (.agg (tcs s.y.next).toArray) (la_ 2 3 hm98 Ty.ag_voxel_ray_time) ?_
  refine lk_ (.func (.func 85) #[.agg (tcs s.y.next).toArray] #[]) ?_
  refine lk_ (.func (.func 85) #[.agg (tcs s.y.next).toArray] #[]) ?_
  refine pt_ hK100 ?_
  refine sp_ fun _ hK101 => ?_
  refine lk_ (.func (.func 85) #[.agg (tcs s.y.next).toArray] #[]) ?_
  refine lv_ rfl (.agg (tcs s.x.next).toArray) (la_ 0 2 hm98 Ty.ag_voxel_ray_time) ?_
  refine plCall (i := 2) 85 [.agg (tcs s.x.next).toArray] [.agg (tcs s.y.next).toArray] [] rfl kr_ (wn rfl) rfl le_ (litArgs kr_) (before_any s.y.next s.x.next by_.1 bx.1 _) ?_
  rintro e w102 ⟨rfl, hbz⟩
  have hm103 := hm98.below hbz
  clear hbz hm98
  refine ⟨_, rfl, ?_⟩
  refine qP rfl ?_
  rcases bool_or (tltb s.y.next s.x.next) with h104 | h104
  ·rw [h104]
   refine pt_ hK101 ?_
   refine wp_cond_false le_ ?_
   refine wp_skip ?_
   refine inBlock_normal ?_
   refine then_normal ?_
   have e_ : tcs F2 = tcs s.x.next := by rw [← hF2, sooner_no h104]
   exact ⟨⟨litSize, rfl, fo_⟩, (by rw [e_]; exact hm103.sub (by simp [List.sublist_cons_iff]))⟩
  rw [h104]
  refine pt_ hK101 ?_
  refine wp_cond_true le_ ?_
  refine plStart ?_
  refine lp_ g95 2 ?_
  refine lv_ rfl (.agg (tcs s.y.next).toArray) (la_ 2 3 hm103 Ty.ag_voxel_ray_time) ?_
  refine plStore 2 Ty.ag_voxel_ray_time hm103 rfl (i := 2) (cs := tcs s.y.next) rfl (wn rfl) rfl le_ le_ rfl rfl kr_ ?_
  intro w106 hm105
  clear hm103
  try simp only [lc_] at hm105
  refine qNone rfl ?_
  refine plD ?_
  refine inBlock_normal ?_
  refine then_normal ?_
  have e_ : tcs F2 = tcs s.y.next := by rw [← hF2, sooner_yes h104]
  exact ⟨⟨litSize, rfl, fo_⟩, (by rw [e_]; exact hm105.sub (by simp [List.sublist_cons_iff]))⟩
 clear hm89
 intro a109 w107 hI_
 obtain ⟨hF_, hm108⟩ := hI_
 obtain ⟨X110, rfl⟩ := frLit hF_
 clear hF_
 refine plStart ?_
 refine li_ 2 ?_
 refine li_ 2 ?_
 refine plD ?_
 refine then_normal (roundsNext ?_)
 refine sp_ fun _ hK111 => ?_
 refine lT_ ?_
 refine pt_ hK111 ?_
 refine sk_ fun _ hK112 => ?_
 refine wp_cond_true le_ ?_
 refine wp_skip ?_
 refine tn_ hK112 ?_
 refine gwCut (fun a_ w_ => Fr a_ 82 [(2, .func (.func vf) first.toArray caps.toArray), (4, .pointer (some ⟨g5, 0, none⟩)), (6, .pointer (some ⟨g9, 0, none⟩)), (10, .pointer (some ⟨g53, 0, none⟩)), (11, .pointer (some ⟨g69, 0, none⟩)), (33, .pointer (some ⟨g9, 0, none⟩)), (34, .pointer (some ⟨g9, 0, none⟩)), (35, .int .i64 s.x.pos), (36, .pointer (some ⟨g9, 4, none⟩)), (37, .pointer (some ⟨g9, 4, none⟩)), (38, .int .i64 s.y.pos), (39, .pointer (some ⟨g9, 8, none⟩)), (40, .pointer (some ⟨g9, 8, none⟩)), (41, .int .i64 s.z.pos), (42, .agg (pcs s.cell).toArray), (43, .func (.func vf) first.toArray caps.toArray), (44, .agg (pcs s.cell).toArray), (45, .bool true), (46, .bool false), (47, .bool false), (48, .agg (pcs s.cell).toArray), (49, .agg (pcs b).toArray), (50, .bool false), (51, .bool false), (52, .pointer (some ⟨g9, 0, none⟩)), (53, .pointer (some ⟨g9, 2, none⟩)), (54, .agg (tcs s.x.next).toArray), (55, .agg (a3 s).toArray), (56, .int .i64 2), (57, .bool true), (67, .int .i64 2)] ∧ Mem w0 w_ ((.arr g5 23 (pcs b)) :: (.arr g9 152 (a3 s)) :: (.arr g69 149 (tcs F3)) :: V60)) ?_ ?_
 ·refine wp_block ?_
  refine sp_ fun _ hK113 => ?_
  refine lk_ (.agg (axs s.z).toArray) ?_
  refine plAlloc (z := [.int .i64 0, .int .i64 0, .int .i64 0, .int .i64 0]) Ty.ag_voxel_ray_axis hm108 (i := 1) rfl (wn rfl) rfl ?_
  intro g114 w116 hm115
  clear hm108
  try simp only [lc_] at hm115
  replace hm115 := hm115.i3
  refine qP rfl ?_
  refine plStore 3 Ty.ag_voxel_ray_axis hm115 rfl (i := 2) (cs := axs s.z) rfl (wn rfl) rfl le_ le_ rfl rfl kr_ ?_
  intro w118 hm117
  clear hm115
  try simp only [lc_] at hm117
  refine qNone rfl ?_
  refine pt_ hK113 ?_
  refine sp_ fun _ hK119 => ?_
  refine lp_ g114 2 ?_
  refine lv_ rfl (.agg (tcs s.z.next).toArray) (la_ 2 3 hm117 Ty.ag_voxel_ray_time) ?_
  refine lk_ (.func (.func 85) #[.agg (tcs s.z.next).toArray] #[]) ?_
  refine lk_ (.func (.func 85) #[.agg (tcs s.z.next).toArray] #[]) ?_
  refine pt_ hK119 ?_
  refine sp_ fun _ hK120 => ?_
  refine lk_ (.func (.func 85) #[.agg (tcs s.z.next).toArray] #[]) ?_
  refine lv_ rfl (.agg (tcs F2).toArray) (la_ 0 2 hm117 Ty.ag_voxel_ray_time) ?_
  refine plCall (i := 2) 85 [.agg (tcs F2).toArray] [.agg (tcs s.z.next).toArray] [] rfl kr_ (wn rfl) rfl le_ (litArgs kr_) (before_any s.z.next F2 bz.1 sF2 _) ?_
  rintro e w121 ⟨rfl, hbz⟩
  have hm122 := hm117.below hbz
  clear hbz hm117
  refine ⟨_, rfl, ?_⟩
  refine qP rfl ?_
  rcases bool_or (tltb s.z.next F2) with h123 | h123
  ·rw [h123]
   refine pt_ hK120 ?_
   refine wp_cond_false le_ ?_
   refine wp_skip ?_
   refine inBlock_normal ?_
   refine then_normal ?_
   have e_ : tcs F3 = tcs F2 := by rw [← hF3, sooner_no h123]
   exact ⟨⟨litSize, rfl, fo_⟩, (by rw [e_]; exact hm122.sub (by simp [List.sublist_cons_iff]))⟩
  rw [h123]
  refine pt_ hK120 ?_
  refine wp_cond_true le_ ?_
  refine plStart ?_
  refine lp_ g114 2 ?_
  refine lv_ rfl (.agg (tcs s.z.next).toArray) (la_ 2 3 hm122 Ty.ag_voxel_ray_time) ?_
  refine plStore 2 Ty.ag_voxel_ray_time hm122 rfl (i := 2) (cs := tcs s.z.next) rfl (wn rfl) rfl le_ le_ rfl rfl kr_ ?_
  intro w125 hm124
  clear hm122
  try simp only [lc_] at hm124
  refine qNone rfl ?_
  refine plD ?_
  refine inBlock_normal ?_
  refine then_normal ?_
  have e_ : tcs F3 = tcs s.z.next := by rw [← hF3, sooner_yes h123]
  exact ⟨⟨litSize, rfl, fo_⟩, (by rw [e_]; exact hm124.sub (by simp [List.sublist_cons_iff]))⟩
 clear hm108
 intro a128 w126 hI_
 obtain ⟨hF_, hm127⟩ := hI_
 obtain ⟨X129, rfl⟩ := frLit hF_
 clear hF_
 refine plStart ?_
 refine li_ 3 ?_
 refine li_ 3 ?_
 refine plD ?_
 refine then_normal (roundsNext ?_)
 refine sp_ fun _ hK130 => ?_
 refine lF_ ?_
 refine pt_ hK130 ?_
 refine sk_ fun _ hK131 => ?_
 refine wp_cond_false le_ ?_
 refine wp_exit ?_
 refine then_exit ?_
 refine then_exit ?_
 refine inBlock_exit ?_
 refine tn_ hK74 ?_
 refine sp_ fun _ hK132 => ?_
 refine li_ 0 ?_
 refine pt_ hK132 ?_
 refine wp_block ?_
 refine roundsStart 4 ?_
 refine sp_ fun _ hK133 => ?_
 refine lT_ ?_
 refine pt_ hK133 ?_
 refine sk_ fun _ hK134 => ?_
 refine wp_cond_true le_ ?_
 refine wp_skip ?_
 refine tn_ hK134 ?_
 refine gwCut (fun a_ w_ => Fr a_ 82 [(2, .func (.func vf) first.toArray caps.toArray), (4, .pointer (some ⟨g5, 0, none⟩)), (6, .pointer (some ⟨g9, 0, none⟩)), (10, .pointer (some ⟨g53, 0, none⟩)), (11, .pointer (some ⟨g69, 0, none⟩)), (33, .pointer (some ⟨g9, 0, none⟩)), (34, .pointer (some ⟨g9, 0, none⟩)), (35, .int .i64 s.x.pos), (36, .pointer (some ⟨g9, 4, none⟩)), (37, .pointer (some ⟨g9, 4, none⟩)), (38, .int .i64 s.y.pos), (39, .pointer (some ⟨g9, 8, none⟩)), (40, .pointer (some ⟨g9, 8, none⟩)), (41, .int .i64 s.z.pos), (42, .agg (pcs s.cell).toArray), (43, .func (.func vf) first.toArray caps.toArray), (44, .agg (pcs s.cell).toArray), (45, .bool true), (46, .bool false), (47, .bool false), (48, .agg (pcs s.cell).toArray), (49, .agg (pcs b).toArray), (50, .bool false), (51, .bool false), (52, .pointer (some ⟨g9, 0, none⟩)), (53, .pointer (some ⟨g9, 2, none⟩)), (54, .agg (tcs s.x.next).toArray), (55, .agg (a3 s).toArray), (56, .int .i64 3), (57, .bool false), (67, .int .i64 3), (68, .int .i64 0), (69, .bool true)] ∧ Mem w0 w_ ((.arr g5 23 (pcs b)) :: (.arr g9 152 (a3 ⟨X1, s.y, s.z⟩)) :: (.arr g69 149 (tcs F3)) :: V60)) ?_ ?_
 ·refine wp_block ?_
  refine sp_ fun _ hK135 => ?_
  refine li_ 0 ?_
  refine li_ 0 ?_
  refine pt_ hK135 ?_
  refine sk_ fun _ hK136 => ?_
  refine mgStart hm127 kr_ ?_
  intro w138 hm137
  clear hm127
  refine mt_ 0 rfl (.agg (tcs F3).toArray) hm137 (fun w_ h_ => la_ 0 2 h_ Ty.ag_voxel_ray_time) ?_
  refine mk_ (i := 1) (v := .int .i64 0) rfl rfl (fun _ _ _ h => h) hm137 rfl ?_
  refine mt_ 2 rfl (.pointer (some ⟨g9, 0, none⟩)) hm137 (fun w_ h_ => iaRun (b := g9) (off := 0) (s := 4) (n := 3) (kk := .i64) (.tmp 6) (.tmp 72) 0 Ty.und_3_ray_axis kr_ rfl le_ le_ rfl (by decide)) ?_
  refine mk_ (i := 3) (v := .pointer (some ⟨g9, 2, none⟩)) rfl rfl (fun _ _ _ h => h) hm137 rfl ?_
  refine mt_ 4 rfl (.agg (tcs s.x.next).toArray) hm137 (fun w_ h_ => la_ 2 1 h_ Ty.ag_voxel_ray_time) ?_
  refine mgCall (i := 5) 85 [.agg (tcs F3).toArray, .agg (tcs s.x.next).toArray] [] [] kr_ rfl kr_ (wn rfl) rfl le_ (litArgs kr_) (before_any F3 s.x.next sF3 bx.1 _) ?_
  rintro e w139 ⟨rfl, hbz⟩
  have hm140 := hm137.below hbz
  clear hbz hm137
  refine ⟨_, rfl, hm140, ?_⟩
  refine mP rfl ?_
  rcases bool_or (tltb F3 s.x.next) with h141 | h141
  ·rw [h141]
   refine mk_ (i := 6) (v := .bool true) rfl rfl (fun _ _ _ h => h) hm140 rfl ?_
   refine mgDone kr_ ?_
   refine tn_ hK136 ?_
   refine wp_cond_true le_ ?_
   refine plStart ?_
   refine li_ 0 ?_
   refine lv_ rfl (.pointer (some ⟨g9, 0, none⟩)) (iaRun (b := g9) (off := 0) (s := 4) (n := 3) (kk := .i64) (.tmp 6) (.tmp 78) 0 Ty.und_3_ray_axis kr_ rfl le_ le_ rfl (by decide)) ?_
   refine plCall (i := 2) 86 [.pointer (some ⟨g9, 0, none⟩)] [] [] rfl kr_ (wn rfl) rfl le_ (litArgs kr_) (cross0_any g9 s (by have h_ := bx.2.1; show -1073741824 ≤ s.x.pos ∧ s.x.pos ≤ 1073741824; omega) bx.2.2 bx.1.1 (Mem.front 1 hm140 rfl)) ?_
   rintro e w142 ⟨rfl, hm143⟩
   replace hm143 := Mem.back (M := ((.arr g5 23 (pcs b)) :: (.arr g9 152 (a3 s)) :: (.arr g69 149 (tcs F3)) :: V60)) 1 hm143
   simp only [List.set_cons_succ, List.set_cons_zero] at hm143
   clear hm140
   refine ⟨_, rfl, ?_⟩
   refine qP rfl ?_
   refine plD ?_
   refine inBlock_normal ?_
   refine then_normal ?_
   have e_ : X1 = s.x.inc := by rw [← hX1, over_no h141]
   exact ⟨⟨litSize, rfl, fo_⟩, (by rw [e_]; exact hm143.sub (by simp [List.sublist_cons_iff]))⟩
  rw [h141]
  refine mk_ (i := 6) (v := .bool false) rfl rfl (fun _ _ _ h => h) hm140 rfl ?_
  refine mgDone kr_ ?_
  refine tn_ hK136 ?_
  refine wp_cond_false le_ ?_
  refine wp_skip ?_
  refine inBlock_normal ?_
  refine then_normal ?_
  have e_ : X1 = s.x := by rw [← hX1, over_yes h141]
  exact ⟨⟨litSize, rfl, fo_⟩, (by rw [e_]; exact hm140.sub (by simp [List.sublist_cons_iff]))⟩
 clear hm127
 intro a146 w144 hI_
 obtain ⟨hF_, hm145⟩ := hI_
 obtain ⟨X147, rfl⟩ := frLit hF_
 clear hF_
 refine plStart ?_
 refine li_ 1 ?_
 refine li_ 1 ?_
 refine plD ?_
 refine then_normal (roundsNext ?_)
 refine sp_ fun _ hK148 => ?_
 refine lT_ ?_
 refine pt_ hK148 ?_
 refine sk_ fun _ hK149 => ?_
 refine wp_cond_true le_ ?_
 refine wp_skip ?_
 refine tn_ hK149 ?_
 refine gwCut (fun a_ w_ => Fr a_ 82 [(2, .func (.func vf) first.toArray caps.toArray), (4, .pointer (some ⟨g5, 0, none⟩)), (6, .pointer (some ⟨g9, 0, none⟩)), (10, .pointer (some ⟨g53, 0, none⟩)), (11, .pointer (some ⟨g69, 0, none⟩)), (33, .pointer (some ⟨g9, 0, none⟩)), (34, .pointer (some ⟨g9, 0, none⟩)), (35, .int .i64 s.x.pos), (36, .pointer (some ⟨g9, 4, none⟩)), (37, .pointer (some ⟨g9, 4, none⟩)), (38, .int .i64 s.y.pos), (39, .pointer (some ⟨g9, 8, none⟩)), (40, .pointer (some ⟨g9, 8, none⟩)), (41, .int .i64 s.z.pos), (42, .agg (pcs s.cell).toArray), (43, .func (.func vf) first.toArray caps.toArray), (44, .agg (pcs s.cell).toArray), (45, .bool true), (46, .bool false), (47, .bool false), (48, .agg (pcs s.cell).toArray), (49, .agg (pcs b).toArray), (50, .bool false), (51, .bool false), (52, .pointer (some ⟨g9, 0, none⟩)), (53, .pointer (some ⟨g9, 2, none⟩)), (54, .agg (tcs s.x.next).toArray), (55, .agg (a3 s).toArray), (56, .int .i64 3), (57, .bool false), (67, .int .i64 3), (68, .int .i64 1), (69, .bool true), (81, .int .i64 1)] ∧ Mem w0 w_ ((.arr g5 23 (pcs b)) :: (.arr g9 152 (a3 ⟨X1, X2, s.z⟩)) :: (.arr g69 149 (tcs F3)) :: V60)) ?_ ?_
 ·refine wp_block ?_
  refine sp_ fun _ hK150 => ?_
  refine li_ 1 ?_
  refine li_ 1 ?_
  refine pt_ hK150 ?_
  refine sk_ fun _ hK151 => ?_
  refine mgStart hm145 kr_ ?_
  intro w153 hm152
  clear hm145
  refine mt_ 0 rfl (.agg (tcs F3).toArray) hm152 (fun w_ h_ => la_ 0 2 h_ Ty.ag_voxel_ray_time) ?_
  refine mk_ (i := 1) (v := .int .i64 1) rfl rfl (fun _ _ _ h => h) hm152 rfl ?_
  refine mt_ 2 rfl (.pointer (some ⟨g9, 4, none⟩)) hm152 (fun w_ h_ => iaRun (b := g9) (off := 0) (s := 4) (n := 3) (kk := .i64) (.tmp 6) (.tmp 72) 1 Ty.und_3_ray_axis kr_ rfl le_ le_ rfl (by decide)) ?_
  refine mk_ (i := 3) (v := .pointer (some ⟨g9, 6, none⟩)) rfl rfl (fun _ _ _ h => h) hm152 rfl ?_
  refine mt_ 4 rfl (.agg (tcs s.y.next).toArray) hm152 (fun w_ h_ => la_ 6 1 h_ Ty.ag_voxel_ray_time) ?_
  refine mgCall (i := 5) 85 [.agg (tcs F3).toArray, .agg (tcs s.y.next).toArray] [] [] kr_ rfl kr_ (wn rfl) rfl le_ (litArgs kr_) (before_any F3 s.y.next sF3 by_.1 _) ?_
  rintro e w154 ⟨rfl, hbz⟩
  have hm155 := hm152.below hbz
  clear hbz hm152
  refine ⟨_, rfl, hm155, ?_⟩
  refine mP rfl ?_
  rcases bool_or (tltb F3 s.y.next) with h156 | h156
  ·rw [h156]
   refine mk_ (i := 6) (v := .bool true) rfl rfl (fun _ _ _ h => h) hm155 rfl ?_
   refine mgDone kr_ ?_
   refine tn_ hK151 ?_
   refine wp_cond_true le_ ?_
   refine plStart ?_
   refine li_ 1 ?_
   refine lv_ rfl (.pointer (some ⟨g9, 4, none⟩)) (iaRun (b := g9) (off := 0) (s := 4) (n := 3) (kk := .i64) (.tmp 6) (.tmp 78) 1 Ty.und_3_ray_axis kr_ rfl le_ le_ rfl (by decide)) ?_
   refine plCall (i := 2) 86 [.pointer (some ⟨g9, 4, none⟩)] [] [] rfl kr_ (wn rfl) rfl le_ (litArgs kr_) (cross1_any g9 (⟨X1, s.y, s.z⟩) (by have h_ := by_.2.1; show -1073741824 ≤ s.y.pos ∧ s.y.pos ≤ 1073741824; omega) by_.2.2 by_.1.1 (Mem.front 1 hm155 rfl)) ?_
   rintro e w157 ⟨rfl, hm158⟩
   replace hm158 := Mem.back (M := ((.arr g5 23 (pcs b)) :: (.arr g9 152 (a3 ⟨X1, s.y, s.z⟩)) :: (.arr g69 149 (tcs F3)) :: V60)) 1 hm158
   simp only [List.set_cons_succ, List.set_cons_zero] at hm158
   clear hm155
   refine ⟨_, rfl, ?_⟩
   refine qP rfl ?_
   refine plD ?_
   refine inBlock_normal ?_
   refine then_normal ?_
   have e_ : X2 = s.y.inc := by rw [← hX2, over_no h156]
   exact ⟨⟨litSize, rfl, fo_⟩, (by rw [e_]; exact hm158.sub (by simp [List.sublist_cons_iff]))⟩
  rw [h156]
  refine mk_ (i := 6) (v := .bool false) rfl rfl (fun _ _ _ h => h) hm155 rfl ?_
  refine mgDone kr_ ?_
  refine tn_ hK151 ?_
  refine wp_cond_false le_ ?_
  refine wp_skip ?_
  refine inBlock_normal ?_
  refine then_normal ?_
  have e_ : X2 = s.y := by rw [← hX2, over_yes h156]
  exact ⟨⟨litSize, rfl, fo_⟩, (by rw [e_]; exact hm155.sub (by simp [List.sublist_cons_iff]))⟩
 clear hm145
 intro a161 w159 hI_
 obtain ⟨hF_, hm160⟩ := hI_
 obtain ⟨X162, rfl⟩ := frLit hF_
 clear hF_
 refine plStart ?_
 refine li_ 2 ?_
 refine li_ 2 ?_
 refine plD ?_
 refine then_normal (roundsNext ?_)
 refine sp_ fun _ hK163 => ?_
 refine lT_ ?_
 refine pt_ hK163 ?_
 refine sk_ fun _ hK164 => ?_
 refine wp_cond_true le_ ?_
 refine wp_skip ?_
 refine tn_ hK164 ?_
 refine gwCut (fun a_ w_ => Fr a_ 82 [(2, .func (.func vf) first.toArray caps.toArray), (4, .pointer (some ⟨g5, 0, none⟩)), (6, .pointer (some ⟨g9, 0, none⟩)), (10, .pointer (some ⟨g53, 0, none⟩)), (11, .pointer (some ⟨g69, 0, none⟩)), (33, .pointer (some ⟨g9, 0, none⟩)), (34, .pointer (some ⟨g9, 0, none⟩)), (35, .int .i64 s.x.pos), (36, .pointer (some ⟨g9, 4, none⟩)), (37, .pointer (some ⟨g9, 4, none⟩)), (38, .int .i64 s.y.pos), (39, .pointer (some ⟨g9, 8, none⟩)), (40, .pointer (some ⟨g9, 8, none⟩)), (41, .int .i64 s.z.pos), (42, .agg (pcs s.cell).toArray), (43, .func (.func vf) first.toArray caps.toArray), (44, .agg (pcs s.cell).toArray), (45, .bool true), (46, .bool false), (47, .bool false), (48, .agg (pcs s.cell).toArray), (49, .agg (pcs b).toArray), (50, .bool false), (51, .bool false), (52, .pointer (some ⟨g9, 0, none⟩)), (53, .pointer (some ⟨g9, 2, none⟩)), (54, .agg (tcs s.x.next).toArray), (55, .agg (a3 s).toArray), (56, .int .i64 3), (57, .bool false), (67, .int .i64 3), (68, .int .i64 2), (69, .bool true), (81, .int .i64 2)] ∧ Mem w0 w_ ((.arr g5 23 (pcs b)) :: (.arr g9 152 (a3 ⟨X1, X2, X3⟩)) :: (.arr g69 149 (tcs F3)) :: V60)) ?_ ?_
 ·refine wp_block ?_
  refine sp_ fun _ hK165 => ?_
  refine li_ 2 ?_
  refine li_ 2 ?_
  refine pt_ hK165 ?_
  refine sk_ fun _ hK166 => ?_
  refine mgStart hm160 kr_ ?_
  intro w168 hm167
  clear hm160
  refine mt_ 0 rfl (.agg (tcs F3).toArray) hm167 (fun w_ h_ => la_ 0 2 h_ Ty.ag_voxel_ray_time) ?_
  refine mk_ (i := 1) (v := .int .i64 2) rfl rfl (fun _ _ _ h => h) hm167 rfl ?_
  refine mt_ 2 rfl (.pointer (some ⟨g9, 8, none⟩)) hm167 (fun w_ h_ => iaRun (b := g9) (off := 0) (s := 4) (n := 3) (kk := .i64) (.tmp 6) (.tmp 72) 2 Ty.und_3_ray_axis kr_ rfl le_ le_ rfl (by decide)) ?_
  refine mk_ (i := 3) (v := .pointer (some ⟨g9, 10, none⟩)) rfl rfl (fun _ _ _ h => h) hm167 rfl ?_
  refine mt_ 4 rfl (.agg (tcs s.z.next).toArray) hm167 (fun w_ h_ => la_ 10 1 h_ Ty.ag_voxel_ray_time) ?_
  refine mgCall (i := 5) 85 [.agg (tcs F3).toArray, .agg (tcs s.z.next).toArray] [] [] kr_ rfl kr_ (wn rfl) rfl le_ (litArgs kr_) (before_any F3 s.z.next sF3 bz.1 _) ?_
  rintro e w169 ⟨rfl, hbz⟩
  have hm170 := hm167.below hbz
  clear hbz hm167
  refine ⟨_, rfl, hm170, ?_⟩
  refine mP rfl ?_
  rcases bool_or (tltb F3 s.z.next) with h171 | h171
  ·rw [h171]
   refine mk_ (i := 6) (v := .bool true) rfl rfl (fun _ _ _ h => h) hm170 rfl ?_
   refine mgDone kr_ ?_
   refine tn_ hK166 ?_
   refine wp_cond_true le_ ?_
   refine plStart ?_
   refine li_ 2 ?_
   refine lv_ rfl (.pointer (some ⟨g9, 8, none⟩)) (iaRun (b := g9) (off := 0) (s := 4) (n := 3) (kk := .i64) (.tmp 6) (.tmp 78) 2 Ty.und_3_ray_axis kr_ rfl le_ le_ rfl (by decide)) ?_
   refine plCall (i := 2) 86 [.pointer (some ⟨g9, 8, none⟩)] [] [] rfl kr_ (wn rfl) rfl le_ (litArgs kr_) (cross2_any g9 (⟨X1, X2, s.z⟩) (by have h_ := bz.2.1; show -1073741824 ≤ s.z.pos ∧ s.z.pos ≤ 1073741824; omega) bz.2.2 bz.1.1 (Mem.front 1 hm170 rfl)) ?_
   rintro e w172 ⟨rfl, hm173⟩
   replace hm173 := Mem.back (M := ((.arr g5 23 (pcs b)) :: (.arr g9 152 (a3 ⟨X1, X2, s.z⟩)) :: (.arr g69 149 (tcs F3)) :: V60)) 1 hm173
   simp only [List.set_cons_succ, List.set_cons_zero] at hm173
   clear hm170
   refine ⟨_, rfl, ?_⟩
   refine qP rfl ?_
   refine plD ?_
   refine inBlock_normal ?_
   refine then_normal ?_
   have e_ : X3 = s.z.inc := by rw [← hX3, over_no h171]
   exact ⟨⟨litSize, rfl, fo_⟩, (by rw [e_]; exact hm173.sub (by simp [List.sublist_cons_iff]))⟩
  rw [h171]
  refine mk_ (i := 6) (v := .bool false) rfl rfl (fun _ _ _ h => h) hm170 rfl ?_
  refine mgDone kr_ ?_
  refine tn_ hK166 ?_
  refine wp_cond_false le_ ?_
  refine wp_skip ?_
  refine inBlock_normal ?_
  refine then_normal ?_
  have e_ : X3 = s.z := by rw [← hX3, over_yes h171]
  exact ⟨⟨litSize, rfl, fo_⟩, (by rw [e_]; exact hm170.sub (by simp [List.sublist_cons_iff]))⟩
 clear hm160
 intro a176 w174 hI_
 obtain ⟨hF_, hm175⟩ := hI_
 obtain ⟨X177, rfl⟩ := frLit hF_
 clear hF_
 refine plStart ?_
 refine li_ 3 ?_
 refine li_ 3 ?_
 refine plD ?_
 refine then_normal (roundsNext ?_)
 refine sp_ fun _ hK178 => ?_
 refine lF_ ?_
 refine pt_ hK178 ?_
 refine sk_ fun _ hK179 => ?_
 refine wp_cond_false le_ ?_
 refine wp_exit ?_
 refine then_exit ?_
 refine then_exit ?_
 refine inBlock_exit ?_
 refine inBlock_normal ?_
 refine then_normal ?_
 rw [if_neg h67] at hi
 have hg_ := go_ok hs h67
 have hmE_ : Mem w0 w174 ((.arr g5 23 (pcs b)) :: (.arr g9 152 (a3 s.go)) :: V60) := by rw [hgo]; exact hm175.sub (by simp [List.sublist_cons_iff])
 exact ⟨_, by omega, (i + 1), s.go, V60, rfl, hg_.1, (drop_get hi).2, (hc62 h66), ⟨litSize, rfl, fo_⟩, hmE_⟩
end Go.Proofs.YtbpihalphhoiaaaGreatDoor
