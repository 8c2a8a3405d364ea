/-
  PC: several texts in one. No statement is proved here.
-/
import Derived.Test.YtkmhjgdpkddbnaaPA
import Derived.Lib.Strings
import Derived.Lib.Slices
import Derived.Lib.Small
import Derived.Lib.Walk
import Derived.Lib.BitFns
set_option linter.unusedVariables false
set_option linter.unusedSimpArgs false
namespace Go.Proofs.Ytkmhjgdpkddbnaa
/-- A point. -/
structure Pt where
  x : Int
  y : Int
  z : Int
deriving DecidableEq
def Pt.at (p : Pt) : Nat → Int
  | 0 => p.x
  | 1 => p.y
  | _ => p.z
/-- The code of the low l bits of three numbers. -/
def encL : Nat → Nat → Nat → Nat → Nat
  | 0, _, _, _ => 0
  | l + 1, x, y, z => 8 * encL l (x / 2) (y / 2) (z / 2) + (x % 2 + 2 * (y % 2) + 4 * (z % 2))
/-- Every third bit of a code, l of them. -/
def decL : Nat → Nat → Nat
  | 0, _ => 0
  | l + 1, n => 2 * decL l (n / 8) + n % 2
def dig (x y z i : Nat) : Nat := x / 2 ^ i % 2 + 2 * (y / 2 ^ i % 2) + 4 * (z / 2 ^ i % 2)
theorem dig_half (x y z i : Nat) : dig (x / 2) (y / 2) (z / 2) i = dig x y z (i + 1) := by
  unfold dig
  rw [Nat.div_div_eq_div_mul, Nat.div_div_eq_div_mul, Nat.div_div_eq_div_mul, Nat.pow_succ, Nat.mul_comm (2 ^ i) 2]
theorem encL_lt : ∀ (l x y z : Nat), encL l x y z < 8 ^ l
  | 0, _, _, _ => by simp [encL]
  | l + 1, x, y, z => by
    have h := encL_lt l (x / 2) (y / 2) (z / 2)
    rw [Nat.pow_succ]
    show 8 * encL l (x / 2) (y / 2) (z / 2) + (x % 2 + 2 * (y % 2) + 4 * (z % 2)) < _
    omega
theorem encL_top : ∀ (l x y z : Nat), encL (l + 1) x y z = encL l x y z + 8 ^ l * dig x y z l
  | 0, x, y, z => by simp [encL, dig]
  | l + 1, x, y, z => by
    have h := encL_top l (x / 2) (y / 2) (z / 2)
    rw [dig_half] at h
    rw [encL, h]
    show _ = 8 * encL l (x / 2) (y / 2) (z / 2) + (x % 2 + 2 * (y % 2) + 4 * (z % 2)) + _
    rw [Nat.pow_succ, Nat.mul_add, Nat.mul_comm (8 ^ l) 8, Nat.mul_assoc]
    omega
theorem decL_lt : ∀ (l n : Nat), decL l n < 2 ^ l
  | 0, _ => by simp [decL]
  | l + 1, n => by
    have h := decL_lt l (n / 8)
    rw [Nat.pow_succ]
    show 2 * decL l (n / 8) + n % 2 < _
    omega
theorem decL_top : ∀ (l n : Nat), decL (l + 1) n = decL l n + 2 ^ l * (n / 8 ^ l % 2)
  | 0, n => by simp [decL]
  | l + 1, n => by
    have h := decL_top l (n / 8)
    rw [decL, h, Nat.div_div_eq_div_mul]
    show _ = 2 * decL l (n / 8) + n % 2 + _
    rw [Nat.pow_succ 8, Nat.pow_succ 2, Nat.mul_comm (8 ^ l) 8, Nat.mul_comm (2 ^ l) 2, Nat.mul_add, Nat.mul_assoc]
    omega
theorem dec_enc : ∀ (l x y z : Nat), decL l (encL l x y z) = x % 2 ^ l ∧ decL l (encL l x y z / 2) = y % 2 ^ l ∧ decL l (encL l x y z / 4) = z % 2 ^ l
  | 0, x, y, z => by simp [decL, Nat.mod_one]
  | l + 1, x, y, z => by
    obtain ⟨h1, h2, h3⟩ := dec_enc l (x / 2) (y / 2) (z / 2)
    rw [encL]
    generalize encL l (x / 2) (y / 2) (z / 2) = E at *
    have m : ∀ a : Nat, a % 2 ^ (l + 1) = 2 * (a / 2 % 2 ^ l) + a % 2 := fun a => by
      rw [Nat.pow_succ, Nat.mul_comm (2 ^ l) 2, Nat.mod_mul]
      omega
    refine ⟨?_, ?_, ?_⟩
    · rw [decL, m, ← h1]
      rw [show (8 * E + (x % 2 + 2 * (y % 2) + 4 * (z % 2))) / 8 = E by omega]
      omega
    · rw [decL, m, ← h2]
      rw [show (8 * E + (x % 2 + 2 * (y % 2) + 4 * (z % 2))) / 2 / 8 = E / 2 by omega]
      omega
    · rw [decL, m, ← h3]
      rw [show (8 * E + (x % 2 + 2 * (y % 2) + 4 * (z % 2))) / 4 / 8 = E / 4 by omega]
      omega
/-- A point of the world. -/
def Pt.In (p : Pt) : Prop := (0 ≤ p.x ∧ p.x < 16384) ∧ (0 ≤ p.y ∧ p.y < 16384) ∧ (0 ≤ p.z ∧ p.z < 16384)
instance (p : Pt) : Decidable p.In := by unfold Pt.In; infer_instance
theorem Pt.In.at_ {p : Pt} (h : p.In) (k : Nat) : 0 ≤ p.at k ∧ p.at k < 16384 := by
  unfold Pt.at
  split
  · exact h.1
  · exact h.2.1
  · exact h.2.2
theorem Pt.In.of {p : Pt} (h : ∀ k, k < 3 → 0 ≤ p.at k ∧ p.at k < 16384) : p.In := ⟨h 0 (by omega), h 1 (by omega), h 2 (by omega)⟩
/-- Encode. -/
def mEnc (p : Pt) : Int := if p.In then (encL 14 p.x.toNat p.y.toNat p.z.toNat : Int) else -1
/-- Decode. -/
def mDecP (n : Nat) : Pt := ⟨(decL 14 n : Int), (decL 14 (n / 2) : Int), (decL 14 (n / 4) : Int)⟩
def mDec (n : Int) : Pt × Bool := if 0 ≤ n ∧ n < 4398046511104 then (mDecP n.toNat, true) else (⟨0, 0, 0⟩, false)
theorem mEnc_in {p : Pt} (h : p.In) : 0 ≤ mEnc p ∧ mEnc p < 4398046511104 := by
  have h1 := encL_lt 14 p.x.toNat p.y.toNat p.z.toNat
  unfold mEnc
  rw [if_pos h]
  omega
theorem mEnc_out {p : Pt} (h : ¬ p.In) : mEnc p = -1 := by unfold mEnc; rw [if_neg h]
theorem mDec_enc {p : Pt} (h : p.In) : mDec (mEnc p) = (p, true) := by
  have hr := mEnc_in h
  obtain ⟨h1, h2, h3⟩ := dec_enc 14 p.x.toNat p.y.toNat p.z.toNat
  unfold mDec
  rw [if_pos hr]
  unfold mEnc
  rw [if_pos h, Int.toNat_natCast]
  unfold mDecP
  rw [h1, h2, h3]
  obtain ⟨x, y, z⟩ := p
  obtain ⟨a, b, c⟩ := h
  simp only at *
  rw [Nat.mod_eq_of_lt (by omega), Nat.mod_eq_of_lt (by omega), Nat.mod_eq_of_lt (by omega), Int.toNat_of_nonneg a.1, Int.toNat_of_nonneg b.1, Int.toNat_of_nonneg c.1]
end Go.Proofs.Ytkmhjgdpkddbnaa
namespace Go.Proofs.Ytkmhjgdpkddbnaa
open Go.RowKit
set_option linter.unusedVariables false
/-- Results: a struct or array variable, and a slot. -/
theorem res_cellslot {P : Program} {w : World} {fn : Func} {p q : Tmp} {ty : TypeId} {z : Array Value} {n b : Nat} (cs : List Value) (h : fn.results = #[.cell p ty, .tmp q]) (T : AgTy P ty z n) (tmps : Array Value) {v : Value}
    (hp : tmps.getD p undef = .pointer (some ⟨b, 0, none⟩)) (hq : tmps.getD q undef = v) (hl : cs.length = n) {t : TypeId} (hA : Arr w b t cs) :
    (results fn tmps).run P w = .ok (.tuple #[.agg cs.toArray, v]) w := by
  have hr := run_loadAgg (P := P) (w := w) T b 0 cs hl (fun j u hu => by rw [Nat.zero_add]; exact hA.cell hu)
  have hp' : tmps[p]?.getD undef = .pointer (some ⟨b, 0, none⟩) := by simpa using hp
  have hq' : tmps[q]?.getD undef = v := by simpa using hq
  simp only [results, h]
  simp [hp', hq', asAddr, hr]
def pcs (p : Pt) : List Value := [.int .i64 p.x, .int .i64 p.y, .int .i64 p.z]
theorem pcs_get (p : Pt) {k : Nat} (h : k < 3) : (pcs p)[k]? = some (.int .i64 (p.at k)) := by
  rcases (by omega : k = 0 ∨ k = 1 ∨ k = 2) with rfl | rfl | rfl <;> rfl
theorem pcs_one (p : Pt) : ∀ u ∈ pcs p, u.oneCell' = true := by
  intro u hu
  unfold pcs at hu
  simp only [List.mem_cons, List.not_mem_nil, or_false] at hu
  rcases hu with rfl | rfl | rfl <;> rfl
def p0 : Pt := ⟨0, 0, 0⟩
theorem Try.ag_pt : AgTy Try.prog 23 (pcs p0).toArray 3 := ⟨by kernel_rfl, by kernel_rfl, by kernel_rfl⟩
theorem Try.ag_i3 : AgTy Try.prog 60 (pcs p0).toArray 3 := ⟨by kernel_rfl, by kernel_rfl, by kernel_rfl⟩
theorem Try.und_i3 : Try.prog.underlying 60 = some (.array 3 3) := by kernel_rfl
def RetP (w : World) (p : Pt) (e : Ending) (w' : World) : Prop := e = .returned (.agg (pcs p).toArray) ∧ Below w.heap.size w w'
def RetI (w : World) (n : Int) (e : Ending) (w' : World) : Prop := e = .returned (.int .i64 n) ∧ Below w.heap.size w w'
def RetB (w : World) (b : Bool) (e : Ending) (w' : World) : Prop := e = .returned (.bool b) ∧ Below w.heap.size w w'
set_option maxRecDepth 100000 in
theorem array_any (p : Pt) (w : World) : Calls Try.prog 76 #[.agg (pcs p).toArray] w (RetP w p) := by
  go_enter Try.func76, Try.ntmps76
  go_wp2_with (with_reducible refine bxArr (cs := pcs p) (.tmp 0) (wn rfl) rfl rfl ?_)
  intro w1 h1 b1
  go_wp2_with (with_reducible refine alArr (z := pcs p0) Try.ag_i3 (wn rfl) rfl ?_)
  intro w2 h2 b2
  have l1 := h1.lt
  have hs := b1.size
  replace h1 := h1.below b2 l1
  have hb := b1.trans (b2.mono hs)
  clear b1 b2
  have c0 := h1.cell (i := 0) (v := .int .i64 p.x) rfl
  have c1 := h1.cell (i := 1) (v := .int .i64 p.y) rfl
  have c2 := h1.cell (i := 2) (v := .int .i64 p.z) rfl
  go_wp2_with (with_reducible refine stArrG (cs := pcs p) (.tmp 2) (.tmp 9) Try.ag_i3 (wn rfl) rfl rfl (by kernel_rfl) h2 rfl rfl (pcs_one _) ?_)
  intro w3 h3 hg
  go_wp2_with fail
  refine bodyPost_ret (v := .agg (pcs p).toArray) ?_ rfl ⟨rfl, hb.grown hg hb.size (fun k e => by cases e; exact hs)⟩
  exact res_cell1 _ Try.results76 Try.ag_i3 _ rfl rfl (fun j u hu => by rw [Nat.zero_add]; exact h3.cell hu)
set_option maxRecDepth 100000 in
theorem point_any (p : Pt) (w : World) : Calls Try.prog 77 #[.agg (pcs p).toArray] w (RetP w p) := by
  go_enter Try.func77, Try.ntmps77
  go_wp2_with (with_reducible refine bxArr (cs := pcs p) (.tmp 0) (wn rfl) rfl rfl ?_)
  intro w1 h1 b1
  go_wp2_with (with_reducible refine alArr (z := pcs p0) Try.ag_pt (wn rfl) rfl ?_)
  intro w2 h2 b2
  have l1 := h1.lt
  have hs := b1.size
  replace h1 := h1.below b2 l1
  have hb := b1.trans (b2.mono hs)
  clear b1 b2
  have c0 := h1.cell (i := 0) (v := .int .i64 p.x) rfl
  have c1 := h1.cell (i := 1) (v := .int .i64 p.y) rfl
  have c2 := h1.cell (i := 2) (v := .int .i64 p.z) rfl
  go_wp2_with (with_reducible refine stArrG (cs := pcs p) (.tmp 2) (.tmp 9) Try.ag_pt (wn rfl) rfl rfl (by kernel_rfl) h2 rfl rfl (pcs_one _) ?_)
  intro w3 h3 hg
  go_wp2_with fail
  refine bodyPost_ret (v := .agg (pcs p).toArray) ?_ rfl ⟨rfl, hb.grown hg hb.size (fun k e => by cases e; exact hs)⟩
  exact res_cell1 _ Try.results77 Try.ag_pt _ rfl rfl (fun j u hu => by rw [Nat.zero_add]; exact h3.cell hu)
set_option maxRecDepth 100000 in
set_option maxHeartbeats 1000000 in
theorem inside_any (p : Pt) (w : World) : Calls Try.prog 75 #[.agg (pcs p).toArray] w (RetB w (decide p.In)) := by
  go_enter Try.func75, Try.ntmps75
  go_wp2_with (with_reducible refine bxArr (cs := pcs p) (.tmp 0) (wn rfl) rfl rfl ?_)
  intro w1 h1 b1
  go_wp2_with (with_reducible refine ldArr (.tmp 1) Try.ag_pt (wn rfl) rfl rfl rfl h1 ?_)
  refine (array_any p _).mono ?_
  rintro e w2 ⟨rfl, b2⟩
  have hb := b1.trans (b2.mono b1.size)
  clear b1 b2 h1
  go_wp2_with fail
  go_loopw [7] (fun c wr => ∃ k : Nat, k ≤ 3 ∧ c = .int .i64 (k : Int) ∧ Hid (∀ j, j < k → 0 ≤ p.at j ∧ p.at j < 16384) ∧ wr = w2) (fun c _ => 3 - (intOf c).toNat)
  case atStart => exact ⟨0, by omega, rfl, Lib.hid (fun j h => by omega), rfl⟩
  case round =>
    obtain ⟨k, hk, rfl, HK, rfl⟩ := hrel
    by_cases hlt : k < 3
    · have hg := pcs_get p hlt
      have HX : Hid (0 ≤ p.at k → p.at k < 16384 → ∀ j, j < k + 1 → 0 ≤ p.at j ∧ p.at j < 16384) := Lib.hid (fun e1 e2 j h => by
        by_cases hjk : j = k
        · subst hjk; exact ⟨e1, e2⟩
        · exact HK.out j (by omega))
      have HB : Hid (¬ (0 ≤ p.at k ∧ p.at k < 16384) → decide p.In = false) := Lib.hid (fun h => by
        rw [decide_eq_false_iff_not]
        exact fun hi => h (hi.at_ k))
      clear HK
      generalize p.at k = v at *
      by_cases h0 : v < 0
      · go_wp2_with (with_reducible refine ixArr (.tmp 6) (.tmp 7) k _ Try.und_i3 Try.und_int Try.one_int (wn rfl) rfl rfl rfl rfl hg rfl ?_)
        go_ret
        exact ⟨by rw [HB.out (by omega)]; rfl, hb⟩
      · by_cases h16 : v < 16384
        · have HX2 := Lib.hid (HX.out (by omega) (by omega))
          go_wp2_with (with_reducible refine ixArr (.tmp 6) (.tmp 7) k _ Try.und_i3 Try.und_int Try.one_int (wn rfl) rfl rfl rfl rfl hg rfl ?_)
          refine ⟨⟨k + 1, by omega, by simp, HX2, trivial⟩, ?_⟩
          simp [intOf]; omega
        · go_wp2_with (with_reducible refine ixArr (.tmp 6) (.tmp 7) k _ Try.und_i3 Try.und_int Try.one_int (wn rfl) rfl rfl rfl rfl hg rfl ?_)
          go_ret
          exact ⟨by rw [HB.out (by omega)]; rfl, hb⟩
    · obtain rfl : k = 3 := by omega
      have HI : Hid (decide p.In = true) := Lib.hid (by rw [decide_eq_true_iff]; exact Pt.In.of HK.out)
      go_wp2_with fail
      go_ret
      exact ⟨by rw [HI.out]; rfl, hb⟩
end Go.Proofs.Ytkmhjgdpkddbnaa
namespace Go.Proofs.Ytkmhjgdpkddbnaa
open Go.RowKit
set_option linter.unusedVariables false
/-- The digits of the first k coordinates. -/
def digTo (x y z i : Nat) : Nat → Nat
  | 0 => 0
  | 1 => x / 2 ^ i % 2
  | 2 => x / 2 ^ i % 2 + 2 * (y / 2 ^ i % 2)
  | _ => dig x y z i
theorem digTo_lt (x y z i k : Nat) (h : k < 3) : digTo x y z i k < 2 ^ k := by
  rcases (by omega : k = 0 ∨ k = 1 ∨ k = 2) with rfl | rfl | rfl <;> simp [digTo] <;> omega
theorem digTo_succ (p : Pt) (i k : Nat) (h : k < 3) : digTo p.x.toNat p.y.toNat p.z.toNat i (k + 1) = digTo p.x.toNat p.y.toNat p.z.toNat i k + 2 ^ k * ((p.at k).toNat / 2 ^ i % 2) := by
  rcases (by omega : k = 0 ∨ k = 1 ∨ k = 2) with rfl | rfl | rfl <;> simp [digTo, Pt.at, dig]
theorem mo_or (n j b : Nat) (hn : n < 2 ^ j) (hb : b < 2) (hj : j < 60) : bits .or .i64 (n : Int) (wrap64 ((b : Int) * 2 ^ j)) = ((n + 2 ^ j * b : Nat) : Int) := by
  have hp : 2 ^ j ≤ 2 ^ 59 := Nat.pow_le_pow_right (by decide) (by omega)
  have hpp : (2 : Int) ^ j = ((2 ^ j : Nat) : Int) := by simp
  have hw : wrap64 ((b : Int) * 2 ^ j) = ((2 ^ j * b : Nat) : Int) := by
    rw [hpp, ← Int.natCast_mul, Nat.mul_comm]
    have : 2 ^ j * b ≤ 2 ^ j * 1 := Nat.mul_le_mul_left _ (by omega)
    unfold wrap64
    omega
  have hm : 2 ^ j * b ≤ 2 ^ j * 1 := Nat.mul_le_mul_left _ (by omega)
  rw [hw, i64_or_n n (2 ^ j * b) (by omega) (by omega)]
  congr 1
  rw [Nat.or_comm, ← Nat.two_pow_add_eq_or_of_lt hn b]
  omega
set_option maxRecDepth 100000 in
set_option maxHeartbeats 2000000 in
theorem encode_any (p : Pt) (w : World) : Calls Try.prog 72 #[.agg (pcs p).toArray] w (RetI w (mEnc p)) := by
  have hin := inside_any p
  by_cases hp : p.In
  · rw [decide_eq_true hp] at hin
    have hE : mEnc p = ((encL 14 p.x.toNat p.y.toNat p.z.toNat : Nat) : Int) := by unfold mEnc; rw [if_pos hp]
    rw [hE]
    have HIN := Lib.hid hin
    have HAR := Lib.hid (array_any p)
    have HP := Lib.hid hp
    clear hin hE
    go_enter Try.func72, Try.ntmps72
    go_wp2_with (with_reducible refine bxArr (cs := pcs p) (.tmp 0) (wn rfl) rfl rfl ?_)
    intro w1 h1 hb
    go_wp2_with (with_reducible refine ldArr (.tmp 1) Try.ag_pt (wn rfl) rfl rfl rfl h1 ?_)
    refine (HIN.out _).mono ?_
    rintro e w2 ⟨rfl, b2⟩
    replace h1 := h1.below b2 h1.lt
    replace hb := hb.trans (b2.mono hb.size)
    clear b2
    go_wp2_with fail
    go_loopw [3, 10] (fun n i wr => ∃ (k N : Nat), k ≤ 14 ∧ i = .int .i64 (k : Int) ∧ n = .int .i64 (N : Int) ∧ Hid (N = encL k p.x.toNat p.y.toNat p.z.toNat) ∧ Arr wr w.heap.size 23 (pcs p) ∧ Below w.heap.size w wr) (fun _ i _ => 14 - (intOf i).toNat)
    case atStart => exact ⟨0, 0, by omega, rfl, rfl, Lib.hid rfl, h1, hb⟩
    case round =>
      clear h1 hb
      obtain ⟨i, N, hk, rfl, rfl, HN, h1, hb⟩ := hrel
      by_cases hlt : i < 14
      · go_wp2_with (with_reducible refine ldArr (.tmp 1) Try.ag_pt (wn rfl) rfl rfl rfl h1 ?_)
        refine (HAR.out _).mono ?_
        rintro e w3 ⟨rfl, b3⟩
        replace h1 := h1.below b3 h1.lt
        replace hb := hb.trans (b3.mono hb.size)
        clear b3
        go_wp2_with fail
        go_loopw [3, 15] (fun n kk wi => ∃ (k M : Nat), k ≤ 3 ∧ kk = .int .i64 (k : Int) ∧ n = .int .i64 (M : Int) ∧ Hid (M = encL i p.x.toNat p.y.toNat p.z.toNat + 8 ^ i * digTo p.x.toNat p.y.toNat p.z.toNat i k) ∧ Arr wi w.heap.size 23 (pcs p) ∧ Below w.heap.size w wi) (fun _ kk _ => 3 - (intOf kk).toNat)
        case atStart => exact ⟨0, N, by omega, rfl, rfl, Lib.hid (by rw [HN.out]; rfl), h1, hb⟩
        case round =>
          clear h1 hb HN
          obtain ⟨k, M, hk3, rfl, rfl, HM, h1, hb⟩ := hrel
          by_cases h3 : k < 3
          · have hg := pcs_get p h3
            have hc := HP.out.at_ k
            obtain ⟨c, hcv⟩ : ∃ c : Nat, p.at k = (c : Int) := ⟨(p.at k).toNat, by omega⟩
            obtain ⟨j, hj⟩ : ∃ j, j = 3 * i + k := ⟨_, rfl⟩
            have hji : (3 * (i : Int) + (k : Int)) = (j : Int) := by omega
            have HB := Lib.hid (show bits .and .i64 ((c : Int) / 2 ^ i) 1 = ((c / 2 ^ i % 2 : Nat) : Int) from by
              have h1 : ((c : Int) / 2 ^ i) = ((c / 2 ^ i : Nat) : Int) := by simp
              have h2 : c / 2 ^ i ≤ c := Nat.div_le_self _ _
              have h3 := i64_and_n (c / 2 ^ i) 1 (by omega) (by omega)
              rw [Nat.and_one_is_mod] at h3
              rw [h1]
              exact h3)
            have hbl : c / 2 ^ i % 2 < 2 := Nat.mod_lt _ (by decide)
            have hML : M < 2 ^ j := by
              rw [HM.out, hj, Nat.pow_add, Nat.pow_mul]
              have e1 := encL_lt i p.x.toNat p.y.toNat p.z.toNat
              have e2 := digTo_lt p.x.toNat p.y.toNat p.z.toNat i k h3
              have e3 : (2 ^ 3) ^ i * (digTo p.x.toNat p.y.toNat p.z.toNat i k + 1) ≤ (2 ^ 3) ^ i * 2 ^ k := Nat.mul_le_mul_left _ e2
              rw [Nat.mul_add, Nat.mul_one] at e3
              rw [show (2 : Nat) ^ 3 = 8 by decide] at e3 ⊢
              omega
            have HOR := Lib.hid (mo_or M j (c / 2 ^ i % 2) hML hbl (by omega))
            have HM2 : Hid (M + 2 ^ j * (c / 2 ^ i % 2) = encL i p.x.toNat p.y.toNat p.z.toNat + 8 ^ i * digTo p.x.toNat p.y.toNat p.z.toNat i (k + 1)) := Lib.hid (by
              rw [HM.out, digTo_succ p i k h3, hcv, Int.toNat_natCast, hj, Nat.pow_add, Nat.pow_mul, show (2 : Nat) ^ 3 = 8 by decide, Nat.mul_add, Nat.mul_assoc]
              omega)
            rw [hcv] at hg
            clear HM hc hcv hML hj
            generalize c / 2 ^ i % 2 = b at *
            go_wp2_with (with_reducible refine ixArr (.tmp 14) (.tmp 15) k _ Try.und_i3 Try.und_int Try.one_int (wn rfl) rfl rfl rfl rfl hg rfl ?_)
            rw [HB.out]
            rw [HOR.out]
            refine ⟨⟨k + 1, M + 2 ^ j * b, by omega, by simp, rfl, HM2, h1, hb⟩, ?_⟩
            simp [intOf]; omega
          · obtain rfl : k = 3 := by omega
            have HN2 : Hid (M = encL (i + 1) p.x.toNat p.y.toNat p.z.toNat) := Lib.hid (by rw [HM.out, encL_top]; rfl)
            go_wp2_with fail
            refine ⟨⟨i + 1, M, by omega, by simp, rfl, HN2, h1, hb⟩, ?_⟩
            simp [intOf]; omega
      · obtain rfl : i = 14 := by omega
        go_wp2_with fail
        go_ret
        exact ⟨by rw [← HN.out]; rfl, hb⟩
  · rw [decide_eq_false hp] at hin
    rw [mEnc_out hp]
    go_enter Try.func72, Try.ntmps72
    go_wp2_with (with_reducible refine bxArr (cs := pcs p) (.tmp 0) (wn rfl) rfl rfl ?_)
    intro w1 h1 hb
    go_wp2_with (with_reducible refine ldArr (.tmp 1) Try.ag_pt (wn rfl) rfl rfl rfl h1 ?_)
    refine (hin _).mono ?_
    rintro e w2 ⟨rfl, b2⟩
    replace hb := hb.trans (b2.mono hb.size)
    clear b2
    go_wp2_with fail
    go_ret
    exact ⟨rfl, hb⟩
end Go.Proofs.Ytkmhjgdpkddbnaa
namespace Go.Proofs.Ytkmhjgdpkddbnaa
open Go.RowKit
set_option linter.unusedVariables false
set_option linter.unusedSimpArgs false
def RetPB (w : World) (r : Pt × Bool) (e : Ending) (w' : World) : Prop := e = .returned (.tuple #[.agg (pcs r.1).toArray, .bool r.2]) ∧ Below w.heap.size w w'
end Go.Proofs.Ytkmhjgdpkddbnaa
namespace Go.Proofs.Ytkmhjgdpkddbnaa
open Go.RowKit
set_option linter.unusedVariables false
/-- The numbers when i bits, and one more of the first k, are laid. -/
def decT (m i k : Nat) : Pt := ⟨(decL (if 0 < k then i + 1 else i) m : Int), (decL (if 1 < k then i + 1 else i) (m / 2) : Int), (decL (if 2 < k then i + 1 else i) (m / 4) : Int)⟩
theorem decT_at (m i k : Nat) (h : k < 3) : (decT m i k).at k = (decL i (m / 2 ^ k) : Int) := by
  rcases (by omega : k = 0 ∨ k = 1 ∨ k = 2) with rfl | rfl | rfl <;> simp [decT, Pt.at]
theorem decT_set (m i k : Nat) (h : k < 3) : (pcs (decT m i k)).set k (.int .i64 ((decL (i + 1) (m / 2 ^ k) : Nat) : Int)) = pcs (decT m i (k + 1)) := by
  rcases (by omega : k = 0 ∨ k = 1 ∨ k = 2) with rfl | rfl | rfl <;> simp [decT, pcs]
theorem decT_next (m i : Nat) : decT m i 3 = decT m (i + 1) 0 := by simp [decT]
theorem decT_end (m : Nat) : decT m 14 0 = mDecP m := by simp [decT, mDecP]
set_option maxRecDepth 100000 in
set_option maxHeartbeats 2000000 in
theorem decode_any (n : Int) (w : World) : Calls Try.prog 73 #[.int .i64 n] w (RetPB w (mDec n)) := by
  unfold mDec
  by_cases h0 : n < 0
  · rw [if_neg (by omega)]
    go_enter Try.func73, Try.ntmps73
    go_wp2_with (with_reducible refine alArr (z := pcs p0) Try.ag_pt (wn rfl) rfl ?_)
    intro w1 h2 hb
    go_wp2_with (with_reducible refine stArrG (cs := pcs p0) (.tmp 2) (.tmp 13) Try.ag_pt (wn rfl) rfl rfl (by kernel_rfl) h2 rfl rfl (pcs_one _) ?_)
    intro w2 h2 hg
    replace hb := hb.grown hg hb.size (fun k e => by cases e; exact Nat.le_refl _)
    go_wp2_with fail
    exact bodyPost_ret (res_cellslot (v := .bool false) (pcs p0) Try.results73 Try.ag_pt _ rfl rfl rfl h2) rfl ⟨rfl, hb⟩
  · by_cases hbig : 4398046511104 ≤ n
    · rw [if_neg (by omega)]
      go_enter Try.func73, Try.ntmps73
      go_wp2_with (with_reducible refine alArr (z := pcs p0) Try.ag_pt (wn rfl) rfl ?_)
      intro w1 h2 hb
      go_wp2_with (with_reducible refine stArrG (cs := pcs p0) (.tmp 2) (.tmp 13) Try.ag_pt (wn rfl) rfl rfl (by kernel_rfl) h2 rfl rfl (pcs_one _) ?_)
      intro w2 h2 hg
      replace hb := hb.grown hg hb.size (fun k e => by cases e; exact Nat.le_refl _)
      go_wp2_with fail
      exact bodyPost_ret (res_cellslot (v := .bool false) (pcs p0) Try.results73 Try.ag_pt _ rfl rfl rfl h2) rfl ⟨rfl, hb⟩
    · rw [if_pos (by omega)]
      obtain ⟨m, rfl⟩ : ∃ m : Nat, n = (m : Int) := ⟨n.toNat, by omega⟩
      rw [Int.toNat_natCast]
      have hm : m < 4398046511104 := by omega
      clear h0 hbig
      go_enter Try.func73, Try.ntmps73
      go_wp2_with (with_reducible refine alArr (z := pcs p0) Try.ag_pt (wn rfl) rfl ?_)
      intro w1 h2 hb
      go_wp2_with (with_reducible refine alArr (z := pcs p0) Try.ag_i3 (wn rfl) rfl ?_)
      intro w2 h4 b2
      have l2 := h2.lt
      replace h2 := h2.below b2 l2
      have ls := hb.size
      have hne : w.heap.size ≠ w1.heap.size := by omega
      replace hb := hb.trans (b2.mono ls)
      clear b2 l2
      generalize w1.heap.size = g4 at *
      go_wp2_with fail
      go_loopw [14] (fun i wr => ∃ k : Nat, k ≤ 14 ∧ i = .int .i64 (k : Int) ∧ Arr wr g4 60 (pcs (decT m k 0)) ∧ Arr wr w.heap.size 23 (pcs p0) ∧ Below w.heap.size w wr) (fun i _ => 14 - (intOf i).toNat)
      case atStart => exact ⟨0, by omega, rfl, h4, h2, hb⟩
      case round =>
        clear h2 h4 hb
        obtain ⟨i, hk, rfl, h4, h2, hb⟩ := hrel
        by_cases hlt : i < 14
        · go_wp2_with fail
          go_loopw [17] (fun kk wi => ∃ k : Nat, k ≤ 3 ∧ kk = .int .i64 (k : Int) ∧ Arr wi g4 60 (pcs (decT m i k)) ∧ Arr wi w.heap.size 23 (pcs p0) ∧ Below w.heap.size w wi) (fun kk _ => 3 - (intOf kk).toNat)
          case atStart => exact ⟨0, by omega, rfl, h4, h2, hb⟩
          case round =>
            clear h2 h4 hb
            obtain ⟨k, hk3, rfl, h4, h2, hb⟩ := hrel
            by_cases h3 : k < 3
            · have hg := pcs_get (decT m i k) h3
              rw [decT_at m i k h3] at hg
              have hset := decT_set m i k h3
              have htop := decL_top i (m / 2 ^ k)
              have hlow := decL_lt i (m / 2 ^ k)
              have hbit : m / 2 ^ k / 8 ^ i % 2 = m / 2 ^ (3 * i + k) % 2 := by
                rw [Nat.div_div_eq_div_mul, Nat.pow_add, Nat.pow_mul, show (2 : Nat) ^ 3 = 8 by decide, Nat.mul_comm]
              rw [hbit] at htop
              obtain ⟨j, hj⟩ : ∃ j, j = 3 * i + k := ⟨_, rfl⟩
              have hji : (3 * (i : Int) + (k : Int)) = (j : Int) := by omega
              rw [← hj] at htop
              have hbl : m / 2 ^ j % 2 < 2 := Nat.mod_lt _ (by decide)
              have HB := Lib.hid (show bits .and .i64 ((m : Int) / 2 ^ j) 1 = ((m / 2 ^ j % 2 : Nat) : Int) from by
                have h1 : ((m : Int) / 2 ^ j) = ((m / 2 ^ j : Nat) : Int) := by simp
                have h2 : m / 2 ^ j ≤ m := Nat.div_le_self _ _
                have h3 := i64_and_n (m / 2 ^ j) 1 (by omega) (by omega)
                rw [Nat.and_one_is_mod] at h3
                rw [h1]
                exact h3)
              have HOR := Lib.hid (mo_or (decL i (m / 2 ^ k)) i (m / 2 ^ j % 2) hlow hbl (by omega))
              rw [← htop] at HOR
              have hc := h4.cell hg
              have hf := h4.thaw k
              have h4s := h4.set k (.int .i64 ((decL (i + 1) (m / 2 ^ k) : Nat) : Int))
              rw [hset] at h4s
              have h2s := h2.other (fun e => hne e.symm) k (.int .i64 ((decL (i + 1) (m / 2 ^ k) : Nat) : Int))
              have hbs := hb.setCell (p := ⟨g4, k, none⟩) ls (.int .i64 ((decL (i + 1) (m / 2 ^ k) : Nat) : Int))
              have hjl : j < 42 := by omega
              clear hg hset htop hlow hbit hj
              generalize decL i (m / 2 ^ k) = a at *
              generalize decL (i + 1) (m / 2 ^ k) = a2 at *
              go_wp2_with fail
              go_region
              rw [HB.out, HOR.out]
              have h4d := h4s.drew
              have h2d := h2s.drew
              have hbd := hbs.drew
              clear hc hf h4 h2 hb h4s h2s hbs
              go_wp2_with fail
              refine ⟨⟨k + 1, by omega, by simp, h4d, h2d, hbd⟩, ?_⟩
              simp [intOf]; omega
            · obtain rfl : k = 3 := by omega
              rw [decT_next] at h4
              go_wp2_with fail
              refine ⟨⟨i + 1, by omega, by simp, h4, h2, hb⟩, ?_⟩
              simp [intOf]; omega
        · obtain rfl : i = 14 := by omega
          rw [decT_end] at h4
          go_wp2_with (with_reducible refine ldArr (.tmp 4) Try.ag_i3 (wn rfl) rfl rfl rfl h4 ?_)
          refine (point_any _ _).mono ?_
          rintro e w5 ⟨rfl, b5⟩
          replace h2 := h2.below b5 h2.lt
          replace hb := hb.trans (b5.mono hb.size)
          go_wp2_with (with_reducible refine stArrG (cs := pcs (mDecP m)) (.tmp 2) (.tmp 37) Try.ag_pt (wn rfl) rfl rfl rfl h2 rfl rfl (pcs_one _) ?_)
          intro w6 h6 hg
          replace hb := hb.grown hg hb.size (fun k e => by cases e; exact Nat.le_refl _)
          go_wp2_with fail
          exact bodyPost_ret (res_cellslot (v := .bool true) (pcs (mDecP m)) Try.results73 Try.ag_pt _ rfl rfl rfl h6) rfl ⟨rfl, hb⟩
end Go.Proofs.Ytkmhjgdpkddbnaa
namespace Go.Proofs.Ytkmhjgdpkddbnaa
end Go.Proofs.Ytkmhjgdpkddbnaa
namespace Go.Proofs.Ytkmhjgdpkddbnaa
def Pt.rng (p : Pt) : Prop := (-1048575 ≤ p.x ∧ p.x ≤ 1048575) ∧ (-1048575 ≤ p.y ∧ p.y ≤ 1048575) ∧ (-1048575 ≤ p.z ∧ p.z ≤ 1048575)
instance (p : Pt) : Decidable p.rng := by unfold Pt.rng; infer_instance
def Pt.sub (p q : Pt) : Pt := ⟨p.x - q.x, p.y - q.y, p.z - q.z⟩
def Pt.add (p q : Pt) : Pt := ⟨p.x + q.x, p.y + q.y, p.z + q.z⟩
def Pt.mul (p : Pt) (n : Int) : Pt := ⟨p.x * n, p.y * n, p.z * n⟩
structure Bx where
  mn : Pt
  mx : Pt
deriving DecidableEq
def Bx.has (b : Bx) (p : Pt) : Prop := (b.mn.x ≤ p.x ∧ p.x < b.mx.x) ∧ (b.mn.y ≤ p.y ∧ p.y < b.mx.y) ∧ (b.mn.z ≤ p.z ∧ p.z < b.mx.z)
instance (b : Bx) (p : Pt) : Decidable (b.has p) := by unfold Bx.has; infer_instance
def Bx.none (b : Bx) : Prop := b.mx.x ≤ b.mn.x ∨ b.mx.y ≤ b.mn.y ∨ b.mx.z ≤ b.mn.z
instance (b : Bx) : Decidable b.none := by unfold Bx.none; infer_instance
def cubeB (n : Int) : Bx := ⟨⟨0, 0, 0⟩, ⟨n, n, n⟩⟩
def Bx.shift (b : Bx) (p : Pt) : Bx := ⟨b.mn.add p, b.mx.add p⟩
/-- A tile. -/
structure Tl where
  lv : Int
  p : Pt
deriving DecidableEq
/-- A viewer. -/
structure Vw where
  p : Pt
  sc : Int
  tol : Int
  bud : Int
deriving DecidableEq
def sideL (l : Int) : Int := 4 * 2 ^ l.toNat
def Tl.box (t : Tl) : Bx := (cubeB (sideL t.lv)).shift t.p
def nearB (p : Pt) (b : Bx) : Int := if b.none then -1 else max (max (max (max (max (max 0 (b.mn.x - p.x)) (b.mn.y - p.y)) (b.mn.z - p.z)) (p.x - b.mx.x)) (p.y - b.mx.y)) (p.z - b.mx.z)
def err (v : Vw) (t : Tl) : Int := v.sc * 2 ^ t.lv.toNat / max 1 (nearB v.p t.box)
def ckV (v : Vw) : Int := if v.p.rng ∧ (1 ≤ v.sc ∧ v.sc ≤ 1048576) ∧ (0 ≤ v.tol ∧ v.tol ≤ 1099511627776) ∧ (0 ≤ v.bud ∧ v.bud ≤ 1099511627776) then 0 else 1
theorem ckV_ok {v : Vw} (h : ckV v = 0) : v.p.rng ∧ (1 ≤ v.sc ∧ v.sc ≤ 1048576) ∧ (0 ≤ v.tol ∧ v.tol ≤ 1099511627776) ∧ (0 ≤ v.bud ∧ v.bud ≤ 1099511627776) := by
  unfold ckV at h
  split at h
  · assumption
  · cases h
theorem pow12 {l : Int} (h : 0 ≤ l ∧ l ≤ 12) : 1 ≤ (2 : Int) ^ l.toNat ∧ (2 : Int) ^ l.toNat ≤ 4096 := by
  rcases (by omega : l = 0 ∨ l = 1 ∨ l = 2 ∨ l = 3 ∨ l = 4 ∨ l = 5 ∨ l = 6 ∨ l = 7 ∨ l = 8 ∨ l = 9 ∨ l = 10 ∨ l = 11 ∨ l = 12) with rfl | rfl | rfl | rfl | rfl | rfl | rfl | rfl | rfl | rfl | rfl | rfl | rfl <;> decide
theorem sc_bd {v : Vw} {l : Int} (hv : ckV v = 0) (h : 0 ≤ l ∧ l ≤ 12) : 0 ≤ v.sc * 2 ^ l.toNat ∧ v.sc * 2 ^ l.toNat ≤ 4294967296 := by
  have h1 := (ckV_ok hv).2.1
  have h2 := pow12 h
  generalize (2 : Int) ^ l.toNat = q at *
  have h3 : v.sc * q ≤ 1048576 * q := Int.mul_le_mul_of_nonneg_right h1.2 (by omega)
  have h4 : 0 ≤ v.sc * q := Int.mul_nonneg (by omega) (by omega)
  omega
/-- A tile that lies in the greatest cube, aligned. -/
structure Tl.Ok (t : Tl) : Prop where
  lv : 0 ≤ t.lv ∧ t.lv ≤ 12
  x : 0 ≤ t.p.x ∧ t.p.x + sideL t.lv ≤ 16384 ∧ t.p.x % sideL t.lv = 0
  y : 0 ≤ t.p.y ∧ t.p.y + sideL t.lv ≤ 16384 ∧ t.p.y % sideL t.lv = 0
  z : 0 ≤ t.p.z ∧ t.p.z + sideL t.lv ≤ 16384 ∧ t.p.z % sideL t.lv = 0
theorem lv_cases {l : Int} (h : 0 ≤ l ∧ l ≤ 12) : l = 0 ∨ l = 1 ∨ l = 2 ∨ l = 3 ∨ l = 4 ∨ l = 5 ∨ l = 6 ∨ l = 7 ∨ l = 8 ∨ l = 9 ∨ l = 10 ∨ l = 11 ∨ l = 12 := by omega
theorem side_bd {l : Int} (h : 0 ≤ l ∧ l ≤ 12) : 4 ≤ sideL l ∧ sideL l ≤ 16384 := by
  rcases lv_cases h with rfl | rfl | rfl | rfl | rfl | rfl | rfl | rfl | rfl | rfl | rfl | rfl | rfl <;> decide
theorem side_half {l : Int} (h : 1 ≤ l ∧ l ≤ 12) : sideL l = 2 * sideL (l - 1) := by
  rcases lv_cases (l := l) (by omega) with rfl | rfl | rfl | rfl | rfl | rfl | rfl | rfl | rfl | rfl | rfl | rfl | rfl <;> first | omega | decide
/-- The corner of the k-th of the eight parts. -/
def octP (k : Nat) : Pt := ⟨(k % 2 : Nat), (k / 2 % 2 : Nat), (k / 4 % 2 : Nat)⟩
def child (t : Tl) (k : Nat) : Tl := ⟨t.lv - 1, t.p.add ((octP k).mul (sideL (t.lv - 1)))⟩
def splitT (t : Tl) : List Tl := (List.range 8).map (child t)
theorem octP_bd (k : Nat) : (0 ≤ (octP k).x ∧ (octP k).x ≤ 1) ∧ (0 ≤ (octP k).y ∧ (octP k).y ≤ 1) ∧ (0 ≤ (octP k).z ∧ (octP k).z ≤ 1) := by
  unfold octP; simp only; omega
theorem oct1 {a S i x : Int} (hS : 4 ≤ S) (h1 : 0 ≤ a ∧ a + 2 * S ≤ x ∧ a % (2 * S) = 0) (hi : 0 ≤ i ∧ i ≤ 1) : 0 ≤ a + i * S ∧ a + i * S + S ≤ x ∧ (a + i * S) % S = 0 := by
  have hd : a % S = 0 := by
    have h2 : S ∣ a := Int.dvd_trans ⟨2, by omega⟩ (Int.dvd_of_emod_eq_zero h1.2.2)
    exact Int.emod_eq_zero_of_dvd h2
  rcases (by omega : i = 0 ∨ i = 1) with rfl | rfl
  · refine ⟨by omega, by omega, by simpa using hd⟩
  · refine ⟨by omega, by omega, ?_⟩
    rw [Int.one_mul, Int.add_emod_right]
    exact hd
theorem Tl.Ok.child {t : Tl} (h : t.Ok) (h1 : 1 ≤ t.lv) (k : Nat) : (child t k).Ok := by
  have hl := h.lv
  have e := side_half ⟨h1, hl.2⟩
  have hb := side_bd (l := t.lv - 1) (by omega)
  have ho := octP_bd k
  have hx := h.x
  have hy := h.y
  have hz := h.z
  rw [e] at hx hy hz
  exact ⟨by show 0 ≤ t.lv - 1 ∧ t.lv - 1 ≤ 12; omega, oct1 hb.1 hx ho.1, oct1 hb.1 hy ho.2.1, oct1 hb.1 hz ho.2.2⟩
theorem Tl.Ok.split {t u : Tl} (h : t.Ok) (h1 : 1 ≤ t.lv) (hu : u ∈ splitT t) : u.Ok := by
  obtain ⟨k, _, rfl⟩ := List.mem_map.1 hu
  exact h.child h1 k
theorem Tl.Ok.inP {t : Tl} (h : t.Ok) : t.p.In := by
  have hb := side_bd h.lv
  have hx := h.x
  have hy := h.y
  have hz := h.z
  unfold Pt.In
  omega
theorem encL_mul : ∀ (m l x y z : Nat), encL (l + m) (2 ^ m * x) (2 ^ m * y) (2 ^ m * z) = 8 ^ m * encL l x y z
  | 0, l, x, y, z => by simp
  | m + 1, l, x, y, z => by
    have h := encL_mul m l x y z
    rw [← Nat.add_assoc, encL]
    have e : ∀ a : Nat, 2 ^ (m + 1) * a = 2 * (2 ^ m * a) := fun a => by rw [Nat.pow_succ, Nat.mul_comm (2 ^ m) 2, Nat.mul_assoc]
    rw [e x, e y, e z]
    have q : ∀ a : Nat, 2 * a / 2 = a := fun a => by omega
    rw [q, q, q, h, Nat.pow_succ, Nat.mul_comm (8 ^ m) 8, Nat.mul_assoc]
    omega
/-- The code of a part of a tile. -/
theorem enc_child {x y z k m : Nat} (hm : m ≤ 13) (hk : k < 8) :
    encL 14 (2 ^ (m + 1) * x + k % 2 * 2 ^ m) (2 ^ (m + 1) * y + k / 2 % 2 * 2 ^ m) (2 ^ (m + 1) * z + k / 4 % 2 * 2 ^ m) = encL 14 (2 ^ (m + 1) * x) (2 ^ (m + 1) * y) (2 ^ (m + 1) * z) + k * 8 ^ m := by
  have e : ∀ a i : Nat, 2 ^ (m + 1) * a + i * 2 ^ m = 2 ^ m * (2 * a + i) := fun a i => by rw [Nat.pow_succ, Nat.mul_add, Nat.mul_assoc, Nat.mul_comm i]
  have e0 : ∀ a : Nat, 2 ^ (m + 1) * a = 2 ^ m * (2 * a) := fun a => by rw [Nat.pow_succ, Nat.mul_assoc]
  obtain ⟨l, hl⟩ : ∃ l, 14 = l + 1 + m := ⟨13 - m, by omega⟩
  rw [e, e, e, e0 x, e0 y, e0 z, hl, encL_mul, encL_mul, encL, encL]
  have q : ∀ a i : Nat, i < 2 → (2 * a + i) / 2 = a := fun a i h => by omega
  rw [q x _ (by omega), q y _ (by omega), q z _ (by omega), show 2 * x / 2 = x by omega, show 2 * y / 2 = y by omega, show 2 * z / 2 = z by omega]
  have r : (2 * x + k % 2) % 2 + 2 * ((2 * y + k / 2 % 2) % 2) + 4 * ((2 * z + k / 4 % 2) % 2) = k := by omega
  have r0 : 2 * x % 2 + 2 * (2 * y % 2) + 4 * (2 * z % 2) = 0 := by omega
  rw [r, r0, Nat.add_zero, Nat.mul_add, Nat.mul_comm k]
theorem enc_part {t : Tl} (h : t.Ok) (h1 : 1 ≤ t.lv) {k : Nat} (hk : k < 8) : mEnc (child t k).p = mEnc t.p + (k : Int) * 8 ^ (t.lv.toNat + 1) := by
  have hc := (h.child h1 k).inP
  have hi := h.inP
  have hl := h.lv
  obtain ⟨n, hn⟩ : ∃ n : Nat, t.lv = (n : Int) + 1 := ⟨(t.lv - 1).toNat, by omega⟩
  have hS : sideL t.lv = ((2 ^ (n + 3) : Nat) : Int) := by
    unfold sideL
    have h2 : ((2 ^ (n + 3) : Nat) : Int) = 4 * 2 ^ (n + 1) := by
      rw [show (2 ^ (n + 3) : Nat) = 4 * 2 ^ (n + 1) by rw [show n + 3 = n + 1 + 2 from rfl, Nat.pow_add 2 (n + 1) 2]; omega, Int.natCast_mul]
      simp
    rw [show t.lv.toNat = n + 1 by omega, h2]
  have hS1 : sideL (t.lv - 1) = ((2 ^ (n + 2) : Nat) : Int) := by
    unfold sideL
    have h2 : ((2 ^ (n + 2) : Nat) : Int) = 4 * 2 ^ n := by
      rw [show (2 ^ (n + 2) : Nat) = 4 * 2 ^ n by rw [Nat.pow_add]; omega, Int.natCast_mul]
      simp
    rw [show (t.lv - 1).toNat = n by omega, h2]
  have hx := h.x
  have hy := h.y
  have hz := h.z
  rw [hS] at hx hy hz
  have al : ∀ a : Int, 0 ≤ a → a % ((2 ^ (n + 3) : Nat) : Int) = 0 → ∃ b : Nat, a = ((2 ^ (n + 3) * b : Nat) : Int) := by
    intro a h0 h1
    obtain ⟨c, hc⟩ := Int.dvd_of_emod_eq_zero h1
    refine ⟨c.toNat, ?_⟩
    have hp : (0 : Int) < ((2 ^ (n + 3) : Nat) : Int) := by exact_mod_cast Nat.pow_pos (by omega)
    have hc0 : 0 ≤ c := by
      rcases Int.lt_or_le c 0 with h2 | h2
      · have := Int.mul_neg_of_pos_of_neg hp h2
        omega
      · exact h2
    rw [hc, Int.natCast_mul, Int.toNat_of_nonneg hc0]
  obtain ⟨bx, ex⟩ := al _ hx.1 hx.2.2
  obtain ⟨by_, ey⟩ := al _ hy.1 hy.2.2
  obtain ⟨bz, ez⟩ := al _ hz.1 hz.2.2
  have hp : 0 < 2 ^ (n + 3) := Nat.pow_pos (by omega)
  have key := enc_child (x := bx) (y := by_) (z := bz) (k := k) (m := n + 2) (by omega) hk
  unfold mEnc
  rw [if_pos hc, if_pos hi]
  unfold child Pt.add Pt.mul octP
  simp only
  rw [hS1, ex, ey, ez]
  have tn : ∀ a b : Nat, (((a : Nat) : Int) + ((b : Nat) : Int) * ((2 ^ (n + 2) : Nat) : Int)).toNat = a + b * 2 ^ (n + 2) := fun a b => by
    rw [← Int.natCast_mul, ← Int.natCast_add, Int.toNat_natCast]
  rw [tn, tn, tn, Int.toNat_natCast, Int.toNat_natCast, Int.toNat_natCast, key, show t.lv.toNat + 1 = n + 2 by omega]
  simp
def totalP (f : Tl → Int) (l : List Tl) : Int := (l.map f).sum
def moreP (f : Tl → Int) (t : Tl) : Int := totalP f (splitT t) - f t
/-- The next tile that is split, among those from k on. -/
def nextG (f : Tl → Int) (v : Vw) (cost : Int) : Nat → Int → Int → List Tl → Int
  | _, best, _, [] => best
  | k, best, most, t :: l => if 0 < t.lv ∧ most < err v t ∧ cost + moreP f t ≤ v.bud then nextG f v cost (k + 1) k (err v t) l else nextG f v cost (k + 1) best most l
def nextP (f : Tl → Int) (v : Vw) (cost : Int) (plan : List Tl) : Int := if 4096 < plan.length + 7 then -1 else nextG f v cost 0 (-1) v.tol plan
def splitAt (plan : List Tl) (k : Nat) : List Tl := match plan[k]? with
  | some t => plan.take k ++ splitT t ++ plan.drop (k + 1)
  | .none => plan
def planG (f : Tl → Int) (v : Vw) : Nat → List Tl → Int → List Tl × Int
  | 0, plan, cost => (plan, cost)
  | n + 1, plan, cost =>
    let k := nextP f v cost plan
    if 0 ≤ k then planG f v n (splitAt plan k.toNat) (cost + moreP f (plan.getD k.toNat ⟨0, ⟨0, 0, 0⟩⟩)) else (plan, cost)
def boundP (l : List Tl) : Int := l.foldl (fun b t => max b (2 ^ t.lv.toNat)) 0
def worstP (v : Vw) (l : List Tl) : Int := l.foldl (fun b t => max b (err v t)) 0
/-- What Plan returns: tiles, cost, bound, error; and the error code. -/
structure Pln where
  tiles : List Tl
  cost : Int
  bound : Int
  worst : Int
deriving DecidableEq
def pln0 : Pln := ⟨[], 0, 0, 0⟩
def planE (f : Tl → Int) (depth : Int) (v : Vw) : Int := if ¬ (2 ≤ depth ∧ depth ≤ 14) then 13 else if ¬ ckV v = 0 then 1 else if v.bud < f ⟨depth - 2, ⟨0, 0, 0⟩⟩ then 17 else 0
def planOf (v : Vw) (r : List Tl × Int) : Pln := ⟨r.1, r.2, boundP r.1, worstP v r.1⟩
def planR (f : Tl → Int) (depth : Int) (v : Vw) : Pln := if planE f depth v = 0 then planOf v (planG f v 600 [⟨depth - 2, ⟨0, 0, 0⟩⟩] (f ⟨depth - 2, ⟨0, 0, 0⟩⟩)) else pln0
def added (old next : List Tl) : List Tl := next.filter fun t => !old.contains t
end Go.Proofs.Ytkmhjgdpkddbnaa
namespace Go.Proofs.Ytkmhjgdpkddbnaa
theorem splitAt_eq {l : List Tl} {k : Nat} {t : Tl} (h : l[k]? = some t) : splitAt l k = l.take k ++ splitT t ++ l.drop (k + 1) := by unfold splitAt; rw [h]
theorem splitT_len' (t : Tl) : (splitT t).length = 8 := by simp [splitT]
theorem splitAt_len {l : List Tl} {k : Nat} {t : Tl} (h : l[k]? = some t) : (splitAt l k).length = l.length + 7 := by
  have hk := (List.getElem?_eq_some_iff.1 h).1
  rw [splitAt_eq h]
  simp only [List.length_append, splitT_len', List.length_take, List.length_drop]
  omega
theorem mem_splitAt {l : List Tl} {k : Nat} {t u : Tl} (h : l[k]? = some t) (hu : u ∈ splitAt l k) : u ∈ l ∨ u ∈ splitT t := by
  rw [splitAt_eq h] at hu
  simp only [List.mem_append] at hu
  rcases hu with (hu | hu) | hu
  · exact Or.inl (List.mem_of_mem_take hu)
  · exact Or.inr hu
  · exact Or.inl (List.mem_of_mem_drop hu)
theorem splitAt_ok {l : List Tl} {k : Nat} {t : Tl} (hl : ∀ u ∈ l, u.Ok) (h : l[k]? = some t) (h1 : 1 ≤ t.lv) : ∀ u ∈ splitAt l k, u.Ok := by
  intro u hu
  rcases mem_splitAt h hu with hu | hu
  · exact hl u hu
  · exact (hl t (List.mem_of_getElem? h)).split h1 hu
theorem split_list {l : List Tl} {k : Nat} {t : Tl} (h : l[k]? = some t) : l = l.take k ++ t :: l.drop (k + 1) := by
  obtain ⟨hk, he⟩ := List.getElem?_eq_some_iff.1 h
  have h1 := List.take_append_drop k l
  rw [List.drop_eq_getElem_cons hk, he] at h1
  exact h1.symm
theorem totalP_app (f : Tl → Int) (l m : List Tl) : totalP f (l ++ m) = totalP f l + totalP f m := by
  unfold totalP; simp
theorem totalP_split {f : Tl → Int} {l : List Tl} {k : Nat} {t : Tl} (h : l[k]? = some t) : totalP f (splitAt l k) = totalP f l + moreP f t := by
  have e : totalP f l = totalP f (l.take k) + (f t + totalP f (l.drop (k + 1))) := by
    conv => lhs; rw [split_list h]
    rw [totalP_app]; simp [totalP]
  rw [splitAt_eq h, totalP_app, totalP_app, e]
  unfold moreP
  omega
theorem totalP_bd {f : Tl → Int} : ∀ {l : List Tl}, (∀ t ∈ l, 0 ≤ f t ∧ f t ≤ 16777216) → 0 ≤ totalP f l ∧ totalP f l ≤ 16777216 * (l.length : Int)
  | [], _ => by simp [totalP]
  | t :: l, h => by
    have h1 := h t (by simp)
    have h2 := totalP_bd (l := l) fun u hu => h u (by simp [hu])
    have e : totalP f (t :: l) = f t + totalP f l := by simp [totalP]
    rw [e, List.length_cons]
    omega
/-- What is chosen to be split. -/
theorem nextG_ok {f : Tl → Int} {v : Vw} {cost : Int} {l0 : List Tl} : ∀ (l : List Tl) (j : Nat) (best most : Int), l0.drop j = l →
    (best = -1 ∨ ∃ (k : Nat) (t : Tl), best = (k : Int) ∧ l0[k]? = some t ∧ 0 < t.lv ∧ v.tol < err v t ∧ cost + moreP f t ≤ v.bud) → v.tol ≤ most →
    (nextG f v cost j best most l = -1 ∨ ∃ (k : Nat) (t : Tl), nextG f v cost j best most l = (k : Int) ∧ l0[k]? = some t ∧ 0 < t.lv ∧ v.tol < err v t ∧ cost + moreP f t ≤ v.bud)
  | [], j, best, most, _, hb, _ => by rw [nextG]; exact hb
  | t :: l, j, best, most, hd, hb, hm => by
    have ht : l0[j]? = some t := by
      have h1 : (l0.drop j)[0]? = some t := by rw [hd]; rfl
      rw [List.getElem?_drop] at h1
      exact h1
    have hd2 : l0.drop (j + 1) = l := by rw [← List.drop_drop, hd]; rfl
    rw [nextG]
    split
    · rename_i hc
      exact nextG_ok l (j + 1) _ _ hd2 (Or.inr ⟨j, t, rfl, ht, hc.1, by omega, hc.2.2⟩) (by omega)
    · exact nextG_ok l (j + 1) _ _ hd2 hb hm
theorem nextP_ok {f : Tl → Int} {v : Vw} {cost : Int} {l : List Tl} (h : 0 ≤ nextP f v cost l) : ∃ (k : Nat) (t : Tl), nextP f v cost l = (k : Int) ∧ l[k]? = some t ∧ 1 ≤ t.lv ∧ l.length + 7 ≤ 4096 ∧ v.tol < err v t ∧ cost + moreP f t ≤ v.bud := by
  unfold nextP at *
  split at h
  · omega
  · rename_i hl
    rw [if_neg hl]
    rcases nextG_ok l 0 (-1) v.tol rfl (Or.inl rfl) (Int.le_refl _) (f := f) (v := v) (cost := cost) (l0 := l) with h1 | ⟨k, t, h1, h2, h3, h4, h5⟩
    · rw [h1] at h; omega
    · exact ⟨k, t, h1, h2, by omega, by omega, h4, h5⟩
theorem planG_step {f : Tl → Int} {v : Vw} {cost : Int} {l : List Tl} {k n : Nat} {t : Tl} (hk : nextP f v cost l = (k : Int)) (ht : l[k]? = some t) (hn : 0 < n) : planG f v n l cost = planG f v (n - 1) (splitAt l k) (cost + moreP f t) := by
  obtain ⟨m, rfl⟩ : ∃ m, n = m + 1 := ⟨n - 1, by omega⟩
  rw [planG]
  simp only [hk, Int.toNat_natCast]
  rw [if_pos (by omega)]
  simp [List.getD, ht]
theorem planG_stop {f : Tl → Int} {v : Vw} {cost : Int} {l : List Tl} {n : Nat} (h : ¬ 0 ≤ nextP f v cost l) : planG f v n l cost = (l, cost) := by
  cases n with
  | zero => rfl
  | succ n => rw [planG]; simp only [if_neg h]
theorem ckV_01 {v : Vw} (h : ¬ ckV v = 0) : ckV v = 1 := by
  unfold ckV at *
  split at h
  · exact absurd rfl h
  · rename_i hc
    rw [if_neg hc]
def wholeT (depth : Int) : Tl := ⟨depth - 2, ⟨0, 0, 0⟩⟩
theorem wholeT_ok {depth : Int} (h : 2 ≤ depth ∧ depth ≤ 14) : (wholeT depth).Ok := by
  have hb := side_bd (l := depth - 2) (by omega)
  refine ⟨by show 0 ≤ depth - 2 ∧ depth - 2 ≤ 12; omega, ?_, ?_, ?_⟩ <;> (show 0 ≤ (0 : Int) ∧ (0 : Int) + sideL (depth - 2) ≤ 16384 ∧ (0 : Int) % sideL (depth - 2) = 0; simp; omega)
theorem planR_eq {f : Tl → Int} {depth : Int} {v : Vw} {l : List Tl} {cost : Int} (hE : planE f depth v = 0) (hG : planG f v 600 [wholeT depth] (f (wholeT depth)) = (l, cost)) : planR f depth v = ⟨l, cost, boundP l, worstP v l⟩ := by
  unfold planR
  rw [if_pos hE]
  unfold wholeT at hG
  rw [hG]
  rfl
theorem planR_no {f : Tl → Int} {depth : Int} {v : Vw} (hE : ¬ planE f depth v = 0) : planR f depth v = pln0 := by unfold planR; rw [if_neg hE]
def boundF (b : Int) (t : Tl) : Int := max b (2 ^ t.lv.toNat)
def worstF (v : Vw) (b : Int) (t : Tl) : Int := max b (err v t)
theorem fold_next {g : Int → Tl → Int} {l : List Tl} {k : Nat} {t : Tl} {b r : Int} (h : l[k]? = some t) (hr : (l.drop k).foldl g b = r) : (l.drop (k + 1)).foldl g (g b t) = r := by
  obtain ⟨hl, he⟩ := List.getElem?_eq_some_iff.1 h
  rw [List.drop_eq_getElem_cons hl, he] at hr
  exact hr
theorem planE_0 {f : Tl → Int} {depth : Int} {v : Vw} (hd : 2 ≤ depth ∧ depth ≤ 14) (hv : ckV v = 0) (hb : ¬ v.bud < f (wholeT depth)) : planE f depth v = 0 := by
  unfold planE; rw [if_neg (fun h => h hd), if_neg (fun h => h hv)]; exact if_neg hb
theorem planE_13 {f : Tl → Int} {depth : Int} {v : Vw} (hd : ¬ (2 ≤ depth ∧ depth ≤ 14)) : planE f depth v = 13 := by
  unfold planE; rw [if_pos hd]
theorem planE_1 {f : Tl → Int} {depth : Int} {v : Vw} (hd : 2 ≤ depth ∧ depth ≤ 14) (hv : ¬ ckV v = 0) : planE f depth v = 1 := by
  unfold planE; rw [if_neg (fun h => h hd), if_pos hv]
theorem planE_17 {f : Tl → Int} {depth : Int} {v : Vw} (hd : 2 ≤ depth ∧ depth ≤ 14) (hv : ckV v = 0) (hb : v.bud < f (wholeT depth)) : planE f depth v = 17 := by
  unfold planE; rw [if_neg (fun h => h hd), if_neg (fun h => h hv)]; exact if_pos hb
/-- How far the rounds of the planner have come. -/
structure RoundOk (f : Tl → Int) (v : Vw) (depth : Int) (l : List Tl) (cost : Int) (fu : Nat) : Prop where
  all : ∀ t ∈ l, t.Ok
  len : l.length + 7 * fu = 4201
  le : l.length ≤ 4096
  sum : cost = totalP f l
  go : planG f v fu l cost = planG f v 600 [wholeT depth] (f (wholeT depth))
theorem RoundOk.start {f : Tl → Int} {v : Vw} {depth : Int} (h : 2 ≤ depth ∧ depth ≤ 14) : RoundOk f v depth [wholeT depth] (f (wholeT depth)) 600 :=
  ⟨fun t ht => by rw [List.mem_singleton] at ht; rw [ht]; exact wholeT_ok h, rfl, by simp, by simp [totalP], rfl⟩
theorem RoundOk.next {f : Tl → Int} {v : Vw} {depth : Int} {l : List Tl} {cost : Int} {fu k : Nat} {t : Tl} (h : RoundOk f v depth l cost fu) (hk : nextP f v cost l = (k : Int)) (ht : l[k]? = some t) (h1 : 1 ≤ t.lv) (hl : l.length + 7 ≤ 4096) : RoundOk f v depth (splitAt l k) (cost + moreP f t) (fu - 1) := by
  have hn := h.len
  have hlen := splitAt_len ht
  refine ⟨splitAt_ok h.all ht h1, by omega, by omega, by rw [h.sum, totalP_split ht], ?_⟩
  rw [← h.go]
  exact (planG_step hk ht (by omega)).symm
theorem RoundOk.bd {f : Tl → Int} {v : Vw} {depth : Int} {l : List Tl} {cost : Int} {fu : Nat} (h : RoundOk f v depth l cost fu) (hf : ∀ t : Tl, t.Ok → 0 ≤ f t ∧ f t ≤ 16777216) : 0 ≤ cost ∧ cost ≤ 68719476736 := by
  have h1 := totalP_bd (l := l) fun t ht => hf t (h.all t ht)
  have h2 := h.le
  rw [h.sum]
  omega
theorem RoundOk.fuel {f : Tl → Int} {v : Vw} {depth : Int} {l : List Tl} {cost : Int} {fu : Nat} (h : RoundOk f v depth l cost fu) : 15 ≤ fu ∧ fu ≤ 600 := by
  have := h.len; have := h.le; omega
theorem round_end {f : Tl → Int} {v : Vw} {depth : Int} : ∀ (n : Nat) (l : List Tl) (cost : Int), RoundOk f v depth l cost n → ∃ fu, RoundOk f v depth (planG f v n l cost).1 (planG f v n l cost).2 fu ∧ ¬ 0 ≤ nextP f v (planG f v n l cost).2 (planG f v n l cost).1
  | 0, l, cost, h => by have := h.fuel; omega
  | n + 1, l, cost, h => by
    by_cases hk : 0 ≤ nextP f v cost l
    · obtain ⟨k, t, e, ht, h1, hl, _, _⟩ := nextP_ok hk
      have h2 := h.next e ht h1 hl
      rw [planG_step e ht (by omega)]
      exact round_end n _ _ h2
    · rw [planG_stop hk]
      exact ⟨_, h, hk⟩
/-- A plan is reached by rounds, and none is left. -/
theorem planR_round {f : Tl → Int} {v : Vw} {depth : Int} (hE : planE f depth v = 0) (hd : 2 ≤ depth ∧ depth ≤ 14) : ∃ fu, RoundOk f v depth (planR f depth v).tiles (planR f depth v).cost fu ∧ ¬ 0 ≤ nextP f v (planR f depth v).cost (planR f depth v).tiles := by
  have h := round_end 600 _ _ (RoundOk.start (f := f) (v := v) hd)
  have e := planR_eq (l := (planG f v 600 [wholeT depth] (f (wholeT depth))).1) (cost := (planG f v 600 [wholeT depth] (f (wholeT depth))).2) hE rfl
  rw [e]
  exact h
theorem planE_dp {f : Tl → Int} {v : Vw} {depth : Int} (hE : planE f depth v = 0) : (2 ≤ depth ∧ depth ≤ 14) ∧ ckV v = 0 ∧ f (wholeT depth) ≤ v.bud := by
  unfold planE at hE
  split at hE
  · cases hE
  · rename_i h1
    split at hE
    · cases hE
    · rename_i h2
      split at hE
      · cases hE
      · rename_i h3
        exact ⟨Decidable.not_not.1 h1, Decidable.not_not.1 h2, Int.not_lt.1 h3⟩
theorem planR_ok {f : Tl → Int} {v : Vw} {depth : Int} : ∀ t ∈ (planR f depth v).tiles, t.Ok := by
  by_cases hE : planE f depth v = 0
  · obtain ⟨_, h, _⟩ := planR_round hE (planE_dp hE).1
    exact h.all
  · rw [planR_no hE]
    intro t ht
    cases ht
theorem planR_len {f : Tl → Int} {v : Vw} {depth : Int} : (planR f depth v).tiles.length ≤ 4096 := by
  by_cases hE : planE f depth v = 0
  · obtain ⟨_, h, _⟩ := planR_round hE (planE_dp hE).1
    exact h.le
  · rw [planR_no hE]
    simp [pln0]
end Go.Proofs.Ytkmhjgdpkddbnaa
namespace Go.Proofs.Ytkmhjgdpkddbnaa
/-- The tile of a level that contains a cell. -/
def tileAt (l : Int) (p : Pt) : Tl := ⟨l, ⟨p.x / sideL l * sideL l, p.y / sideL l * sideL l, p.z / sideL l * sideL l⟩⟩
theorem side_dvd {l : Int} (h : 0 ≤ l ∧ l ≤ 12) : ∃ m : Int, 16384 = m * sideL l ∧ 1 ≤ m := by
  rcases lv_cases h with rfl | rfl | rfl | rfl | rfl | rfl | rfl | rfl | rfl | rfl | rfl | rfl | rfl
  · exact ⟨4096, by decide, by decide⟩
  · exact ⟨2048, by decide, by decide⟩
  · exact ⟨1024, by decide, by decide⟩
  · exact ⟨512, by decide, by decide⟩
  · exact ⟨256, by decide, by decide⟩
  · exact ⟨128, by decide, by decide⟩
  · exact ⟨64, by decide, by decide⟩
  · exact ⟨32, by decide, by decide⟩
  · exact ⟨16, by decide, by decide⟩
  · exact ⟨8, by decide, by decide⟩
  · exact ⟨4, by decide, by decide⟩
  · exact ⟨2, by decide, by decide⟩
  · exact ⟨1, by decide, by decide⟩
theorem al1 {a S : Int} (hS : 4 ≤ S) (hd : ∃ m : Int, 16384 = m * S ∧ 1 ≤ m) (ha : 0 ≤ a ∧ a < 16384) : 0 ≤ a / S * S ∧ a / S * S + S ≤ 16384 ∧ a / S * S % S = 0 := by
  obtain ⟨m, hm, _⟩ := hd
  have h0 : 0 ≤ a / S := Int.ediv_nonneg ha.1 (by omega)
  have h1 : a / S < m := Int.ediv_lt_of_lt_mul (by omega) (by omega)
  refine ⟨Int.mul_nonneg h0 (by omega), ?_, Int.mul_emod_left _ _⟩
  have h2 : (a / S + 1) * S ≤ m * S := Int.mul_le_mul_of_nonneg_right (by omega) (by omega)
  rw [Int.add_mul] at h2
  omega
theorem tileAt_ok {l : Int} {p : Pt} (h : 0 ≤ l ∧ l ≤ 12) (hp : p.In) : (tileAt l p).Ok := by
  have hS := side_bd h
  have hd := side_dvd h
  unfold Pt.In at hp
  exact ⟨h, al1 hS.1 hd hp.1, al1 hS.1 hd hp.2.1, al1 hS.1 hd hp.2.2⟩
def Vw.right (v : Vw) (b : Int) : Vw := ⟨⟨v.p.x + b, v.p.y, v.p.z⟩, v.sc, v.tol, v.bud⟩
end Go.Proofs.Ytkmhjgdpkddbnaa
