/-
  OB: several texts in one: MoSpec, MoBase, MoCode, MoRef, MoDecode, MoOrd, MoOps, MoCmp, MoOct, MoEq. No statement is proved here.
-/
import Derived.Test.YtkfijpghjjnpkaaOA
import Derived.Lib.Strings
import Derived.Lib.Slices
import Derived.Lib.Small
import Derived.Lib.Walk
import Derived.Lib.BitFns
import Derived.Laws.StructEq
set_option linter.unusedVariables false
set_option linter.unusedSimpArgs false
/-
  Morton codes as plain functions: codes, points, and that they are inverse to each other. No program in sight.
-/
namespace Go.Proofs.Ytkfijpghjjnpkaa

/-- A point. -/
structure Pt where
  x : Int
  y : Int
  z : Int
deriving DecidableEq
def Pt.at (p : Pt) : Nat → Int
  | 0 => p.x
  | 1 => p.y
  | _ => p.z
/-- The code of the low l bits of three numbers. -/
def encL : Nat → Nat → Nat → Nat → Nat
  | 0, _, _, _ => 0
  | l + 1, x, y, z => 8 * encL l (x / 2) (y / 2) (z / 2) + (x % 2 + 2 * (y % 2) + 4 * (z % 2))
/-- Every third bit of a code, l of them. -/
def decL : Nat → Nat → Nat
  | 0, _ => 0
  | l + 1, n => 2 * decL l (n / 8) + n % 2
def dig (x y z i : Nat) : Nat := x / 2 ^ i % 2 + 2 * (y / 2 ^ i % 2) + 4 * (z / 2 ^ i % 2)
theorem dig_lt (x y z i : Nat) : dig x y z i < 8 := by unfold dig; omega
theorem dig_half (x y z i : Nat) : dig (x / 2) (y / 2) (z / 2) i = dig x y z (i + 1) := by
  unfold dig
  rw [Nat.div_div_eq_div_mul, Nat.div_div_eq_div_mul, Nat.div_div_eq_div_mul, Nat.pow_succ, Nat.mul_comm (2 ^ i) 2]
theorem encL_lt : ∀ (l x y z : Nat), encL l x y z < 8 ^ l
  | 0, _, _, _ => by simp [encL]
  | l + 1, x, y, z => by
    have h := encL_lt l (x / 2) (y / 2) (z / 2)
    rw [Nat.pow_succ]
    show 8 * encL l (x / 2) (y / 2) (z / 2) + (x % 2 + 2 * (y % 2) + 4 * (z % 2)) < _
    omega
theorem encL_top : ∀ (l x y z : Nat), encL (l + 1) x y z = encL l x y z + 8 ^ l * dig x y z l
  | 0, x, y, z => by simp [encL, dig]
  | l + 1, x, y, z => by
    have h := encL_top l (x / 2) (y / 2) (z / 2)
    rw [dig_half] at h
    rw [encL, h]
    show _ = 8 * encL l (x / 2) (y / 2) (z / 2) + (x % 2 + 2 * (y % 2) + 4 * (z % 2)) + _
    rw [Nat.pow_succ, Nat.mul_add, Nat.mul_comm (8 ^ l) 8, Nat.mul_assoc]
    omega
theorem decL_lt : ∀ (l n : Nat), decL l n < 2 ^ l
  | 0, _ => by simp [decL]
  | l + 1, n => by
    have h := decL_lt l (n / 8)
    rw [Nat.pow_succ]
    show 2 * decL l (n / 8) + n % 2 < _
    omega
theorem decL_top : ∀ (l n : Nat), decL (l + 1) n = decL l n + 2 ^ l * (n / 8 ^ l % 2)
  | 0, n => by simp [decL]
  | l + 1, n => by
    have h := decL_top l (n / 8)
    rw [decL, h, Nat.div_div_eq_div_mul]
    show _ = 2 * decL l (n / 8) + n % 2 + _
    rw [Nat.pow_succ 8, Nat.pow_succ 2, Nat.mul_comm (8 ^ l) 8, Nat.mul_comm (2 ^ l) 2, Nat.mul_add, Nat.mul_assoc]
    omega
theorem dec_enc : ∀ (l x y z : Nat), decL l (encL l x y z) = x % 2 ^ l ∧ decL l (encL l x y z / 2) = y % 2 ^ l ∧ decL l (encL l x y z / 4) = z % 2 ^ l
  | 0, x, y, z => by simp [decL, Nat.mod_one]
  | l + 1, x, y, z => by
    obtain ⟨h1, h2, h3⟩ := dec_enc l (x / 2) (y / 2) (z / 2)
    rw [encL]
    generalize encL l (x / 2) (y / 2) (z / 2) = E at *
    have m : ∀ a : Nat, a % 2 ^ (l + 1) = 2 * (a / 2 % 2 ^ l) + a % 2 := fun a => by
      rw [Nat.pow_succ, Nat.mul_comm (2 ^ l) 2, Nat.mod_mul]
      omega
    refine ⟨?_, ?_, ?_⟩
    · rw [decL, m, ← h1]
      rw [show (8 * E + (x % 2 + 2 * (y % 2) + 4 * (z % 2))) / 8 = E by omega]
      omega
    · rw [decL, m, ← h2]
      rw [show (8 * E + (x % 2 + 2 * (y % 2) + 4 * (z % 2))) / 2 / 8 = E / 2 by omega]
      omega
    · rw [decL, m, ← h3]
      rw [show (8 * E + (x % 2 + 2 * (y % 2) + 4 * (z % 2))) / 4 / 8 = E / 4 by omega]
      omega
theorem enc_dec : ∀ (l n : Nat), encL l (decL l n) (decL l (n / 2)) (decL l (n / 4)) = n % 8 ^ l
  | 0, n => by simp [encL, Nat.mod_one]
  | l + 1, n => by
    have h := enc_dec l (n / 8)
    rw [encL, decL, decL, decL]
    rw [show n / 2 / 8 = n / 8 / 2 by omega, show n / 4 / 8 = n / 8 / 4 by omega]
    rw [show (2 * decL l (n / 8) + n % 2) / 2 = decL l (n / 8) by omega, show (2 * decL l (n / 8 / 2) + n / 2 % 2) / 2 = decL l (n / 8 / 2) by omega, show (2 * decL l (n / 8 / 4) + n / 4 % 2) / 2 = decL l (n / 8 / 4) by omega, h]
    rw [Nat.pow_succ, Nat.mul_comm (8 ^ l) 8, Nat.mod_mul]
    omega
/-- A point of the world. -/
def Pt.In (p : Pt) : Prop := (0 ≤ p.x ∧ p.x < 16384) ∧ (0 ≤ p.y ∧ p.y < 16384) ∧ (0 ≤ p.z ∧ p.z < 16384)
instance (p : Pt) : Decidable p.In := by unfold Pt.In; infer_instance
theorem Pt.In.at_ {p : Pt} (h : p.In) (k : Nat) : 0 ≤ p.at k ∧ p.at k < 16384 := by
  unfold Pt.at
  split
  · exact h.1
  · exact h.2.1
  · exact h.2.2
theorem Pt.In.of {p : Pt} (h : ∀ k, k < 3 → 0 ≤ p.at k ∧ p.at k < 16384) : p.In := ⟨h 0 (by omega), h 1 (by omega), h 2 (by omega)⟩
/-- Encode. -/
def mEnc (p : Pt) : Int := if p.In then (encL 14 p.x.toNat p.y.toNat p.z.toNat : Int) else -1
/-- Decode. -/
def mDecP (n : Nat) : Pt := ⟨(decL 14 n : Int), (decL 14 (n / 2) : Int), (decL 14 (n / 4) : Int)⟩
def mDec (n : Int) : Pt × Bool := if 0 ≤ n ∧ n < 4398046511104 then (mDecP n.toNat, true) else (⟨0, 0, 0⟩, false)
theorem mDecP_in (n : Nat) : (mDecP n).In := by
  have h1 := decL_lt 14 n
  have h2 := decL_lt 14 (n / 2)
  have h3 := decL_lt 14 (n / 4)
  unfold mDecP Pt.In
  simp only
  omega
theorem mEnc_in {p : Pt} (h : p.In) : 0 ≤ mEnc p ∧ mEnc p < 4398046511104 := by
  have h1 := encL_lt 14 p.x.toNat p.y.toNat p.z.toNat
  unfold mEnc
  rw [if_pos h]
  omega
theorem mEnc_out {p : Pt} (h : ¬ p.In) : mEnc p = -1 := by unfold mEnc; rw [if_neg h]
theorem mEnc_dec {n : Nat} (h : n < 4398046511104) : mEnc (mDecP n) = (n : Int) := by
  have hi := mDecP_in n
  have he := enc_dec 14 n
  unfold mEnc
  rw [if_pos hi]
  unfold mDecP
  simp only [Int.toNat_natCast]
  rw [he, Nat.mod_eq_of_lt (by omega)]
theorem mDec_enc {p : Pt} (h : p.In) : mDec (mEnc p) = (p, true) := by
  have hr := mEnc_in h
  obtain ⟨h1, h2, h3⟩ := dec_enc 14 p.x.toNat p.y.toNat p.z.toNat
  unfold mDec
  rw [if_pos hr]
  unfold mEnc
  rw [if_pos h, Int.toNat_natCast]
  unfold mDecP
  rw [h1, h2, h3]
  obtain ⟨x, y, z⟩ := p
  obtain ⟨a, b, c⟩ := h
  simp only at *
  rw [Nat.mod_eq_of_lt (by omega), Nat.mod_eq_of_lt (by omega), Nat.mod_eq_of_lt (by omega), Int.toNat_of_nonneg a.1, Int.toNat_of_nonneg b.1, Int.toNat_of_nonneg c.1]
end Go.Proofs.Ytkfijpghjjnpkaa
/-
  The small functions of the Morton layer: array, point, inside, bit. No statement is proved here.
-/
namespace Go.Proofs.Ytkfijpghjjnpkaa
open Go.RowKit
set_option linter.unusedVariables false

/-- Results: a struct or array variable, and a slot. -/
theorem res_cellslot {P : Program} {w : World} {fn : Func} {p q : Tmp} {ty : TypeId} {z : Array Value} {n b : Nat} (cs : List Value) (h : fn.results = #[.cell p ty, .tmp q]) (T : AgTy P ty z n) (tmps : Array Value) {v : Value}
    (hp : tmps.getD p undef = .pointer (some ⟨b, 0, none⟩)) (hq : tmps.getD q undef = v) (hl : cs.length = n) {t : TypeId} (hA : Arr w b t cs) :
    (results fn tmps).run P w = .ok (.tuple #[.agg cs.toArray, v]) w := by
  have hr := run_loadAgg (P := P) (w := w) T b 0 cs hl (fun j u hu => by rw [Nat.zero_add]; exact hA.cell hu)
  have hp' : tmps[p]?.getD undef = .pointer (some ⟨b, 0, none⟩) := by simpa using hp
  have hq' : tmps[q]?.getD undef = v := by simpa using hq
  simp only [results, h]
  simp [hp', hq', asAddr, hr]
def pcs (p : Pt) : List Value := [.int .i64 p.x, .int .i64 p.y, .int .i64 p.z]
theorem pcs_get (p : Pt) {k : Nat} (h : k < 3) : (pcs p)[k]? = some (.int .i64 (p.at k)) := by
  rcases (by omega : k = 0 ∨ k = 1 ∨ k = 2) with rfl | rfl | rfl <;> rfl
theorem pcs_one (p : Pt) : ∀ u ∈ pcs p, u.oneCell' = true := by
  intro u hu
  unfold pcs at hu
  simp only [List.mem_cons, List.not_mem_nil, or_false] at hu
  rcases hu with rfl | rfl | rfl <;> rfl
def p0 : Pt := ⟨0, 0, 0⟩
theorem Try.ag_pt : AgTy Try.prog 23 (pcs p0).toArray 3 := ⟨by kernel_rfl, by kernel_rfl, by kernel_rfl⟩
theorem Try.ag_i3 : AgTy Try.prog 57 (pcs p0).toArray 3 := ⟨by kernel_rfl, by kernel_rfl, by kernel_rfl⟩
theorem Try.und_i3 : Try.prog.underlying 57 = some (.array 3 3) := by kernel_rfl
def RetP (w : World) (p : Pt) (e : Ending) (w' : World) : Prop := e = .returned (.agg (pcs p).toArray) ∧ Below w.heap.size w w'
def RetI (w : World) (n : Int) (e : Ending) (w' : World) : Prop := e = .returned (.int .i64 n) ∧ Below w.heap.size w w'
def RetB (w : World) (b : Bool) (e : Ending) (w' : World) : Prop := e = .returned (.bool b) ∧ Below w.heap.size w w'

set_option maxRecDepth 100000 in
theorem array_any (p : Pt) (w : World) : Calls Try.prog 37 #[.agg (pcs p).toArray] w (RetP w p) := by
  go_enter Try.func37, Try.ntmps37
  go_wp2_with (with_reducible refine bxArr (cs := pcs p) (.tmp 0) (wn rfl) rfl rfl ?_)
  intro w1 h1 b1
  go_wp2_with (with_reducible refine alArr (z := pcs p0) Try.ag_i3 (wn rfl) rfl ?_)
  intro w2 h2 b2
  have l1 := h1.lt
  have hs := b1.size
  replace h1 := h1.below b2 l1
  have hb := b1.trans (b2.mono hs)
  clear b1 b2
  have c0 := h1.cell (i := 0) (v := .int .i64 p.x) rfl
  have c1 := h1.cell (i := 1) (v := .int .i64 p.y) rfl
  have c2 := h1.cell (i := 2) (v := .int .i64 p.z) rfl
  go_wp2_with (with_reducible refine stArrG (cs := pcs p) (.tmp 2) (.tmp 9) Try.ag_i3 (wn rfl) rfl rfl (by kernel_rfl) h2 rfl rfl (pcs_one _) ?_)
  intro w3 h3 hg
  go_wp2_with fail
  refine bodyPost_ret (v := .agg (pcs p).toArray) ?_ rfl ⟨rfl, hb.grown hg hb.size (fun k e => by cases e; exact hs)⟩
  exact res_cell1 _ Try.results37 Try.ag_i3 _ rfl rfl (fun j u hu => by rw [Nat.zero_add]; exact h3.cell hu)
set_option maxRecDepth 100000 in
theorem point_any (p : Pt) (w : World) : Calls Try.prog 34 #[.agg (pcs p).toArray] w (RetP w p) := by
  go_enter Try.func34, Try.ntmps34
  go_wp2_with (with_reducible refine bxArr (cs := pcs p) (.tmp 0) (wn rfl) rfl rfl ?_)
  intro w1 h1 b1
  go_wp2_with (with_reducible refine alArr (z := pcs p0) Try.ag_pt (wn rfl) rfl ?_)
  intro w2 h2 b2
  have l1 := h1.lt
  have hs := b1.size
  replace h1 := h1.below b2 l1
  have hb := b1.trans (b2.mono hs)
  clear b1 b2
  have c0 := h1.cell (i := 0) (v := .int .i64 p.x) rfl
  have c1 := h1.cell (i := 1) (v := .int .i64 p.y) rfl
  have c2 := h1.cell (i := 2) (v := .int .i64 p.z) rfl
  go_wp2_with (with_reducible refine stArrG (cs := pcs p) (.tmp 2) (.tmp 9) Try.ag_pt (wn rfl) rfl rfl (by kernel_rfl) h2 rfl rfl (pcs_one _) ?_)
  intro w3 h3 hg
  go_wp2_with fail
  refine bodyPost_ret (v := .agg (pcs p).toArray) ?_ rfl ⟨rfl, hb.grown hg hb.size (fun k e => by cases e; exact hs)⟩
  exact res_cell1 _ Try.results34 Try.ag_pt _ rfl rfl (fun j u hu => by rw [Nat.zero_add]; exact h3.cell hu)
set_option maxRecDepth 100000 in
set_option maxHeartbeats 1000000 in
theorem inside_any (p : Pt) (w : World) : Calls Try.prog 36 #[.agg (pcs p).toArray] w (RetB w (decide p.In)) := by
  go_enter Try.func36, Try.ntmps36
  go_wp2_with (with_reducible refine bxArr (cs := pcs p) (.tmp 0) (wn rfl) rfl rfl ?_)
  intro w1 h1 b1
  go_wp2_with (with_reducible refine ldArr (.tmp 1) Try.ag_pt (wn rfl) rfl rfl rfl h1 ?_)
  refine (array_any p _).mono ?_
  rintro e w2 ⟨rfl, b2⟩
  have hb := b1.trans (b2.mono b1.size)
  clear b1 b2 h1
  go_wp2_with fail
  go_loopw [7] (fun c wr => ∃ k : Nat, k ≤ 3 ∧ c = .int .i64 (k : Int) ∧ Hid (∀ j, j < k → 0 ≤ p.at j ∧ p.at j < 16384) ∧ wr = w2) (fun c _ => 3 - (intOf c).toNat)
  case atStart => exact ⟨0, by omega, rfl, Lib.hid (fun j h => by omega), rfl⟩
  case round =>
    obtain ⟨k, hk, rfl, HK, rfl⟩ := hrel
    by_cases hlt : k < 3
    · have hg := pcs_get p hlt
      have HX : Hid (0 ≤ p.at k → p.at k < 16384 → ∀ j, j < k + 1 → 0 ≤ p.at j ∧ p.at j < 16384) := Lib.hid (fun e1 e2 j h => by
        by_cases hjk : j = k
        · subst hjk; exact ⟨e1, e2⟩
        · exact HK.out j (by omega))
      have HB : Hid (¬ (0 ≤ p.at k ∧ p.at k < 16384) → decide p.In = false) := Lib.hid (fun h => by
        rw [decide_eq_false_iff_not]
        exact fun hi => h (hi.at_ k))
      clear HK
      generalize p.at k = v at *
      by_cases h0 : v < 0
      · go_wp2_with (with_reducible refine ixArr (.tmp 6) (.tmp 7) k _ Try.und_i3 Try.und_int Try.one_int (wn rfl) rfl rfl rfl rfl hg rfl ?_)
        go_ret
        exact ⟨by rw [HB.out (by omega)]; rfl, hb⟩
      · by_cases h16 : v < 16384
        · have HX2 := Lib.hid (HX.out (by omega) (by omega))
          go_wp2_with (with_reducible refine ixArr (.tmp 6) (.tmp 7) k _ Try.und_i3 Try.und_int Try.one_int (wn rfl) rfl rfl rfl rfl hg rfl ?_)
          refine ⟨⟨k + 1, by omega, by simp, HX2, trivial⟩, ?_⟩
          simp [intOf]; omega
        · go_wp2_with (with_reducible refine ixArr (.tmp 6) (.tmp 7) k _ Try.und_i3 Try.und_int Try.one_int (wn rfl) rfl rfl rfl rfl hg rfl ?_)
          go_ret
          exact ⟨by rw [HB.out (by omega)]; rfl, hb⟩
    · obtain rfl : k = 3 := by omega
      have HI : Hid (decide p.In = true) := Lib.hid (by rw [decide_eq_true_iff]; exact Pt.In.of HK.out)
      go_wp2_with fail
      go_ret
      exact ⟨by rw [HI.out]; rfl, hb⟩
theorem len8_size : Lib.len8tab.size = 256 := by decide +kernel
theorem len8_fin : ∀ n : Fin 256, (Lib.len8tab[n.val]'(by rw [len8_size]; exact n.2)).toNat = Lib.bitLen n.val := by decide +kernel
theorem len8_at (n : Nat) (h : n < 256) (hs : n < Lib.len8tab.size) : (Lib.len8tab[n]'hs).toNat = Lib.bitLen n := len8_fin ⟨n, h⟩
set_option maxHeartbeats 4000000 in
set_option maxRecDepth 100000 in
theorem bits_Len64 (x : Int) (w : World) (h0 : 0 ≤ x) (h1 : x < 65536) :
    Calls Try.prog 47 #[.int .u64 x] w fun e w' => e = .returned (.int .i64 (Lib.bitLen x.toNat)) ∧ w' = w := by
  have hsz := len8_size
  by_cases h8 : x < 256
  · go_enter Try.func47, Try.ntmps47
    go_wp2_with fail
    go_ret
    refine ⟨congrArg Ending.returned (congrArg (Value.int IntKind.i64) ?_), rfl⟩
    rw [len8_at _ (by omega)]
    have hl := Lib.bitLen_le x.toNat 8 (by omega) (by omega)
    unfold wrap64
    omega
  · have hx : x / 256 < 256 := by omega
    go_enter Try.func47, Try.ntmps47
    go_wp2_with fail
    go_ret
    refine ⟨congrArg Ending.returned (congrArg (Value.int IntKind.i64) ?_), rfl⟩
    rw [len8_at _ (by omega), Lib.bitLen_shift8 x.toNat (by omega) (by omega), show (x / 256).toNat = x.toNat / 256 by omega]
    have hl := Lib.bitLen_le (x.toNat / 256) 8 (by omega) (by omega)
    unfold wrap64
    omega
theorem bits_Len (x : Int) (w : World) (h0 : 0 ≤ x) (h1 : x < 65536) :
    Calls Try.prog 38 #[.int .u64 x] w fun e w' => e = .returned (.int .i64 (Lib.bitLen x.toNat)) ∧ w' = w := by
  go_enter Try.func38, Try.ntmps38
  go_wp2_with fail
  refine (bits_Len64 x _ h0 h1).mono ?_
  rintro e w' ⟨rfl, rfl⟩
  go_wp2_with fail
  go_ret
  exact ⟨rfl, rfl⟩
set_option maxHeartbeats 1000000 in
theorem cmp_Compare_int (x y : Int) (w : World) :
    Calls Try.prog 40 #[.int .i64 x, .int .i64 y] w fun e w' => e = .returned (.int .i64 (Lib.compareInt x y)) ∧ w' = w := by
  go_enter Try.func40, Try.ntmps40
  go_wp2
  all_goals (go_ret; refine ⟨?_, rfl⟩; unfold Lib.compareInt; (repeat' split) <;> first | rfl | (exfalso; omega))

end Go.Proofs.Ytkfijpghjjnpkaa
/-
  Inside, bit, Encode and Decode of the Morton layer and of its reference. No statement is proved here.
-/
namespace Go.Proofs.Ytkfijpghjjnpkaa
open Go.RowKit
set_option linter.unusedVariables false

set_option maxRecDepth 100000 in
set_option maxHeartbeats 1000000 in
theorem refInside_any (p : Pt) (w : World) : Calls Try.prog 30 #[.agg (pcs p).toArray] w (RetB w (decide p.In)) := by
  go_enter Try.func30, Try.ntmps30
  go_wp2_with (with_reducible refine bxArr (cs := pcs p) (.tmp 0) (wn rfl) rfl rfl ?_)
  intro w1 h1 b1
  have c0 := h1.cell (i := 0) (v := .int .i64 p.x) rfl
  have c1 := h1.cell (i := 1) (v := .int .i64 p.y) rfl
  have c2 := h1.cell (i := 2) (v := .int .i64 p.z) rfl
  have HI : Hid (p.In ↔ ((0 ≤ p.x ∧ p.x < 16384) ∧ (0 ≤ p.y ∧ p.y < 16384) ∧ (0 ≤ p.z ∧ p.z < 16384))) := Lib.hid Iff.rfl
  have HD := Lib.hid (show ∀ b : Bool, (b = true ↔ p.In) → decide p.In = b from fun b h => by
    by_cases hp : p.In
    · rw [decide_eq_true hp, h.2 hp]
    · rw [decide_eq_false hp]
      cases b with
      | true => exact absurd (h.1 rfl) hp
      | false => rfl)
  generalize p.x = x at *
  generalize p.y = y at *
  generalize p.z = z at *
  go_wp2_with fail
  all_goals (go_ret; refine ⟨?_, b1⟩; rw [HD.out _ ?_]; rfl; rw [HI.out])
  all_goals (simp; omega)
set_option maxRecDepth 100000 in
theorem bit_any (n : Int) (i : Nat) (w : World) (hn : 0 ≤ n) (hn2 : n < 4611686018427387904) (hi : i < 62) :
    Calls Try.prog 35 #[.int .i64 n, .int .i64 (i : Int)] w fun e w' => e = .returned (.int .i64 ((n.toNat / 2 ^ i % 2 : Nat) : Int)) ∧ w' = w := by
  obtain ⟨m, rfl⟩ : ∃ m : Nat, n = (m : Int) := ⟨n.toNat, by omega⟩
  have hb : bits .and .i64 ((m : Int) / 2 ^ i) 1 = ((m / 2 ^ i % 2 : Nat) : Int) := by
    have h1 : ((m : Int) / 2 ^ i) = ((m / 2 ^ i : Nat) : Int) := by simp
    have h2 : m / 2 ^ i ≤ m := Nat.div_le_self _ _
    have h3 := i64_and_n (m / 2 ^ i) 1 (by omega) (by omega)
    rw [Nat.and_one_is_mod] at h3
    rw [h1]
    exact h3
  rw [Int.toNat_natCast]
  have HB := Lib.hid hb
  clear hb
  go_enter Try.func35, Try.ntmps35
  go_wp2_with fail
  go_ret
  exact ⟨congrArg (fun z => Ending.returned (.int .i64 z)) HB.out, rfl⟩
/-- The digits of the first k coordinates. -/
def digTo (x y z i : Nat) : Nat → Nat
  | 0 => 0
  | 1 => x / 2 ^ i % 2
  | 2 => x / 2 ^ i % 2 + 2 * (y / 2 ^ i % 2)
  | _ => dig x y z i
theorem digTo_lt (x y z i k : Nat) (h : k < 3) : digTo x y z i k < 2 ^ k := by
  rcases (by omega : k = 0 ∨ k = 1 ∨ k = 2) with rfl | rfl | rfl <;> simp [digTo] <;> omega
theorem digTo_succ (p : Pt) (i k : Nat) (h : k < 3) : digTo p.x.toNat p.y.toNat p.z.toNat i (k + 1) = digTo p.x.toNat p.y.toNat p.z.toNat i k + 2 ^ k * ((p.at k).toNat / 2 ^ i % 2) := by
  rcases (by omega : k = 0 ∨ k = 1 ∨ k = 2) with rfl | rfl | rfl <;> simp [digTo, Pt.at, dig]
theorem mo_or (n j b : Nat) (hn : n < 2 ^ j) (hb : b < 2) (hj : j < 60) : bits .or .i64 (n : Int) (wrap64 ((b : Int) * 2 ^ j)) = ((n + 2 ^ j * b : Nat) : Int) := by
  have hp : 2 ^ j ≤ 2 ^ 59 := Nat.pow_le_pow_right (by decide) (by omega)
  have hpp : (2 : Int) ^ j = ((2 ^ j : Nat) : Int) := by simp
  have hw : wrap64 ((b : Int) * 2 ^ j) = ((2 ^ j * b : Nat) : Int) := by
    rw [hpp, ← Int.natCast_mul, Nat.mul_comm]
    have : 2 ^ j * b ≤ 2 ^ j * 1 := Nat.mul_le_mul_left _ (by omega)
    unfold wrap64
    omega
  have hm : 2 ^ j * b ≤ 2 ^ j * 1 := Nat.mul_le_mul_left _ (by omega)
  rw [hw, i64_or_n n (2 ^ j * b) (by omega) (by omega)]
  congr 1
  rw [Nat.or_comm, ← Nat.two_pow_add_eq_or_of_lt hn b]
  omega

set_option maxRecDepth 100000 in
set_option maxHeartbeats 2000000 in
theorem encode_any (p : Pt) (w : World) : Calls Try.prog 13 #[.agg (pcs p).toArray] w (RetI w (mEnc p)) := by
  have hin := inside_any p
  by_cases hp : p.In
  · rw [decide_eq_true hp] at hin
    have hE : mEnc p = ((encL 14 p.x.toNat p.y.toNat p.z.toNat : Nat) : Int) := by unfold mEnc; rw [if_pos hp]
    rw [hE]
    have HIN := Lib.hid hin
    have HAR := Lib.hid (array_any p)
    have HP := Lib.hid hp
    clear hin hE
    go_enter Try.func13, Try.ntmps13
    go_wp2_with (with_reducible refine bxArr (cs := pcs p) (.tmp 0) (wn rfl) rfl rfl ?_)
    intro w1 h1 hb
    go_wp2_with (with_reducible refine ldArr (.tmp 1) Try.ag_pt (wn rfl) rfl rfl rfl h1 ?_)
    refine (HIN.out _).mono ?_
    rintro e w2 ⟨rfl, b2⟩
    replace h1 := h1.below b2 h1.lt
    replace hb := hb.trans (b2.mono hb.size)
    clear b2
    go_wp2_with fail
    go_loopw [3, 10] (fun n i wr => ∃ (k N : Nat), k ≤ 14 ∧ i = .int .i64 (k : Int) ∧ n = .int .i64 (N : Int) ∧ Hid (N = encL k p.x.toNat p.y.toNat p.z.toNat) ∧ Arr wr w.heap.size 23 (pcs p) ∧ Below w.heap.size w wr) (fun _ i _ => 14 - (intOf i).toNat)
    case atStart => exact ⟨0, 0, by omega, rfl, rfl, Lib.hid rfl, h1, hb⟩
    case round =>
      clear h1 hb
      obtain ⟨i, N, hk, rfl, rfl, HN, h1, hb⟩ := hrel
      by_cases hlt : i < 14
      · go_wp2_with (with_reducible refine ldArr (.tmp 1) Try.ag_pt (wn rfl) rfl rfl rfl h1 ?_)
        refine (HAR.out _).mono ?_
        rintro e w3 ⟨rfl, b3⟩
        replace h1 := h1.below b3 h1.lt
        replace hb := hb.trans (b3.mono hb.size)
        clear b3
        go_wp2_with fail
        go_loopw [3, 15] (fun n kk wi => ∃ (k M : Nat), k ≤ 3 ∧ kk = .int .i64 (k : Int) ∧ n = .int .i64 (M : Int) ∧ Hid (M = encL i p.x.toNat p.y.toNat p.z.toNat + 8 ^ i * digTo p.x.toNat p.y.toNat p.z.toNat i k) ∧ Arr wi w.heap.size 23 (pcs p) ∧ Below w.heap.size w wi) (fun _ kk _ => 3 - (intOf kk).toNat)
        case atStart => exact ⟨0, N, by omega, rfl, rfl, Lib.hid (by rw [HN.out]; rfl), h1, hb⟩
        case round =>
          clear h1 hb HN
          obtain ⟨k, M, hk3, rfl, rfl, HM, h1, hb⟩ := hrel
          by_cases h3 : k < 3
          · have hg := pcs_get p h3
            have hc := HP.out.at_ k
            obtain ⟨c, hcv⟩ : ∃ c : Nat, p.at k = (c : Int) := ⟨(p.at k).toNat, by omega⟩
            obtain ⟨j, hj⟩ : ∃ j, j = 3 * i + k := ⟨_, rfl⟩
            have hji : (3 * (i : Int) + (k : Int)) = (j : Int) := by omega
            have HB := Lib.hid (show bits .and .i64 ((c : Int) / 2 ^ i) 1 = ((c / 2 ^ i % 2 : Nat) : Int) from by
              have h1 : ((c : Int) / 2 ^ i) = ((c / 2 ^ i : Nat) : Int) := by simp
              have h2 : c / 2 ^ i ≤ c := Nat.div_le_self _ _
              have h3 := i64_and_n (c / 2 ^ i) 1 (by omega) (by omega)
              rw [Nat.and_one_is_mod] at h3
              rw [h1]
              exact h3)
            have hbl : c / 2 ^ i % 2 < 2 := Nat.mod_lt _ (by decide)
            have hML : M < 2 ^ j := by
              rw [HM.out, hj, Nat.pow_add, Nat.pow_mul]
              have e1 := encL_lt i p.x.toNat p.y.toNat p.z.toNat
              have e2 := digTo_lt p.x.toNat p.y.toNat p.z.toNat i k h3
              have e3 : (2 ^ 3) ^ i * (digTo p.x.toNat p.y.toNat p.z.toNat i k + 1) ≤ (2 ^ 3) ^ i * 2 ^ k := Nat.mul_le_mul_left _ e2
              rw [Nat.mul_add, Nat.mul_one] at e3
              rw [show (2 : Nat) ^ 3 = 8 by decide] at e3 ⊢
              omega
            have HOR := Lib.hid (mo_or M j (c / 2 ^ i % 2) hML hbl (by omega))
            have HM2 : Hid (M + 2 ^ j * (c / 2 ^ i % 2) = encL i p.x.toNat p.y.toNat p.z.toNat + 8 ^ i * digTo p.x.toNat p.y.toNat p.z.toNat i (k + 1)) := Lib.hid (by
              rw [HM.out, digTo_succ p i k h3, hcv, Int.toNat_natCast, hj, Nat.pow_add, Nat.pow_mul, show (2 : Nat) ^ 3 = 8 by decide, Nat.mul_add, Nat.mul_assoc]
              omega)
            rw [hcv] at hg
            clear HM hc hcv hML hj
            generalize c / 2 ^ i % 2 = b at *
            go_wp2_with (with_reducible refine ixArr (.tmp 14) (.tmp 15) k _ Try.und_i3 Try.und_int Try.one_int (wn rfl) rfl rfl rfl rfl hg rfl ?_)
            rw [HB.out]
            rw [HOR.out]
            refine ⟨⟨k + 1, M + 2 ^ j * b, by omega, by simp, rfl, HM2, h1, hb⟩, ?_⟩
            simp [intOf]; omega
          · obtain rfl : k = 3 := by omega
            have HN2 : Hid (M = encL (i + 1) p.x.toNat p.y.toNat p.z.toNat) := Lib.hid (by rw [HM.out, encL_top]; rfl)
            go_wp2_with fail
            refine ⟨⟨i + 1, M, by omega, by simp, rfl, HN2, h1, hb⟩, ?_⟩
            simp [intOf]; omega
      · obtain rfl : i = 14 := by omega
        go_wp2_with fail
        go_ret
        exact ⟨by rw [← HN.out]; rfl, hb⟩
  · rw [decide_eq_false hp] at hin
    rw [mEnc_out hp]
    go_enter Try.func13, Try.ntmps13
    go_wp2_with (with_reducible refine bxArr (cs := pcs p) (.tmp 0) (wn rfl) rfl rfl ?_)
    intro w1 h1 hb
    go_wp2_with (with_reducible refine ldArr (.tmp 1) Try.ag_pt (wn rfl) rfl rfl rfl h1 ?_)
    refine (hin _).mono ?_
    rintro e w2 ⟨rfl, b2⟩
    replace hb := hb.trans (b2.mono hb.size)
    clear b2
    go_wp2_with fail
    go_ret
    exact ⟨rfl, hb⟩
end Go.Proofs.Ytkfijpghjjnpkaa
/-
  Encode and Decode of the Morton layer's reference. No statement is proved here.
-/
namespace Go.Proofs.Ytkfijpghjjnpkaa
open Go.RowKit
set_option linter.unusedVariables false
set_option linter.unusedSimpArgs false

def RetPB (w : World) (r : Pt × Bool) (e : Ending) (w' : World) : Prop := e = .returned (.tuple #[.agg (pcs r.1).toArray, .bool r.2]) ∧ Below w.heap.size w w'
set_option maxRecDepth 100000 in
set_option maxHeartbeats 2000000 in
theorem refEncode_any (p : Pt) (w : World) : Calls Try.prog 14 #[.agg (pcs p).toArray] w (RetI w (mEnc p)) := by
  have hin := refInside_any p
  by_cases hp : p.In
  · rw [decide_eq_true hp] at hin
    have hE : mEnc p = ((encL 14 p.x.toNat p.y.toNat p.z.toNat : Nat) : Int) := by unfold mEnc; rw [if_pos hp]
    rw [hE]
    have HIN := Lib.hid hin
    obtain ⟨X, Y, Z, rfl⟩ : ∃ X Y Z : Nat, p = ⟨(X : Int), (Y : Int), (Z : Int)⟩ := ⟨p.x.toNat, p.y.toNat, p.z.toNat, by
      obtain ⟨x, y, z⟩ := p
      obtain ⟨h1, h2, h3⟩ := hp
      simp only at h1 h2 h3 ⊢
      rw [Int.toNat_of_nonneg h1.1, Int.toNat_of_nonneg h2.1, Int.toNat_of_nonneg h3.1]⟩
    obtain ⟨hx, hy, hz⟩ := hp
    simp only [Int.toNat_natCast] at hx hy hz ⊢
    clear hin hE
    go_enter Try.func14, Try.ntmps14
    go_wp2_with (with_reducible refine bxArr (cs := pcs ⟨(X : Int), (Y : Int), (Z : Int)⟩) (.tmp 0) (wn rfl) rfl rfl ?_)
    intro w1 h1 hb
    go_wp2_with (with_reducible refine ldArr (.tmp 1) Try.ag_pt (wn rfl) rfl rfl rfl h1 ?_)
    refine (HIN.out _).mono ?_
    rintro e w2 ⟨rfl, b2⟩
    replace h1 := h1.below b2 h1.lt
    replace hb := hb.trans (b2.mono hb.size)
    clear b2
    go_wp2_with fail
    go_loopw [4, 5] (fun n i wr => ∃ (k N : Nat) (J : Int), k ≤ 14 ∧ i = .int .i64 J ∧ J = (k : Int) - 1 ∧ n = .int .i64 (N : Int) ∧ Hid (N = encL (14 - k) (X / 2 ^ k) (Y / 2 ^ k) (Z / 2 ^ k)) ∧ Arr wr w.heap.size 23 (pcs ⟨(X : Int), (Y : Int), (Z : Int)⟩) ∧ Below w.heap.size w wr) (fun _ i _ => (intOf i + 1).toNat)
    case atStart => exact ⟨14, 0, _, by omega, rfl, by omega, rfl, Lib.hid rfl, h1, hb⟩
    case round =>
      clear h1 hb
      obtain ⟨k, N, J, hk, rfl, hJ, rfl, HN, h1, hb⟩ := hrel
      by_cases h0 : 0 < k
      · obtain ⟨j, rfl⟩ : ∃ j, k = j + 1 := ⟨k - 1, by omega⟩
        obtain rfl : J = (j : Int) := by omega
        clear hJ
        have HBX := Lib.hid (fun w => bit_any (X : Int) j w (by omega) (by omega) (by omega))
        have HBY := Lib.hid (fun w => bit_any (Y : Int) j w (by omega) (by omega) (by omega))
        have HBZ := Lib.hid (fun w => bit_any (Z : Int) j w (by omega) (by omega) (by omega))
        have HN2 : Hid (8 * N + X / 2 ^ j % 2 + 2 * (Y / 2 ^ j % 2) + 4 * (Z / 2 ^ j % 2) = encL (14 - j) (X / 2 ^ j) (Y / 2 ^ j) (Z / 2 ^ j)) := Lib.hid (by
          have hd : ∀ a : Nat, a / 2 ^ j / 2 = a / 2 ^ (j + 1) := fun a => by rw [Nat.div_div_eq_div_mul, ← Nat.pow_succ]
          have he : encL (14 - j) (X / 2 ^ j) (Y / 2 ^ j) (Z / 2 ^ j) = 8 * encL (14 - (j + 1)) (X / 2 ^ (j + 1)) (Y / 2 ^ (j + 1)) (Z / 2 ^ (j + 1)) + (X / 2 ^ j % 2 + 2 * (Y / 2 ^ j % 2) + 4 * (Z / 2 ^ j % 2)) := by
            rw [show 14 - j = (14 - (j + 1)) + 1 by omega, encL, hd, hd, hd]
          rw [he, ← HN.out]
          omega)
        have hNl : N < 4398046511104 := by
          rw [HN.out]
          have h5 := encL_lt (14 - (j + 1)) (X / 2 ^ (j + 1)) (Y / 2 ^ (j + 1)) (Z / 2 ^ (j + 1))
          have h6 : 8 ^ (14 - (j + 1)) ≤ 8 ^ 14 := Nat.pow_le_pow_right (by decide) (by omega)
          omega
        rw [Int.toNat_natCast] at HBX HBY HBZ
        have bx2 : X / 2 ^ j % 2 < 2 := Nat.mod_lt _ (by decide)
        have by2 : Y / 2 ^ j % 2 < 2 := Nat.mod_lt _ (by decide)
        have bz2 : Z / 2 ^ j % 2 < 2 := Nat.mod_lt _ (by decide)
        clear HN
        generalize X / 2 ^ j % 2 = bx at *
        generalize Y / 2 ^ j % 2 = by_ at *
        generalize Z / 2 ^ j % 2 = bz at *
        go_wp2_with fail
        refine rgStart (fun w' => Arr w' w.heap.size 23 (pcs ⟨X, Y, Z⟩)) (by kernel_rfl) ?_
        have hq : (fun w' : World => Arr w' w.heap.size 23 (pcs ⟨X, Y, Z⟩)) wr.drew := h1.drew
        refine rgTake (S := fun w' => Arr w' w.heap.size 23 (pcs ⟨X, Y, Z⟩)) (i := 0) (v := .int .i64 (N : Int)) rfl (by kernel_rfl) (by kernel_rfl) (fun _ _ _ h => h) (fun w _ => by kernel_rfl) hq ?_
        refine rgTake (S := fun w' => Arr w' w.heap.size 23 (pcs ⟨X, Y, Z⟩)) (i := 1) (v := .int .i64 ((8 * N : Nat) : Int)) rfl (by kernel_rfl) (by kernel_rfl) (fun _ _ _ h => h) (fun w _ => mulRun (A := 8) (B := (N : Int)) (.const (.int .i64 8)) (.tmp 14) rfl rfl (by kernel_rfl) (by omega) (by omega)) hq ?_
        refine rgTake (S := fun w' => Arr w' w.heap.size 23 (pcs ⟨X, Y, Z⟩)) (i := 2) (v := .pointer (some ⟨w.heap.size, 0, none⟩)) rfl (by kernel_rfl) (by kernel_rfl) (fun _ _ _ h => h) (fun w _ => by kernel_rfl) hq ?_
        refine rgTake (S := fun w' => Arr w' w.heap.size 23 (pcs ⟨X, Y, Z⟩)) (i := 3) (v := .int .i64 (X : Int)) rfl (by kernel_rfl) (by kernel_rfl) (fun _ _ _ h => h) (fun w h => ldRun (.tmp 16) (by kernel_rfl) rfl (by kernel_rfl) (h.cell (i := 0) rfl)) hq ?_
        refine rgTake (S := fun w' => Arr w' w.heap.size 23 (pcs ⟨X, Y, Z⟩)) (i := 4) (v := .int .i64 (j : Int)) rfl (by kernel_rfl) (by kernel_rfl) (fun _ _ _ h => h) (fun w _ => by kernel_rfl) hq ?_
        refine rgTake (S := fun w' => Arr w' w.heap.size 23 (pcs ⟨X, Y, Z⟩)) (i := 7) (v := .pointer (some ⟨w.heap.size, 1, none⟩)) rfl (by kernel_rfl) (by kernel_rfl) (fun _ _ _ h => h) (fun w _ => by kernel_rfl) hq ?_
        refine rgTake (S := fun w' => Arr w' w.heap.size 23 (pcs ⟨X, Y, Z⟩)) (i := 8) (v := .int .i64 (Y : Int)) rfl (by kernel_rfl) (by kernel_rfl) (fun _ _ _ h => h) (fun w h => ldRun (.tmp 21) (by kernel_rfl) rfl (by kernel_rfl) (h.cell (i := 1) rfl)) hq ?_
        refine rgTake (S := fun w' => Arr w' w.heap.size 23 (pcs ⟨X, Y, Z⟩)) (i := 9) (v := .int .i64 (j : Int)) rfl (by kernel_rfl) (by kernel_rfl) (fun _ _ _ h => h) (fun w _ => by kernel_rfl) hq ?_
        refine rgTake (S := fun w' => Arr w' w.heap.size 23 (pcs ⟨X, Y, Z⟩)) (i := 13) (v := .pointer (some ⟨w.heap.size, 2, none⟩)) rfl (by kernel_rfl) (by kernel_rfl) (fun _ _ _ h => h) (fun w _ => by kernel_rfl) hq ?_
        refine rgTake (S := fun w' => Arr w' w.heap.size 23 (pcs ⟨X, Y, Z⟩)) (i := 14) (v := .int .i64 (Z : Int)) rfl (by kernel_rfl) (by kernel_rfl) (fun _ _ _ h => h) (fun w h => ldRun (.tmp 27) (by kernel_rfl) rfl (by kernel_rfl) (h.cell (i := 2) rfl)) hq ?_
        refine rgTake (S := fun w' => Arr w' w.heap.size 23 (pcs ⟨X, Y, Z⟩)) (i := 15) (v := .int .i64 (j : Int)) rfl (by kernel_rfl) (by kernel_rfl) (fun _ _ _ h => h) (fun w _ => by kernel_rfl) hq ?_
        try simp only [Act.put, List.setIfInBounds_toArray, List.set_cons_succ, List.set_cons_zero]
        refine rgNext (S := fun w' => Arr w' w.heap.size 23 (pcs ⟨X, Y, Z⟩)) (i := 5) (by kernel_rfl) rfl ?_
        refine callOp 35 [.int .i64 (X : Int), .int .i64 (j : Int)] [] [] (by kernel_rfl) (by kernel_rfl) rfl rfl rfl ?_
        refine (HBX.out _).mono ?_
        rintro e wz ⟨rfl, rfl⟩
        refine ⟨_, rfl, ?_⟩
        refine rgBack hq ?_
        refine rgTake (S := fun w' => Arr w' w.heap.size 23 (pcs ⟨X, Y, Z⟩)) (i := 6) (v := .int .i64 ((8 * N + bx : Nat) : Int)) rfl (by kernel_rfl) (by kernel_rfl) (fun _ _ _ h => h) (fun w _ => addRun (A := ((8 * N : Nat) : Int)) (B := (bx : Int)) (.tmp 15) (.tmp 19) rfl (by kernel_rfl) (by kernel_rfl) (by omega) (by omega)) hq ?_
        try simp only [Act.put, List.setIfInBounds_toArray, List.set_cons_succ, List.set_cons_zero]
        refine rgNext (S := fun w' => Arr w' w.heap.size 23 (pcs ⟨X, Y, Z⟩)) (i := 10) (by kernel_rfl) rfl ?_
        refine callOp 35 [.int .i64 (Y : Int), .int .i64 (j : Int)] [] [] (by kernel_rfl) (by kernel_rfl) rfl rfl rfl ?_
        refine (HBY.out _).mono ?_
        rintro e wz ⟨rfl, rfl⟩
        refine ⟨_, rfl, ?_⟩
        refine rgBack hq ?_
        refine rgTake (S := fun w' => Arr w' w.heap.size 23 (pcs ⟨X, Y, Z⟩)) (i := 11) (v := .int .i64 ((2 * by_ : Nat) : Int)) rfl (by kernel_rfl) (by kernel_rfl) (fun _ _ _ h => h) (fun w _ => mulRun (A := 2) (B := (by_ : Int)) (.const (.int .i64 2)) (.tmp 24) rfl rfl (by kernel_rfl) (by omega) (by omega)) hq ?_
        refine rgTake (S := fun w' => Arr w' w.heap.size 23 (pcs ⟨X, Y, Z⟩)) (i := 12) (v := .int .i64 ((8 * N + bx + 2 * by_ : Nat) : Int)) rfl (by kernel_rfl) (by kernel_rfl) (fun _ _ _ h => h) (fun w _ => addRun (A := ((8 * N + bx : Nat) : Int)) (B := ((2 * by_ : Nat) : Int)) (.tmp 20) (.tmp 25) rfl (by kernel_rfl) (by kernel_rfl) (by omega) (by omega)) hq ?_
        try simp only [Act.put, List.setIfInBounds_toArray, List.set_cons_succ, List.set_cons_zero]
        refine rgNext (S := fun w' => Arr w' w.heap.size 23 (pcs ⟨X, Y, Z⟩)) (i := 16) (by kernel_rfl) rfl ?_
        refine callOp 35 [.int .i64 (Z : Int), .int .i64 (j : Int)] [] [] (by kernel_rfl) (by kernel_rfl) rfl rfl rfl ?_
        refine (HBZ.out _).mono ?_
        rintro e wz ⟨rfl, rfl⟩
        refine ⟨_, rfl, ?_⟩
        refine rgBack hq ?_
        refine rgTake (S := fun w' => Arr w' w.heap.size 23 (pcs ⟨X, Y, Z⟩)) (i := 17) (v := .int .i64 ((4 * bz : Nat) : Int)) rfl (by kernel_rfl) (by kernel_rfl) (fun _ _ _ h => h) (fun w _ => mulRun (A := 4) (B := (bz : Int)) (.const (.int .i64 4)) (.tmp 30) rfl rfl (by kernel_rfl) (by omega) (by omega)) hq ?_
        refine rgTake (S := fun w' => Arr w' w.heap.size 23 (pcs ⟨X, Y, Z⟩)) (i := 18) (v := .int .i64 ((8 * N + bx + 2 * by_ + 4 * bz : Nat) : Int)) rfl (by kernel_rfl) (by kernel_rfl) (fun _ _ _ h => h) (fun w _ => addRun (A := ((8 * N + bx + 2 * by_ : Nat) : Int)) (B := ((4 * bz : Nat) : Int)) (.tmp 26) (.tmp 31) rfl (by kernel_rfl) (by kernel_rfl) (by omega) (by omega)) hq ?_
        refine rgTake (S := fun w' => Arr w' w.heap.size 23 (pcs ⟨X, Y, Z⟩)) (i := 19) (v := .int .i64 ((8 * N + bx + 2 * by_ + 4 * bz : Nat) : Int)) rfl (by kernel_rfl) (by kernel_rfl) (fun _ _ _ h => h) (fun w _ => by kernel_rfl) hq ?_
        refine rgDone (by kernel_rfl) ?_
        try simp only [Act.put, List.setIfInBounds_toArray, List.set_cons_succ, List.set_cons_zero]
        go_wp2_with fail
        refine ⟨⟨j, _, _, by omega, rfl, by omega, rfl, HN2, h1.drew, hb.drew⟩, ?_⟩
        simp [intOf] <;> omega
      · obtain rfl : k = 0 := by omega
        subst hJ
        have HN2 : Hid (N = encL 14 X Y Z) := Lib.hid (by rw [HN.out]; simp)
        go_wp2_with fail
        go_ret
        exact ⟨by rw [← HN2.out]; rfl, hb⟩
  · rw [decide_eq_false hp] at hin
    rw [mEnc_out hp]
    go_enter Try.func14, Try.ntmps14
    go_wp2_with (with_reducible refine bxArr (cs := pcs p) (.tmp 0) (wn rfl) rfl rfl ?_)
    intro w1 h1 hb
    go_wp2_with (with_reducible refine ldArr (.tmp 1) Try.ag_pt (wn rfl) rfl rfl rfl h1 ?_)
    refine (hin _).mono ?_
    rintro e w2 ⟨rfl, b2⟩
    replace hb := hb.trans (b2.mono hb.size)
    clear b2
    go_wp2_with fail
    go_ret
    exact ⟨rfl, hb⟩
set_option maxRecDepth 100000 in
set_option maxHeartbeats 4000000 in
theorem refDecode_any (n : Int) (w : World) : Calls Try.prog 10 #[.int .i64 n] w (RetPB w (mDec n)) := by
  unfold mDec
  by_cases h0 : n < 0
  · rw [if_neg (by omega)]
    go_enter Try.func10, Try.ntmps10
    go_wp2_with (with_reducible refine alArr (z := pcs p0) Try.ag_pt (wn rfl) rfl ?_)
    intro w1 h2 hb
    go_wp2_with (with_reducible refine stArrG (cs := pcs p0) (.tmp 2) (.tmp 12) Try.ag_pt (wn rfl) rfl rfl (by kernel_rfl) h2 rfl rfl (pcs_one _) ?_)
    intro w2 h2 hg
    replace hb := hb.grown hg hb.size (fun k e => by cases e; exact Nat.le_refl _)
    go_wp2_with fail
    exact bodyPost_ret (res_cellslot (pcs p0) Try.results10 Try.ag_pt _ rfl rfl rfl h2) rfl ⟨rfl, hb⟩
  · by_cases hbig : 4398046511104 ≤ n
    · rw [if_neg (by omega)]
      go_enter Try.func10, Try.ntmps10
      go_wp2_with (with_reducible refine alArr (z := pcs p0) Try.ag_pt (wn rfl) rfl ?_)
      intro w1 h2 hb
      go_wp2_with (with_reducible refine stArrG (cs := pcs p0) (.tmp 2) (.tmp 12) Try.ag_pt (wn rfl) rfl rfl (by kernel_rfl) h2 rfl rfl (pcs_one _) ?_)
      intro w2 h2 hg
      replace hb := hb.grown hg hb.size (fun k e => by cases e; exact Nat.le_refl _)
      go_wp2_with fail
      exact bodyPost_ret (res_cellslot (pcs p0) Try.results10 Try.ag_pt _ rfl rfl rfl h2) rfl ⟨rfl, hb⟩
    · rw [if_pos (by omega)]
      obtain ⟨m, rfl⟩ : ∃ m : Nat, n = (m : Int) := ⟨n.toNat, by omega⟩
      rw [Int.toNat_natCast]
      have hm : m < 4398046511104 := by omega
      clear h0 hbig
      go_enter Try.func10, Try.ntmps10
      go_wp2_with (with_reducible refine alArr (z := pcs p0) Try.ag_pt (wn rfl) rfl ?_)
      intro w1 h2 hb
      go_wp2_with (with_reducible refine alArr (z := pcs p0) Try.ag_pt (wn rfl) rfl ?_)
      intro w2 h4 b2
      have l2 := h2.lt
      replace h2 := h2.below b2 l2
      have ls := hb.size
      have hne : w.heap.size ≠ w1.heap.size := by omega
      replace hb := hb.trans (b2.mono ls)
      clear b2
      go_wp2_with (with_reducible refine stArrG (cs := pcs p0) (.tmp 4) (.tmp 13) Try.ag_pt (wn rfl) rfl rfl (by kernel_rfl) h4 rfl rfl (pcs_one _) ?_)
      intro w3 h4 hg
      replace h2 := h2.grown hg (fun e => hne (by injection e))
      replace hb := hb.grown hg hb.size (fun k e => by cases e; exact ls)
      clear hg l2
      generalize w1.heap.size = g4 at *
      go_wp2_with fail
      go_loopw [5] (fun i wr => ∃ (k : Nat) (J : Int) (q : Pt), k ≤ 14 ∧ i = .int .i64 J ∧ J = (k : Int) - 1 ∧ Hid (q = ⟨(decL (14 - k) (m / 8 ^ k) : Int), (decL (14 - k) (m / 2 / 8 ^ k) : Int), (decL (14 - k) (m / 4 / 8 ^ k) : Int)⟩) ∧ Arr wr g4 23 (pcs q) ∧ Arr wr w.heap.size 23 (pcs p0) ∧ Below w.heap.size w wr) (fun i _ => (intOf i + 1).toNat)
      case atStart => exact ⟨14, _, p0, by omega, rfl, by omega, Lib.hid rfl, h4, h2, hb⟩
      case round =>
        clear h2 h4 hb
        obtain ⟨k, J, q, hk, rfl, hJ, HQ, h4, h2, hb⟩ := hrel
        by_cases h0 : 0 < k
        · obtain ⟨j, rfl⟩ : ∃ j, k = j + 1 := ⟨k - 1, by omega⟩
          obtain rfl : J = (j : Int) := by omega
          clear hJ
          have HB := Lib.hid (fun i (hi : i < 62) w => bit_any (m : Int) i w (by omega) (by omega) hi)
          rw [Int.toNat_natCast] at HB
          obtain ⟨X, Y, Z, hX, hY, hZ, hXl, hYl, hZl⟩ : ∃ X Y Z : Nat, q.x = (X : Int) ∧ q.y = (Y : Int) ∧ q.z = (Z : Int) ∧ X < 16384 ∧ Y < 16384 ∧ Z < 16384 := by
            rw [HQ.out]
            have e1 : ∀ a, decL (14 - (j + 1)) a < 16384 := fun a => by
              have h1 := decL_lt (14 - (j + 1)) a
              have h2 : 2 ^ (14 - (j + 1)) ≤ 2 ^ 14 := Nat.pow_le_pow_right (by decide) (by omega)
              omega
            exact ⟨_, _, _, rfl, rfl, rfl, e1 _, e1 _, e1 _⟩
          have hstep : ∀ a : Nat, decL (14 - j) (a / 8 ^ j) = 2 * decL (14 - (j + 1)) (a / 8 ^ (j + 1)) + a / 8 ^ j % 2 := fun a => by
            rw [show 14 - j = (14 - (j + 1)) + 1 by omega, decL, Nat.div_div_eq_div_mul, ← Nat.pow_succ]
          have h8 : (8 : Nat) ^ j = 2 ^ (3 * j) := by rw [Nat.pow_mul]
          have hb0 : m / 2 ^ (3 * j) % 2 = m / 8 ^ j % 2 := by rw [h8]
          have hb1 : m / 2 ^ (3 * j + 1) % 2 = m / 2 / 8 ^ j % 2 := by rw [h8, Nat.div_div_eq_div_mul, Nat.pow_succ, Nat.mul_comm]
          have hb2 : m / 2 ^ (3 * j + 2) % 2 = m / 4 / 8 ^ j % 2 := by rw [h8, Nat.div_div_eq_div_mul, Nat.pow_add, Nat.mul_comm]
          have HQ2 : Hid ((⟨((2 * X + m / 2 ^ (3 * j) % 2 : Nat) : Int), ((2 * Y + m / 2 ^ (3 * j + 1) % 2 : Nat) : Int), ((2 * Z + m / 2 ^ (3 * j + 2) % 2 : Nat) : Int)⟩ : Pt) = ⟨(decL (14 - j) (m / 8 ^ j) : Int), (decL (14 - j) (m / 2 / 8 ^ j) : Int), (decL (14 - j) (m / 4 / 8 ^ j) : Int)⟩) := Lib.hid (by
            rw [hstep, hstep, hstep, hb0, hb1, hb2]
            rw [HQ.out] at hX hY hZ
            simp only at hX hY hZ
            rw [Int.natCast_inj.1 hX, Int.natCast_inj.1 hY, Int.natCast_inj.1 hZ])
          have hq4 : pcs q = pcs ⟨(X : Int), (Y : Int), (Z : Int)⟩ := by unfold pcs; rw [hX, hY, hZ]
          rw [hq4] at h4
          have l0 : m / 2 ^ (3 * j) % 2 < 2 := Nat.mod_lt _ (by decide)
          have l1 : m / 2 ^ (3 * j + 1) % 2 < 2 := Nat.mod_lt _ (by decide)
          have l2 : m / 2 ^ (3 * j + 2) % 2 < 2 := Nat.mod_lt _ (by decide)
          have HB0 := Lib.hid (HB.out (3 * j) (by omega))
          have HB1 := Lib.hid (HB.out (3 * j + 1) (by omega))
          have HB2 := Lib.hid (HB.out (3 * j + 2) (by omega))
          clear HB HQ hX hY hZ hstep h8 hb0 hb1 hb2 hq4
          generalize m / 2 ^ (3 * j) % 2 = bx at *
          generalize m / 2 ^ (3 * j + 1) % 2 = by_ at *
          generalize m / 2 ^ (3 * j + 2) % 2 = bz at *
          go_wp2_with fail
          refine lgStart (fun w' => Arr w' g4 23 (pcs ⟨((X : Nat) : Int), ((Y : Nat) : Int), ((Z : Nat) : Int)⟩)) 9 (by kernel_rfl) ?_
          have hq : (fun w' : World => Arr w' g4 23 (pcs ⟨((X : Nat) : Int), ((Y : Nat) : Int), ((Z : Nat) : Int)⟩)) wr.drew := h4.drew
          refine lgTake [0, 1, 2, 3, 4, 5, 6, 7, 8] (S := fun w' => Arr w' g4 23 (pcs ⟨((X : Nat) : Int), ((Y : Nat) : Int), ((Z : Nat) : Int)⟩)) (i := 0) (v := .pointer (some ⟨g4, 0, none⟩)) rfl (by kernel_rfl) (by kernel_rfl) (fun _ _ _ h => h) (fun w _ => by kernel_rfl) hq ?_
          refine lgTake [0, 1, 2, 3, 4, 5, 6, 7, 8] (S := fun w' => Arr w' g4 23 (pcs ⟨((X : Nat) : Int), ((Y : Nat) : Int), ((Z : Nat) : Int)⟩)) (i := 1) (v := .int .i64 ((X : Nat) : Int)) rfl (by kernel_rfl) (by kernel_rfl) (fun _ _ _ h => h) (fun w h => ldRun (.tmp 18) (by kernel_rfl) rfl (by kernel_rfl) (h.cell (i := 0) rfl)) hq ?_
          refine lgTake [0, 1, 2, 3, 4, 5, 6, 7, 8] (S := fun w' => Arr w' g4 23 (pcs ⟨((X : Nat) : Int), ((Y : Nat) : Int), ((Z : Nat) : Int)⟩)) (i := 2) (v := .int .i64 ((2 * X : Nat) : Int)) rfl (by kernel_rfl) (by kernel_rfl) (fun _ _ _ h => h) (fun w _ => mulRun (A := 2) (B := ((X : Nat) : Int)) (.const (.int .i64 2)) (.tmp 19) rfl rfl (by kernel_rfl) (by omega) (by omega)) hq ?_
          refine lgTake [0, 1, 2, 3, 4, 5, 6, 7, 8] (S := fun w' => Arr w' g4 23 (pcs ⟨((X : Nat) : Int), ((Y : Nat) : Int), ((Z : Nat) : Int)⟩)) (i := 3) (v := .int .i64 (m : Int)) rfl (by kernel_rfl) (by kernel_rfl) (fun _ _ _ h => h) (fun w _ => by kernel_rfl) hq ?_
          refine lgTake [0, 1, 2, 3, 4, 5, 6, 7, 8] (S := fun w' => Arr w' g4 23 (pcs ⟨((X : Nat) : Int), ((Y : Nat) : Int), ((Z : Nat) : Int)⟩)) (i := 4) (v := .int .i64 (j : Int)) rfl (by kernel_rfl) (by kernel_rfl) (fun _ _ _ h => h) (fun w _ => by kernel_rfl) hq ?_
          refine lgTake [0, 1, 2, 3, 4, 5, 6, 7, 8] (S := fun w' => Arr w' g4 23 (pcs ⟨((X : Nat) : Int), ((Y : Nat) : Int), ((Z : Nat) : Int)⟩)) (i := 5) (v := .int .i64 ((3 * j : Nat) : Int)) rfl (by kernel_rfl) (by kernel_rfl) (fun _ _ _ h => h) (fun w _ => mulRun (A := 3) (B := (j : Int)) (.const (.int .i64 3)) (.tmp 22) rfl rfl (by kernel_rfl) (by omega) (by omega)) hq ?_
          try simp only [Act.put, List.setIfInBounds_toArray, List.set_cons_succ, List.set_cons_zero]
          refine lgNextS (S := fun w' => Arr w' g4 23 (pcs ⟨((X : Nat) : Int), ((Y : Nat) : Int), ((Z : Nat) : Int)⟩)) (i := 6) (by kernel_rfl) rfl ?_
          refine callOp 35 [.int .i64 (m : Int), .int .i64 ((3 * j : Nat) : Int)] [] [] (by kernel_rfl) (by kernel_rfl) rfl rfl rfl ?_
          refine (HB0.out _).mono ?_
          rintro e wz ⟨rfl, rfl⟩
          refine ⟨_, rfl, ?_⟩
          refine rgBack hq ?_
          refine lgTake [0, 1, 2, 3, 4, 5, 6, 7, 8] (S := fun w' => Arr w' g4 23 (pcs ⟨((X : Nat) : Int), ((Y : Nat) : Int), ((Z : Nat) : Int)⟩)) (i := 7) (v := .int .i64 ((2 * X + bx : Nat) : Int)) rfl (by kernel_rfl) (by kernel_rfl) (fun _ _ _ h => h) (fun w _ => addRun (A := ((2 * X : Nat) : Int)) (B := (bx : Int)) (.tmp 20) (.tmp 24) rfl (by kernel_rfl) (by kernel_rfl) (by omega) (by omega)) hq ?_
          refine lgTake [0, 1, 2, 3, 4, 5, 6, 7, 8] (S := fun w' => Arr w' g4 23 (pcs ⟨((X : Nat) : Int), ((Y : Nat) : Int), ((Z : Nat) : Int)⟩)) (i := 8) (v := .pointer (some ⟨g4, 0, none⟩)) rfl (by kernel_rfl) (by kernel_rfl) (fun _ _ _ h => h) (fun w _ => by kernel_rfl) hq ?_
          try simp only [Act.put, List.setIfInBounds_toArray, List.set_cons_succ, List.set_cons_zero]
          refine lgNext (S := fun w' => Arr w' g4 23 (pcs ⟨((X : Nat) : Int), ((Y : Nat) : Int), ((Z : Nat) : Int)⟩)) (i := 9) (by kernel_rfl) rfl (by kernel_rfl) ?_
          refine stOne (g := g4) (i := 0) (u := .int .i64 ((2 * X + bx : Nat) : Int)) (.tmp 26) (.tmp 25) (by kernel_rfl) (by kernel_rfl) rfl (by kernel_rfl) (by kernel_rfl) rfl rfl hq (by simp [pcs]) ?_
          intro ws1 hs4 _ _ hgs
          refine lgDone (by kernel_rfl) ?_
          try simp only [Act.put, List.setIfInBounds_toArray, List.set_cons_succ, List.set_cons_zero]
          have h4 : Arr ws1 g4 23 (pcs ⟨(((2 * X + bx : Nat) : Nat) : Int), ((Y : Nat) : Int), ((Z : Nat) : Int)⟩) := hs4
          replace h2 := h2.drew.grown hgs (fun e => hne (by injection e))
          replace hb := hb.drew.grown hgs hb.drew.size (fun k e => by cases e; exact ls)
          clear hq hs4 hgs
          go_wp2_with fail
          refine lgStart (fun w' => Arr w' g4 23 (pcs ⟨(((2 * X + bx : Nat) : Nat) : Int), ((Y : Nat) : Int), ((Z : Nat) : Int)⟩)) 10 (by kernel_rfl) ?_
          have hq : (fun w' : World => Arr w' g4 23 (pcs ⟨(((2 * X + bx : Nat) : Nat) : Int), ((Y : Nat) : Int), ((Z : Nat) : Int)⟩)) ws1.drew := h4.drew
          refine lgTake [0, 1, 2, 3, 4, 5, 6, 7, 8, 9] (S := fun w' => Arr w' g4 23 (pcs ⟨(((2 * X + bx : Nat) : Nat) : Int), ((Y : Nat) : Int), ((Z : Nat) : Int)⟩)) (i := 0) (v := .pointer (some ⟨g4, 1, none⟩)) rfl (by kernel_rfl) (by kernel_rfl) (fun _ _ _ h => h) (fun w _ => by kernel_rfl) hq ?_
          refine lgTake [0, 1, 2, 3, 4, 5, 6, 7, 8, 9] (S := fun w' => Arr w' g4 23 (pcs ⟨(((2 * X + bx : Nat) : Nat) : Int), ((Y : Nat) : Int), ((Z : Nat) : Int)⟩)) (i := 1) (v := .int .i64 ((Y : Nat) : Int)) rfl (by kernel_rfl) (by kernel_rfl) (fun _ _ _ h => h) (fun w h => ldRun (.tmp 27) (by kernel_rfl) rfl (by kernel_rfl) (h.cell (i := 1) rfl)) hq ?_
          refine lgTake [0, 1, 2, 3, 4, 5, 6, 7, 8, 9] (S := fun w' => Arr w' g4 23 (pcs ⟨(((2 * X + bx : Nat) : Nat) : Int), ((Y : Nat) : Int), ((Z : Nat) : Int)⟩)) (i := 2) (v := .int .i64 ((2 * Y : Nat) : Int)) rfl (by kernel_rfl) (by kernel_rfl) (fun _ _ _ h => h) (fun w _ => mulRun (A := 2) (B := ((Y : Nat) : Int)) (.const (.int .i64 2)) (.tmp 28) rfl rfl (by kernel_rfl) (by omega) (by omega)) hq ?_
          refine lgTake [0, 1, 2, 3, 4, 5, 6, 7, 8, 9] (S := fun w' => Arr w' g4 23 (pcs ⟨(((2 * X + bx : Nat) : Nat) : Int), ((Y : Nat) : Int), ((Z : Nat) : Int)⟩)) (i := 3) (v := .int .i64 (m : Int)) rfl (by kernel_rfl) (by kernel_rfl) (fun _ _ _ h => h) (fun w _ => by kernel_rfl) hq ?_
          refine lgTake [0, 1, 2, 3, 4, 5, 6, 7, 8, 9] (S := fun w' => Arr w' g4 23 (pcs ⟨(((2 * X + bx : Nat) : Nat) : Int), ((Y : Nat) : Int), ((Z : Nat) : Int)⟩)) (i := 4) (v := .int .i64 (j : Int)) rfl (by kernel_rfl) (by kernel_rfl) (fun _ _ _ h => h) (fun w _ => by kernel_rfl) hq ?_
          refine lgTake [0, 1, 2, 3, 4, 5, 6, 7, 8, 9] (S := fun w' => Arr w' g4 23 (pcs ⟨(((2 * X + bx : Nat) : Nat) : Int), ((Y : Nat) : Int), ((Z : Nat) : Int)⟩)) (i := 5) (v := .int .i64 ((3 * j : Nat) : Int)) rfl (by kernel_rfl) (by kernel_rfl) (fun _ _ _ h => h) (fun w _ => mulRun (A := 3) (B := (j : Int)) (.const (.int .i64 3)) (.tmp 31) rfl rfl (by kernel_rfl) (by omega) (by omega)) hq ?_
          refine lgTake [0, 1, 2, 3, 4, 5, 6, 7, 8, 9] (S := fun w' => Arr w' g4 23 (pcs ⟨(((2 * X + bx : Nat) : Nat) : Int), ((Y : Nat) : Int), ((Z : Nat) : Int)⟩)) (i := 6) (v := .int .i64 ((3 * j + 1 : Nat) : Int)) rfl (by kernel_rfl) (by kernel_rfl) (fun _ _ _ h => h) (fun w _ => addRun (A := ((3 * j : Nat) : Int)) (B := 1) (.tmp 32) (.const (.int .i64 1)) rfl (by kernel_rfl) rfl (by omega) (by omega)) hq ?_
          try simp only [Act.put, List.setIfInBounds_toArray, List.set_cons_succ, List.set_cons_zero]
          refine lgNextS (S := fun w' => Arr w' g4 23 (pcs ⟨(((2 * X + bx : Nat) : Nat) : Int), ((Y : Nat) : Int), ((Z : Nat) : Int)⟩)) (i := 7) (by kernel_rfl) rfl ?_
          refine callOp 35 [.int .i64 (m : Int), .int .i64 ((3 * j + 1 : Nat) : Int)] [] [] (by kernel_rfl) (by kernel_rfl) rfl rfl rfl ?_
          refine (HB1.out _).mono ?_
          rintro e wz ⟨rfl, rfl⟩
          refine ⟨_, rfl, ?_⟩
          refine rgBack hq ?_
          refine lgTake [0, 1, 2, 3, 4, 5, 6, 7, 8, 9] (S := fun w' => Arr w' g4 23 (pcs ⟨(((2 * X + bx : Nat) : Nat) : Int), ((Y : Nat) : Int), ((Z : Nat) : Int)⟩)) (i := 8) (v := .int .i64 ((2 * Y + by_ : Nat) : Int)) rfl (by kernel_rfl) (by kernel_rfl) (fun _ _ _ h => h) (fun w _ => addRun (A := ((2 * Y : Nat) : Int)) (B := (by_ : Int)) (.tmp 29) (.tmp 34) rfl (by kernel_rfl) (by kernel_rfl) (by omega) (by omega)) hq ?_
          refine lgTake [0, 1, 2, 3, 4, 5, 6, 7, 8, 9] (S := fun w' => Arr w' g4 23 (pcs ⟨(((2 * X + bx : Nat) : Nat) : Int), ((Y : Nat) : Int), ((Z : Nat) : Int)⟩)) (i := 9) (v := .pointer (some ⟨g4, 1, none⟩)) rfl (by kernel_rfl) (by kernel_rfl) (fun _ _ _ h => h) (fun w _ => by kernel_rfl) hq ?_
          try simp only [Act.put, List.setIfInBounds_toArray, List.set_cons_succ, List.set_cons_zero]
          refine lgNext (S := fun w' => Arr w' g4 23 (pcs ⟨(((2 * X + bx : Nat) : Nat) : Int), ((Y : Nat) : Int), ((Z : Nat) : Int)⟩)) (i := 10) (by kernel_rfl) rfl (by kernel_rfl) ?_
          refine stOne (g := g4) (i := 1) (u := .int .i64 ((2 * Y + by_ : Nat) : Int)) (.tmp 36) (.tmp 35) (by kernel_rfl) (by kernel_rfl) rfl (by kernel_rfl) (by kernel_rfl) rfl rfl hq (by simp [pcs]) ?_
          intro ws2 hs4 _ _ hgs
          refine lgDone (by kernel_rfl) ?_
          try simp only [Act.put, List.setIfInBounds_toArray, List.set_cons_succ, List.set_cons_zero]
          have h4 : Arr ws2 g4 23 (pcs ⟨(((2 * X + bx : Nat) : Nat) : Int), (((2 * Y + by_ : Nat) : Nat) : Int), ((Z : Nat) : Int)⟩) := hs4
          replace h2 := h2.drew.grown hgs (fun e => hne (by injection e))
          replace hb := hb.drew.grown hgs hb.drew.size (fun k e => by cases e; exact ls)
          clear hq hs4 hgs
          go_wp2_with fail
          refine lgStart (fun w' => Arr w' g4 23 (pcs ⟨(((2 * X + bx : Nat) : Nat) : Int), (((2 * Y + by_ : Nat) : Nat) : Int), ((Z : Nat) : Int)⟩)) 10 (by kernel_rfl) ?_
          have hq : (fun w' : World => Arr w' g4 23 (pcs ⟨(((2 * X + bx : Nat) : Nat) : Int), (((2 * Y + by_ : Nat) : Nat) : Int), ((Z : Nat) : Int)⟩)) ws2.drew := h4.drew
          refine lgTake [0, 1, 2, 3, 4, 5, 6, 7, 8, 9] (S := fun w' => Arr w' g4 23 (pcs ⟨(((2 * X + bx : Nat) : Nat) : Int), (((2 * Y + by_ : Nat) : Nat) : Int), ((Z : Nat) : Int)⟩)) (i := 0) (v := .pointer (some ⟨g4, 2, none⟩)) rfl (by kernel_rfl) (by kernel_rfl) (fun _ _ _ h => h) (fun w _ => by kernel_rfl) hq ?_
          refine lgTake [0, 1, 2, 3, 4, 5, 6, 7, 8, 9] (S := fun w' => Arr w' g4 23 (pcs ⟨(((2 * X + bx : Nat) : Nat) : Int), (((2 * Y + by_ : Nat) : Nat) : Int), ((Z : Nat) : Int)⟩)) (i := 1) (v := .int .i64 ((Z : Nat) : Int)) rfl (by kernel_rfl) (by kernel_rfl) (fun _ _ _ h => h) (fun w h => ldRun (.tmp 37) (by kernel_rfl) rfl (by kernel_rfl) (h.cell (i := 2) rfl)) hq ?_
          refine lgTake [0, 1, 2, 3, 4, 5, 6, 7, 8, 9] (S := fun w' => Arr w' g4 23 (pcs ⟨(((2 * X + bx : Nat) : Nat) : Int), (((2 * Y + by_ : Nat) : Nat) : Int), ((Z : Nat) : Int)⟩)) (i := 2) (v := .int .i64 ((2 * Z : Nat) : Int)) rfl (by kernel_rfl) (by kernel_rfl) (fun _ _ _ h => h) (fun w _ => mulRun (A := 2) (B := ((Z : Nat) : Int)) (.const (.int .i64 2)) (.tmp 38) rfl rfl (by kernel_rfl) (by omega) (by omega)) hq ?_
          refine lgTake [0, 1, 2, 3, 4, 5, 6, 7, 8, 9] (S := fun w' => Arr w' g4 23 (pcs ⟨(((2 * X + bx : Nat) : Nat) : Int), (((2 * Y + by_ : Nat) : Nat) : Int), ((Z : Nat) : Int)⟩)) (i := 3) (v := .int .i64 (m : Int)) rfl (by kernel_rfl) (by kernel_rfl) (fun _ _ _ h => h) (fun w _ => by kernel_rfl) hq ?_
          refine lgTake [0, 1, 2, 3, 4, 5, 6, 7, 8, 9] (S := fun w' => Arr w' g4 23 (pcs ⟨(((2 * X + bx : Nat) : Nat) : Int), (((2 * Y + by_ : Nat) : Nat) : Int), ((Z : Nat) : Int)⟩)) (i := 4) (v := .int .i64 (j : Int)) rfl (by kernel_rfl) (by kernel_rfl) (fun _ _ _ h => h) (fun w _ => by kernel_rfl) hq ?_
          refine lgTake [0, 1, 2, 3, 4, 5, 6, 7, 8, 9] (S := fun w' => Arr w' g4 23 (pcs ⟨(((2 * X + bx : Nat) : Nat) : Int), (((2 * Y + by_ : Nat) : Nat) : Int), ((Z : Nat) : Int)⟩)) (i := 5) (v := .int .i64 ((3 * j : Nat) : Int)) rfl (by kernel_rfl) (by kernel_rfl) (fun _ _ _ h => h) (fun w _ => mulRun (A := 3) (B := (j : Int)) (.const (.int .i64 3)) (.tmp 41) rfl rfl (by kernel_rfl) (by omega) (by omega)) hq ?_
          refine lgTake [0, 1, 2, 3, 4, 5, 6, 7, 8, 9] (S := fun w' => Arr w' g4 23 (pcs ⟨(((2 * X + bx : Nat) : Nat) : Int), (((2 * Y + by_ : Nat) : Nat) : Int), ((Z : Nat) : Int)⟩)) (i := 6) (v := .int .i64 ((3 * j + 2 : Nat) : Int)) rfl (by kernel_rfl) (by kernel_rfl) (fun _ _ _ h => h) (fun w _ => addRun (A := ((3 * j : Nat) : Int)) (B := 2) (.tmp 42) (.const (.int .i64 2)) rfl (by kernel_rfl) rfl (by omega) (by omega)) hq ?_
          try simp only [Act.put, List.setIfInBounds_toArray, List.set_cons_succ, List.set_cons_zero]
          refine lgNextS (S := fun w' => Arr w' g4 23 (pcs ⟨(((2 * X + bx : Nat) : Nat) : Int), (((2 * Y + by_ : Nat) : Nat) : Int), ((Z : Nat) : Int)⟩)) (i := 7) (by kernel_rfl) rfl ?_
          refine callOp 35 [.int .i64 (m : Int), .int .i64 ((3 * j + 2 : Nat) : Int)] [] [] (by kernel_rfl) (by kernel_rfl) rfl rfl rfl ?_
          refine (HB2.out _).mono ?_
          rintro e wz ⟨rfl, rfl⟩
          refine ⟨_, rfl, ?_⟩
          refine rgBack hq ?_
          refine lgTake [0, 1, 2, 3, 4, 5, 6, 7, 8, 9] (S := fun w' => Arr w' g4 23 (pcs ⟨(((2 * X + bx : Nat) : Nat) : Int), (((2 * Y + by_ : Nat) : Nat) : Int), ((Z : Nat) : Int)⟩)) (i := 8) (v := .int .i64 ((2 * Z + bz : Nat) : Int)) rfl (by kernel_rfl) (by kernel_rfl) (fun _ _ _ h => h) (fun w _ => addRun (A := ((2 * Z : Nat) : Int)) (B := (bz : Int)) (.tmp 39) (.tmp 44) rfl (by kernel_rfl) (by kernel_rfl) (by omega) (by omega)) hq ?_
          refine lgTake [0, 1, 2, 3, 4, 5, 6, 7, 8, 9] (S := fun w' => Arr w' g4 23 (pcs ⟨(((2 * X + bx : Nat) : Nat) : Int), (((2 * Y + by_ : Nat) : Nat) : Int), ((Z : Nat) : Int)⟩)) (i := 9) (v := .pointer (some ⟨g4, 2, none⟩)) rfl (by kernel_rfl) (by kernel_rfl) (fun _ _ _ h => h) (fun w _ => by kernel_rfl) hq ?_
          try simp only [Act.put, List.setIfInBounds_toArray, List.set_cons_succ, List.set_cons_zero]
          refine lgNext (S := fun w' => Arr w' g4 23 (pcs ⟨(((2 * X + bx : Nat) : Nat) : Int), (((2 * Y + by_ : Nat) : Nat) : Int), ((Z : Nat) : Int)⟩)) (i := 10) (by kernel_rfl) rfl (by kernel_rfl) ?_
          refine stOne (g := g4) (i := 2) (u := .int .i64 ((2 * Z + bz : Nat) : Int)) (.tmp 46) (.tmp 45) (by kernel_rfl) (by kernel_rfl) rfl (by kernel_rfl) (by kernel_rfl) rfl rfl hq (by simp [pcs]) ?_
          intro ws3 hs4 _ _ hgs
          refine lgDone (by kernel_rfl) ?_
          try simp only [Act.put, List.setIfInBounds_toArray, List.set_cons_succ, List.set_cons_zero]
          have h4 : Arr ws3 g4 23 (pcs ⟨(((2 * X + bx : Nat) : Nat) : Int), (((2 * Y + by_ : Nat) : Nat) : Int), (((2 * Z + bz : Nat) : Nat) : Int)⟩) := hs4
          replace h2 := h2.drew.grown hgs (fun e => hne (by injection e))
          replace hb := hb.drew.grown hgs hb.drew.size (fun k e => by cases e; exact ls)
          clear hq hs4 hgs
          go_wp2_with fail
          refine ⟨⟨j, _, _, by omega, rfl, by omega, HQ2, h4, h2, hb⟩, ?_⟩
          simp [intOf] <;> omega
        · obtain rfl : k = 0 := by omega
          subst hJ
          have HQ2 : Hid (q = mDecP m) := Lib.hid (by rw [HQ.out]; simp [mDecP])
          go_wp2_with (first | (with_reducible refine ldArr (.tmp 4) Try.ag_pt (wn rfl) rfl rfl rfl h4 ?_) | (with_reducible refine stArrG (cs := pcs q) (.tmp 2) (.tmp 47) Try.ag_pt (wn rfl) rfl rfl rfl h2 rfl rfl (pcs_one _) ?_))
          intro w5 h5 hg
          replace hb := hb.grown hg hb.size (fun k e => by cases e; exact Nat.le_refl _)
          go_wp2_with fail
          exact bodyPost_ret (res_cellslot (v := .bool true) (pcs q) Try.results10 Try.ag_pt _ rfl rfl rfl h5) rfl ⟨by rw [HQ2.out], hb⟩
end Go.Proofs.Ytkfijpghjjnpkaa
/-
  Decode of the Morton layer. No statement is proved here.
-/
namespace Go.Proofs.Ytkfijpghjjnpkaa
open Go.RowKit
set_option linter.unusedVariables false

/-- The numbers when i bits, and one more of the first k, are laid. -/
def decT (m i k : Nat) : Pt := ⟨(decL (if 0 < k then i + 1 else i) m : Int), (decL (if 1 < k then i + 1 else i) (m / 2) : Int), (decL (if 2 < k then i + 1 else i) (m / 4) : Int)⟩
theorem decT_at (m i k : Nat) (h : k < 3) : (decT m i k).at k = (decL i (m / 2 ^ k) : Int) := by
  rcases (by omega : k = 0 ∨ k = 1 ∨ k = 2) with rfl | rfl | rfl <;> simp [decT, Pt.at]
theorem decT_set (m i k : Nat) (h : k < 3) : (pcs (decT m i k)).set k (.int .i64 ((decL (i + 1) (m / 2 ^ k) : Nat) : Int)) = pcs (decT m i (k + 1)) := by
  rcases (by omega : k = 0 ∨ k = 1 ∨ k = 2) with rfl | rfl | rfl <;> simp [decT, pcs]
theorem decT_next (m i : Nat) : decT m i 3 = decT m (i + 1) 0 := by simp [decT]
theorem decT_end (m : Nat) : decT m 14 0 = mDecP m := by simp [decT, mDecP]

set_option maxRecDepth 100000 in
set_option maxHeartbeats 2000000 in
theorem decode_any (n : Int) (w : World) : Calls Try.prog 9 #[.int .i64 n] w (RetPB w (mDec n)) := by
  unfold mDec
  by_cases h0 : n < 0
  · rw [if_neg (by omega)]
    go_enter Try.func9, Try.ntmps9
    go_wp2_with (with_reducible refine alArr (z := pcs p0) Try.ag_pt (wn rfl) rfl ?_)
    intro w1 h2 hb
    go_wp2_with (with_reducible refine stArrG (cs := pcs p0) (.tmp 2) (.tmp 13) Try.ag_pt (wn rfl) rfl rfl (by kernel_rfl) h2 rfl rfl (pcs_one _) ?_)
    intro w2 h2 hg
    replace hb := hb.grown hg hb.size (fun k e => by cases e; exact Nat.le_refl _)
    go_wp2_with fail
    exact bodyPost_ret (res_cellslot (v := .bool false) (pcs p0) Try.results9 Try.ag_pt _ rfl rfl rfl h2) rfl ⟨rfl, hb⟩
  · by_cases hbig : 4398046511104 ≤ n
    · rw [if_neg (by omega)]
      go_enter Try.func9, Try.ntmps9
      go_wp2_with (with_reducible refine alArr (z := pcs p0) Try.ag_pt (wn rfl) rfl ?_)
      intro w1 h2 hb
      go_wp2_with (with_reducible refine stArrG (cs := pcs p0) (.tmp 2) (.tmp 13) Try.ag_pt (wn rfl) rfl rfl (by kernel_rfl) h2 rfl rfl (pcs_one _) ?_)
      intro w2 h2 hg
      replace hb := hb.grown hg hb.size (fun k e => by cases e; exact Nat.le_refl _)
      go_wp2_with fail
      exact bodyPost_ret (res_cellslot (v := .bool false) (pcs p0) Try.results9 Try.ag_pt _ rfl rfl rfl h2) rfl ⟨rfl, hb⟩
    · rw [if_pos (by omega)]
      obtain ⟨m, rfl⟩ : ∃ m : Nat, n = (m : Int) := ⟨n.toNat, by omega⟩
      rw [Int.toNat_natCast]
      have hm : m < 4398046511104 := by omega
      clear h0 hbig
      go_enter Try.func9, Try.ntmps9
      go_wp2_with (with_reducible refine alArr (z := pcs p0) Try.ag_pt (wn rfl) rfl ?_)
      intro w1 h2 hb
      go_wp2_with (with_reducible refine alArr (z := pcs p0) Try.ag_i3 (wn rfl) rfl ?_)
      intro w2 h4 b2
      have l2 := h2.lt
      replace h2 := h2.below b2 l2
      have ls := hb.size
      have hne : w.heap.size ≠ w1.heap.size := by omega
      replace hb := hb.trans (b2.mono ls)
      clear b2 l2
      generalize w1.heap.size = g4 at *
      go_wp2_with fail
      go_loopw [14] (fun i wr => ∃ k : Nat, k ≤ 14 ∧ i = .int .i64 (k : Int) ∧ Arr wr g4 57 (pcs (decT m k 0)) ∧ Arr wr w.heap.size 23 (pcs p0) ∧ Below w.heap.size w wr) (fun i _ => 14 - (intOf i).toNat)
      case atStart => exact ⟨0, by omega, rfl, h4, h2, hb⟩
      case round =>
        clear h2 h4 hb
        obtain ⟨i, hk, rfl, h4, h2, hb⟩ := hrel
        by_cases hlt : i < 14
        · go_wp2_with fail
          go_loopw [17] (fun kk wi => ∃ k : Nat, k ≤ 3 ∧ kk = .int .i64 (k : Int) ∧ Arr wi g4 57 (pcs (decT m i k)) ∧ Arr wi w.heap.size 23 (pcs p0) ∧ Below w.heap.size w wi) (fun kk _ => 3 - (intOf kk).toNat)
          case atStart => exact ⟨0, by omega, rfl, h4, h2, hb⟩
          case round =>
            clear h2 h4 hb
            obtain ⟨k, hk3, rfl, h4, h2, hb⟩ := hrel
            by_cases h3 : k < 3
            · have hg := pcs_get (decT m i k) h3
              rw [decT_at m i k h3] at hg
              have hset := decT_set m i k h3
              have htop := decL_top i (m / 2 ^ k)
              have hlow := decL_lt i (m / 2 ^ k)
              have hbit : m / 2 ^ k / 8 ^ i % 2 = m / 2 ^ (3 * i + k) % 2 := by
                rw [Nat.div_div_eq_div_mul, Nat.pow_add, Nat.pow_mul, show (2 : Nat) ^ 3 = 8 by decide, Nat.mul_comm]
              rw [hbit] at htop
              obtain ⟨j, hj⟩ : ∃ j, j = 3 * i + k := ⟨_, rfl⟩
              have hji : (3 * (i : Int) + (k : Int)) = (j : Int) := by omega
              rw [← hj] at htop
              have hbl : m / 2 ^ j % 2 < 2 := Nat.mod_lt _ (by decide)
              have HB := Lib.hid (show bits .and .i64 ((m : Int) / 2 ^ j) 1 = ((m / 2 ^ j % 2 : Nat) : Int) from by
                have h1 : ((m : Int) / 2 ^ j) = ((m / 2 ^ j : Nat) : Int) := by simp
                have h2 : m / 2 ^ j ≤ m := Nat.div_le_self _ _
                have h3 := i64_and_n (m / 2 ^ j) 1 (by omega) (by omega)
                rw [Nat.and_one_is_mod] at h3
                rw [h1]
                exact h3)
              have HOR := Lib.hid (mo_or (decL i (m / 2 ^ k)) i (m / 2 ^ j % 2) hlow hbl (by omega))
              rw [← htop] at HOR
              have hc := h4.cell hg
              have hf := h4.thaw k
              have h4s := h4.set k (.int .i64 ((decL (i + 1) (m / 2 ^ k) : Nat) : Int))
              rw [hset] at h4s
              have h2s := h2.other (fun e => hne e.symm) k (.int .i64 ((decL (i + 1) (m / 2 ^ k) : Nat) : Int))
              have hbs := hb.setCell (p := ⟨g4, k, none⟩) ls (.int .i64 ((decL (i + 1) (m / 2 ^ k) : Nat) : Int))
              have hjl : j < 42 := by omega
              clear hg hset htop hlow hbit hj
              generalize decL i (m / 2 ^ k) = a at *
              generalize decL (i + 1) (m / 2 ^ k) = a2 at *
              go_wp2_with fail
              go_region
              rw [HB.out, HOR.out]
              have h4d := h4s.drew
              have h2d := h2s.drew
              have hbd := hbs.drew
              clear hc hf h4 h2 hb h4s h2s hbs
              go_wp2_with fail
              refine ⟨⟨k + 1, by omega, by simp, h4d, h2d, hbd⟩, ?_⟩
              simp [intOf]; omega
            · obtain rfl : k = 3 := by omega
              rw [decT_next] at h4
              go_wp2_with fail
              refine ⟨⟨i + 1, by omega, by simp, h4, h2, hb⟩, ?_⟩
              simp [intOf]; omega
        · obtain rfl : i = 14 := by omega
          rw [decT_end] at h4
          go_wp2_with (with_reducible refine ldArr (.tmp 4) Try.ag_i3 (wn rfl) rfl rfl rfl h4 ?_)
          refine (point_any _ _).mono ?_
          rintro e w5 ⟨rfl, b5⟩
          replace h2 := h2.below b5 h2.lt
          replace hb := hb.trans (b5.mono hb.size)
          go_wp2_with (with_reducible refine stArrG (cs := pcs (mDecP m)) (.tmp 2) (.tmp 37) Try.ag_pt (wn rfl) rfl rfl rfl h2 rfl rfl (pcs_one _) ?_)
          intro w6 h6 hg
          replace hb := hb.grown hg hb.size (fun k e => by cases e; exact Nat.le_refl _)
          go_wp2_with fail
          exact bodyPost_ret (res_cellslot (v := .bool true) (pcs (mDecP m)) Try.results9 Try.ag_pt _ rfl rfl rfl h6) rfl ⟨rfl, hb⟩
end Go.Proofs.Ytkfijpghjjnpkaa
/-
  The order of Morton codes, the least common cube, and neighbours, as plain functions. No program in sight.
-/
namespace Go.Proofs.Ytkfijpghjjnpkaa

theorem bitLen_pos {x : Nat} (h0 : x ≠ 0) (h : x < 2 ^ 64) : 1 ≤ Lib.bitLen x := by rw [Lib.bitLen_half x h0 h]; omega
theorem bitLen_iff {x k : Nat} (hx : x < 2 ^ 64) (hk : k ≤ 63) : Lib.bitLen x ≤ k ↔ x < 2 ^ k := by
  constructor
  · intro h
    rcases Nat.lt_or_ge x (2 ^ k) with h1 | h1
    · exact h1
    · have h2 := Lib.bitLen_shift k x h1 hx
      have hp : 0 < 2 ^ k := Nat.two_pow_pos k
      have h3 : 1 ≤ x / 2 ^ k := (Nat.le_div_iff_mul_le hp).2 (by omega)
      have h4 : x / 2 ^ k ≤ x := Nat.div_le_self _ _
      have h5 := bitLen_pos (x := x / 2 ^ k) (by omega) (by omega)
      omega
  · intro h
    exact Lib.bitLen_le x k (by omega) h
theorem xor_zero {a b : Nat} (h : a ^^^ b = 0) : a = b := by
  apply Nat.eq_of_testBit_eq
  intro i
  have h1 := Nat.testBit_xor a b i
  rw [h, Nat.zero_testBit] at h1
  cases ha : a.testBit i <;> cases hb : b.testBit i <;> rw [ha, hb] at h1 <;> first | rfl | (exfalso; simp at h1)
/-- The bits below which two numbers differ. -/
def bl (x y : Nat) : Nat := Lib.bitLen (x ^^^ y)
theorem bl_iff {x y k : Nat} (hx : x < 16384) (hy : y < 16384) (hk : k ≤ 63) : bl x y ≤ k ↔ x / 2 ^ k = y / 2 ^ k := by
  unfold bl
  have hxy : x ^^^ y < 2 ^ 14 := Nat.xor_lt_two_pow (by omega) (by omega)
  rw [bitLen_iff (by omega) hk]
  have hp : 0 < 2 ^ k := Nat.two_pow_pos k
  constructor
  · intro h
    have h1 : (x ^^^ y) / 2 ^ k = 0 := Nat.div_eq_of_lt h
    rw [Nat.xor_div_two_pow] at h1
    exact xor_zero h1
  · intro h
    have h1 : (x ^^^ y) / 2 ^ k = 0 := by rw [Nat.xor_div_two_pow, h, Nat.xor_self]
    rcases Nat.lt_or_ge (x ^^^ y) (2 ^ k) with h2 | h2
    · exact h2
    · have h3 : 1 ≤ (x ^^^ y) / 2 ^ k := (Nat.le_div_iff_mul_le hp).2 (by omega)
      omega
theorem bl_le (x y : Nat) (hx : x < 16384) (hy : y < 16384) : bl x y ≤ 14 := by
  rw [bl_iff hx hy (by omega), Nat.div_eq_of_lt (by omega), Nat.div_eq_of_lt (by omega)]
theorem encL_split : ∀ (a b x y z : Nat), encL (a + b) x y z = encL a x y z + 8 ^ a * encL b (x / 2 ^ a) (y / 2 ^ a) (z / 2 ^ a)
  | 0, b, x, y, z => by simp [encL]
  | a + 1, b, x, y, z => by
    have h := encL_split a b (x / 2) (y / 2) (z / 2)
    have hd : ∀ v : Nat, v / 2 / 2 ^ a = v / 2 ^ (a + 1) := fun v => by rw [Nat.div_div_eq_div_mul, Nat.mul_comm, ← Nat.pow_succ]
    rw [hd, hd, hd] at h
    have e : 8 ^ (a + 1) * encL b (x / 2 ^ (a + 1)) (y / 2 ^ (a + 1)) (z / 2 ^ (a + 1)) = 8 * (8 ^ a * encL b (x / 2 ^ (a + 1)) (y / 2 ^ (a + 1)) (z / 2 ^ (a + 1))) := by rw [Nat.pow_succ, Nat.mul_comm (8 ^ a) 8, Nat.mul_assoc]
    rw [show a + 1 + b = (a + b) + 1 by omega, encL, h, encL, e]
    omega
theorem encL_dig {n l : Nat} (x y z : Nat) (h : l < n) : encL n x y z / 8 ^ l % 8 = dig x y z l := by
  obtain ⟨b, rfl⟩ : ∃ b, n = l + (b + 1) := ⟨n - l - 1, by omega⟩
  rw [encL_split, Nat.add_mul_div_left _ _ (Nat.pow_pos (by decide)), Nat.div_eq_of_lt (encL_lt l x y z), Nat.zero_add, encL]
  unfold dig
  omega
/-- Codes of points whose bits from l + 1 on are the same are ordered by the digits at l, if these differ. -/
theorem enc_lt_of_dig {l x y z x' y' z' : Nat} (hl : l < 14) (hx : x / 2 ^ (l + 1) = x' / 2 ^ (l + 1)) (hy : y / 2 ^ (l + 1) = y' / 2 ^ (l + 1)) (hz : z / 2 ^ (l + 1) = z' / 2 ^ (l + 1)) (hd : dig x y z l < dig x' y' z' l) :
    encL 14 x y z < encL 14 x' y' z' := by
  obtain ⟨b, hb⟩ : ∃ b, 14 = (l + 1) + b := ⟨14 - (l + 1), by omega⟩
  rw [hb, encL_split (l + 1) b, encL_split (l + 1) b, hx, hy, hz, encL_top, encL_top]
  have h1 := encL_lt l x y z
  have h2 : 8 ^ l * (dig x y z l + 1) ≤ 8 ^ l * dig x' y' z' l := Nat.mul_le_mul_left _ hd
  rw [Nat.mul_add] at h2
  omega
/-- The axis that decides. -/
def mAt (p q : Nat → Nat) : Nat :=
  let a := if bl (p 0) (q 0) ≤ bl (p 1) (q 1) then 1 else 0
  if bl (p a) (q a) ≤ bl (p 2) (q 2) then 2 else a
def cmpI (a b : Int) : Int := if a < b then -1 else if b < a then 1 else 0
theorem half_of {x l : Nat} : x / 2 ^ (l + 1) = x / 2 ^ l / 2 := by rw [Nat.div_div_eq_div_mul, ← Nat.pow_succ]
theorem cmp_code (p q : Nat → Nat) (hp : ∀ k, p k < 16384) (hq : ∀ k, q k < 16384) :
    cmpI (encL 14 (p 0) (p 1) (p 2) : Int) (encL 14 (q 0) (q 1) (q 2) : Int) = cmpI (p (mAt p q) : Int) (q (mAt p q) : Int) := by
  have key : ∀ a, a < 3 → (∀ k, k < 3 → bl (p k) (q k) ≤ bl (p a) (q a)) → (∀ k, a < k → k < 3 → bl (p k) (q k) < bl (p a) (q a) ∨ bl (p a) (q a) = 0) →
      cmpI (encL 14 (p 0) (p 1) (p 2) : Int) (encL 14 (q 0) (q 1) (q 2) : Int) = cmpI (p a : Int) (q a : Int) := by
    intro a ha hmax hlast
    have hle := bl_le (p a) (q a) (hp a) (hq a)
    by_cases h0 : bl (p a) (q a) = 0
    · have e : ∀ k, k < 3 → p k = q k := fun k hk => by
        have h1 := (bl_iff (hp k) (hq k) (Nat.zero_le 63)).1 (by have := hmax k hk; omega)
        simpa using h1
      rw [e 0 (by omega), e 1 (by omega), e 2 (by omega), e a ha]
      unfold cmpI
      rw [if_neg (by omega), if_neg (by omega), if_neg (by omega), if_neg (by omega)]
    · obtain ⟨l, hl⟩ : ∃ l, bl (p a) (q a) = l + 1 := ⟨bl (p a) (q a) - 1, by omega⟩
      have hup : ∀ k, k < 3 → p k / 2 ^ (l + 1) = q k / 2 ^ (l + 1) := fun k hk => (bl_iff (hp k) (hq k) (by omega)).1 (by rw [← hl]; exact hmax k hk)
      have hne : p a / 2 ^ l ≠ q a / 2 ^ l := fun e => by
        have := (bl_iff (hp a) (hq a) (by omega)).2 e
        omega
      have hsame : ∀ k, a < k → k < 3 → p k / 2 ^ l = q k / 2 ^ l := fun k h1 h2 => (bl_iff (hp k) (hq k) (by omega)).1 (by rcases hlast k h1 h2 with h | h <;> omega)
      have u0 := hup 0 (by omega)
      have u1 := hup 1 (by omega)
      have u2 := hup 2 (by omega)
      have ua := hup a ha
      have hlt : ∀ (x y : Nat), x / 2 ^ l < y / 2 ^ l → x < y := fun x y h => by
        rcases Nat.lt_or_ge x y with h1 | h1
        · exact h1
        · have := Nat.div_le_div_right (c := 2 ^ l) h1
          omega
      rw [half_of, half_of] at ua
      rcases Nat.lt_or_gt_of_ne hne with hlt1 | hlt1
      · have hd : dig (p 0) (p 1) (p 2) l < dig (q 0) (q 1) (q 2) l := by
          unfold dig
          rcases (by omega : a = 0 ∨ a = 1 ∨ a = 2) with rfl | rfl | rfl
          · rw [hsame 1 (by omega) (by omega), hsame 2 (by omega) (by omega)]; omega
          · rw [hsame 2 (by omega) (by omega)]; omega
          · omega
        have h1 := enc_lt_of_dig (by omega) u0 u1 u2 hd
        have h2 := hlt _ _ hlt1
        unfold cmpI
        rw [if_pos (by omega), if_pos (by omega)]
      · have hd : dig (q 0) (q 1) (q 2) l < dig (p 0) (p 1) (p 2) l := by
          unfold dig
          rcases (by omega : a = 0 ∨ a = 1 ∨ a = 2) with rfl | rfl | rfl
          · rw [hsame 1 (by omega) (by omega), hsame 2 (by omega) (by omega)]; omega
          · rw [hsame 2 (by omega) (by omega)]; omega
          · omega
        have h1 := enc_lt_of_dig (by omega) u0.symm u1.symm u2.symm hd
        have h2 := hlt _ _ hlt1
        unfold cmpI
        rw [if_neg (by omega), if_pos (by omega), if_neg (by omega), if_pos (by omega)]
  unfold mAt
  simp only
  by_cases h1 : bl (p 0) (q 0) ≤ bl (p 1) (q 1)
  · rw [if_pos h1]
    by_cases h2 : bl (p 1) (q 1) ≤ bl (p 2) (q 2)
    · rw [if_pos h2]
      exact key 2 (by omega) (fun k hk => by rcases (by omega : k = 0 ∨ k = 1 ∨ k = 2) with rfl | rfl | rfl <;> omega) (fun k h3 h4 => by omega)
    · rw [if_neg h2]
      exact key 1 (by omega) (fun k hk => by rcases (by omega : k = 0 ∨ k = 1 ∨ k = 2) with rfl | rfl | rfl <;> omega) (fun k h3 h4 => by
        obtain rfl : k = 2 := by omega
        omega)
  · rw [if_neg h1]
    by_cases h2 : bl (p 0) (q 0) ≤ bl (p 2) (q 2)
    · rw [if_pos h2]
      exact key 2 (by omega) (fun k hk => by rcases (by omega : k = 0 ∨ k = 1 ∨ k = 2) with rfl | rfl | rfl <;> omega) (fun k h3 h4 => by omega)
    · rw [if_neg h2]
      exact key 0 (by omega) (fun k hk => by rcases (by omega : k = 0 ∨ k = 1 ∨ k = 2) with rfl | rfl | rfl <;> omega) (fun k h3 h4 => by rcases (by omega : k = 1 ∨ k = 2) with rfl | rfl <;> omega)
end Go.Proofs.Ytkfijpghjjnpkaa
/-
  Operations by hand: xor, conversion to uint, comparisons, min and max of two. No statement is proved here.
-/
namespace Go.Proofs.Ytkfijpghjjnpkaa
open Go.RowKit
set_option linter.unusedVariables false

section
variable {P : Program} {w : World} {o : Oper} {a : Act} {t ty src dst : TypeId} {A B : Int}
theorem geqRun (x y : Operand) (ho : o.op = .binOp .geq t x y ty) (hx : a.eval x = .int .i64 A) (hy : a.eval y = .int .i64 B) : (execOp a.eval o).run P w = .ok (.value (.bool (decide (B ≤ A)))) w := by
  unfold execOp
  simp [ho, hx, hy, eqGuard, binOp_geq]
theorem convUintRun (x : Operand) (hs : (P.underlying src).isSome = true) (hd : P.underlying dst = some (.int .u64)) (ho : o.op = .convert src dst x) (hx : a.eval x = .int .i64 A) (h : 0 ≤ A) (h2 : A ≤ 9223372036854775807) : (execOp a.eval o).run P w = .ok (.value (.int .u64 A)) w := by
  have hk : P.intKind dst = .u64 := by simp [Program.intKind, hd]
  have hr := run_convert_int (P := P) w src dst .i64 A hs (by rw [hk]; exact hd)
  rw [hk] at hr
  have hw : IntKind.u64.wrap A = A := by
    simp [IntKind.wrap, IntKind.bits, IntKind.signed]
    omega
  rw [hw] at hr
  unfold execOp
  simp only [ho, hx, Sem.run_bind, Sem.run_pure, hr, Result.andThen_ok]
theorem quoRun {m n : Nat} (x y : Operand) (ho : o.op = .binOp .quo t x y ty) (hx : a.eval x = .int .i64 (m : Int)) (hy : a.eval y = .int .i64 (n : Int)) (hn : 1 ≤ n) (hm : m < 9223372036854775808) : (execOp a.eval o).run P w = .ok (.value (.int .i64 ((m / n : Nat) : Int))) w := by
  have h0 : ¬ n = 0 := by omega
  have h1 : (m : Int).tdiv (n : Int) = ((m / n : Nat) : Int) := rfl
  have h2 : m / n ≤ m := Nat.div_le_self _ _
  have h3 : ((m / n : Nat) : Int) = (m : Int) / (n : Int) := by simp
  have hw : IntKind.i64.wrap ((m : Int) / (n : Int)) = (m : Int) / (n : Int) := by
    rw [← h3]
    clear h1 h3
    generalize m / n = q at *
    exact IntWalk.i64_in (q : Int) ⟨by omega, by omega⟩
  unfold execOp
  simp only [ho, hx, hy]
  simp [eqGuard, binOp_quo, Op.intDiv, h1, h0, hw]
theorem minRun (x y : Operand) (ho : o.op = .call { callee := .builtin .min, args := #[x, y], argTypes := #[t, t] }) (hx : a.eval x = .int .i64 A) (hy : a.eval y = .int .i64 B) : (execOp a.eval o).run P w = .ok (.value (.int .i64 (min A B))) w := by
  unfold execOp
  simp [ho, hx, hy, resolve, invoke, builtin, Builtin.min_, Builtin.min2]
  by_cases h : B < A
  · rw [if_pos h, Int.min_eq_right (by omega)]
  · rw [if_neg h, Int.min_eq_left (by omega)]
theorem maxRun (x y : Operand) (ho : o.op = .call { callee := .builtin .max, args := #[x, y], argTypes := #[t, t] }) (hx : a.eval x = .int .i64 A) (hy : a.eval y = .int .i64 B) : (execOp a.eval o).run P w = .ok (.value (.int .i64 (max A B))) w := by
  unfold execOp
  simp [ho, hx, hy, resolve, invoke, builtin, Builtin.max_, Builtin.max2]
  by_cases h : A < B
  · rw [if_pos h, Int.max_eq_right (by omega)]
  · rw [if_neg h, Int.max_eq_left (by omega)]
end
end Go.Proofs.Ytkfijpghjjnpkaa
/-
  Compare of the Morton layer and of its reference. No statement is proved here.
-/
namespace Go.Proofs.Ytkfijpghjjnpkaa
open Go.RowKit
set_option linter.unusedVariables false
set_option linter.unusedSimpArgs false

def GTwo (p q : Pt) (n0 : Nat) (ix_ : Nat) (v : Value) (w : World) : Prop :=
  match ix_ with
  | 0 => v = .agg (pcs p).toArray
  | 1 => v = .agg (pcs p).toArray
  | 2 => v = .agg (pcs q).toArray
  | 3 => v = .agg (pcs q).toArray
  | 4 => ∃ g, v = .pointer (some ⟨g, 0, none⟩) ∧ n0 ≤ g ∧ Arr w g 57 (pcs p0)
  | 5 => ∃ g, v = .pointer (some ⟨g, 0, none⟩) ∧ n0 ≤ g ∧ Arr w g 57 (pcs p0)
  | _ => True
def DTwo (i j : Nat) (v u : Value) : Prop := (i = 4 ∧ j = 5 ∨ i = 5 ∧ j = 4) → v ≠ u
theorem dTwo_sym : ∀ (i j : Nat) (v u : Value), DTwo i j v u → DTwo j i u v := fun i j v u h hc => Ne.symm (h (by omega))
def Pt.nat (p : Pt) (k : Nat) : Nat := (p.at k).toNat
theorem Pt.In.nat {p : Pt} (h : p.In) (k : Nat) : p.at k = (p.nat k : Int) ∧ p.nat k < 16384 := by
  have := h.at_ k
  unfold Pt.nat
  omega
/-- The axis chosen among the first k. -/
def atTo (p q : Nat → Nat) : Nat → Nat
  | 0 => 0
  | k + 1 => if bl (p (atTo p q k)) (q (atTo p q k)) ≤ bl (p k) (q k) then k else atTo p q k
theorem atTo_lt (p q : Nat → Nat) : ∀ k, k ≤ 3 → atTo p q k < 3
  | 0, _ => by show 0 < 3; decide
  | k + 1, h => by
    have := atTo_lt p q k (by omega)
    unfold atTo
    split <;> omega
theorem atTo_three (p q : Nat → Nat) : atTo p q 3 = mAt p q := by
  have h1 : atTo p q 1 = 0 := by simp [atTo]
  have h2 : atTo p q 2 = if bl (p 0) (q 0) ≤ bl (p 1) (q 1) then 1 else 0 := by rw [atTo, h1]
  rw [atTo, h2]
  rfl
def mCmp (p q : Pt) : Int := cmpI (mEnc p) (mEnc q)
theorem mCmp_in {p q : Pt} (hp : p.In) (hq : q.In) : mCmp p q = cmpI (p.at (mAt p.nat q.nat)) (q.at (mAt p.nat q.nat)) := by
  have h := cmp_code p.nat q.nat (fun k => (hp.nat k).2) (fun k => (hq.nat k).2)
  have e1 : mEnc p = (encL 14 (p.nat 0) (p.nat 1) (p.nat 2) : Int) := by unfold mEnc; rw [if_pos hp]; rfl
  have e2 : mEnc q = (encL 14 (q.nat 0) (q.nat 1) (q.nat 2) : Int) := by unfold mEnc; rw [if_pos hq]; rfl
  unfold mCmp
  rw [e1, e2, h, (hp.nat _).1, (hq.nat _).1]
theorem mCmp_out {p q : Pt} (h : ¬ (p.In ∧ q.In)) : mCmp p q = cmpI (min (mEnc p) 0) (min (mEnc q) 0) := by
  unfold mCmp cmpI
  by_cases hp : p.In
  · have h1 := mEnc_in hp
    have hq : ¬ q.In := fun hq => h ⟨hp, hq⟩
    rw [mEnc_out hq]
    rw [Int.min_eq_right h1.1, if_neg (by omega), if_pos (by omega), if_neg (by omega), if_pos (by omega)]
  · rw [mEnc_out hp]
    by_cases hq : q.In
    · have h1 := mEnc_in hq
      rw [Int.min_eq_right h1.1, if_pos (by omega), if_pos (by omega)]
    · rw [mEnc_out hq]
      rfl
theorem compareInt_eq (a b : Int) : Lib.compareInt a b = cmpI a b := by
  unfold Lib.compareInt cmpI
  repeat' split
  all_goals first | rfl | (exfalso; omega)
theorem at_xor {p q : Pt} (hp : p.In) (hq : q.In) (k : Nat) : p.nat k ^^^ q.nat k < 65536 := by
  have h1 := (hp.nat k).2
  have h2 := (hq.nat k).2
  have h3 : p.nat k ^^^ q.nat k < 2 ^ 14 := Nat.xor_lt_two_pow (by omega) (by omega)
  omega

set_option maxRecDepth 100000 in
set_option maxHeartbeats 4000000 in
theorem compare_any (p q : Pt) (w : World) : Calls Try.prog 15 #[.agg (pcs p).toArray, .agg (pcs q).toArray] w (RetI w (mCmp p q)) := by
  have HIP := Lib.hid (inside_any p)
  have HIQ := Lib.hid (inside_any q)
  have HEP := Lib.hid (encode_any p)
  have HEQ := Lib.hid (encode_any q)
  by_cases hp : p.In
  · by_cases hq : q.In
    · have HIN := Lib.hid (mCmp_in hp hq)
      rw [decide_eq_true hp] at HIP
      rw [decide_eq_true hq] at HIQ
      have HP := Lib.hid hp
      have HQ := Lib.hid hq
      clear hp hq
      go_enter Try.func15, Try.ntmps15
      go_wp2_with (first | (with_reducible refine bxArr (cs := pcs p) (.tmp 0) (wn rfl) rfl rfl ?_) | fail)
      intro w1 h2 b1
      go_wp2_with (with_reducible refine bxArr (cs := pcs q) (.tmp 1) (wn rfl) rfl rfl ?_)
      intro w2 h3 b2
      have l2 := h2.lt
      replace h2 := h2.below b2 l2
      have hb := b1.trans (b2.mono b1.size)
      clear b1 b2
      go_wp2_with (with_reducible refine ldArr (.tmp 2) Try.ag_pt (wn rfl) rfl rfl rfl h2 ?_)
      refine (HIP.out _).mono ?_
      rintro e w3 ⟨rfl, b3⟩
      replace h2 := h2.below b3 h2.lt
      replace h3 := h3.below b3 h3.lt
      replace hb := hb.trans (b3.mono hb.size)
      clear b3
      go_wp2_with (with_reducible refine ldArr (.tmp 3) Try.ag_pt (by kernel_rfl) rfl rfl rfl h3 ?_)
      refine (HIQ.out _).mono ?_
      rintro e w4 ⟨rfl, b4⟩
      replace h2 := h2.below b4 h2.lt
      replace h3 := h3.below b4 h3.lt
      replace hb := hb.trans (b4.mono hb.size)
      clear b4
      generalize w1.heap.size = g3 at *
      go_wp2_with fail
      refine aStart (by kernel_rfl) ?_
      replace h2 := h2.drew
      replace h3 := h3.drew
      replace hb := hb.drew
      have hn0 : w.heap.size ≤ w4.drew.heap.size := hb.size
      generalize w4.drew = wd at *
      refine rgFloatD [(0, 24), (1, 25), (2, 26), (3, 27), (4, 5), (5, 6)] (GTwo p q w.heap.size) DTwo _ 2 rfl dTwo_sym (by kernel_rfl) ?mono ?step ?fin
      case mono =>
        intro r hr v w w' h hE
        simp only [List.mem_cons, List.not_mem_nil, or_false] at hr
        rcases hr with rfl | rfl | rfl | rfl | rfl | rfl
        · exact h
        · exact h
        · exact h
        · exact h
        · obtain ⟨g, e1, e2, e3⟩ := h
          exact ⟨g, e1, e2, e3.below hE e3.lt⟩
        · obtain ⟨g, e1, e2, e3⟩ := h
          exact ⟨g, e1, e2, e3.below hE e3.lt⟩
      case step =>
        intro r hr
        simp only [List.mem_cons, List.not_mem_nil, or_false] at hr
        rcases hr with rfl | rfl | rfl | rfl | rfl | rfl
        · refine ⟨_, rfl, rfl, fun a w' hF hE hG => ?_⟩
          refine ldArr (b := w.heap.size) (.tmp 2) Try.ag_pt (wn rfl) rfl ((hF.eval 2 (by kernel_rfl)).trans (by kernel_rfl)) rfl (h2.below hE h2.lt) ?_
          exact ⟨_, rfl, Below.refl _ _, rfl, fun _ _ _ _ _ hc => by rcases hc with ⟨h1, _⟩ | ⟨h1, _⟩ <;> cases h1⟩
        · refine ⟨_, rfl, rfl, fun a w' hF hE hG => ?_⟩
          have hx : a.tmps.getD 24 undef = .agg (pcs p).toArray := hG (0, 24) (by simp) (by kernel_rfl)
          refine callOp 37 [.agg (pcs p).toArray] [] [] (by kernel_rfl) (wn rfl) rfl rfl (by show [a.tmps.getD 24 undef] = _; rw [hx]) ?_
          refine (array_any p w').mono ?_
          rintro e w2 ⟨rfl, hb2⟩
          exact ⟨_, rfl, ⟨_, rfl, hb2, rfl, fun _ _ _ _ _ hc => by rcases hc with ⟨h1, _⟩ | ⟨h1, _⟩ <;> cases h1⟩⟩
        · refine ⟨_, rfl, rfl, fun a w' hF hE hG => ?_⟩
          refine ldArr (b := g3) (.tmp 3) Try.ag_pt (wn rfl) rfl ((hF.eval 3 (by kernel_rfl)).trans (by kernel_rfl)) rfl (h3.below hE h3.lt) ?_
          exact ⟨_, rfl, Below.refl _ _, rfl, fun _ _ _ _ _ hc => by rcases hc with ⟨h1, _⟩ | ⟨h1, _⟩ <;> cases h1⟩
        · refine ⟨_, rfl, rfl, fun a w' hF hE hG => ?_⟩
          have hx : a.tmps.getD 26 undef = .agg (pcs q).toArray := hG (2, 26) (by simp) (by kernel_rfl)
          refine callOp 37 [.agg (pcs q).toArray] [] [] (by kernel_rfl) (wn rfl) rfl rfl (by show [a.tmps.getD 26 undef] = _; rw [hx]) ?_
          refine (array_any q w').mono ?_
          rintro e w2 ⟨rfl, hb2⟩
          exact ⟨_, rfl, ⟨_, rfl, hb2, rfl, fun _ _ _ _ _ hc => by rcases hc with ⟨h1, _⟩ | ⟨h1, _⟩ <;> cases h1⟩⟩
        · refine ⟨_, rfl, rfl, fun a w' hF hE hG => ?_⟩
          refine alArr (z := pcs p0) Try.ag_i3 (wn rfl) rfl ?_
          intro w5 h5 hb5
          refine ⟨_, rfl, hb5, ⟨_, rfl, Nat.le_trans hn0 hE.size, h5⟩, fun r hr _ u hu hc => ?_⟩
          have hr5 : r.1 = 5 := by rcases hc with ⟨h1, h2⟩ | ⟨h1, h2⟩ <;> first | exact h2 | cases h1
          rw [hr5] at hu
          obtain ⟨g', rfl, _, hA'⟩ := hu
          have hl' := hA'.lt
          intro e
          injection e with e
          injection e with e
          injection e with e
          omega
        · refine ⟨_, rfl, rfl, fun a w' hF hE hG => ?_⟩
          refine alArr (z := pcs p0) Try.ag_i3 (wn rfl) rfl ?_
          intro w5 h5 hb5
          refine ⟨_, rfl, hb5, ⟨_, rfl, Nat.le_trans hn0 hE.size, h5⟩, fun r hr _ u hu hc => ?_⟩
          have hr5 : r.1 = 4 := by rcases hc with ⟨h1, h2⟩ | ⟨h1, h2⟩ <;> first | exact h2 | cases h1
          rw [hr5] at hu
          obtain ⟨g', rfl, _, hA'⟩ := hu
          have hl' := hA'.lt
          intro e
          injection e with e
          injection e with e
          injection e with e
          omega
      case fin =>
        intro a wf hF hE hG hDD
        have q0 : a.tmps.getD 24 undef = .agg (pcs p).toArray := hG (0, 24) (by simp)
        have q1 : a.tmps.getD 25 undef = .agg (pcs p).toArray := hG (1, 25) (by simp)
        have q2 : a.tmps.getD 26 undef = .agg (pcs q).toArray := hG (2, 26) (by simp)
        have q3 : a.tmps.getD 27 undef = .agg (pcs q).toArray := hG (3, 27) (by simp)
        obtain ⟨ga, q4, na, hA⟩ : ∃ g, a.tmps.getD 5 undef = .pointer (some ⟨g, 0, none⟩) ∧ w.heap.size ≤ g ∧ Arr wf g 57 (pcs p0) := hG (4, 5) (by simp)
        obtain ⟨gb, q5, nb, hB⟩ : ∃ g, a.tmps.getD 6 undef = .pointer (some ⟨g, 0, none⟩) ∧ w.heap.size ≤ g ∧ Arr wf g 57 (pcs p0) := hG (5, 6) (by simp)
        have hab : ga ≠ gb := by
          have h1 : DTwo 4 5 (a.tmps.getD 5 undef) (a.tmps.getD 6 undef) := hDD (4, 5) (by simp) (5, 6) (by simp) (by decide)
          rw [q4, q5] at h1
          intro e
          exact h1 (Or.inl ⟨rfl, rfl⟩) (by rw [e])
        replace h2 := h2.below hE h2.lt
        replace h3 := h3.below hE h3.lt
        replace hb := hb.trans (hE.mono hb.size)
        rw [hF.eq]
        simp only [putsX]
        rw [q0, q1, q2, q3, q4, q5]
        clear hG hF hE q0 q1 q2 q3 q4 q5 hDD hn0
        simp only [Act.put, List.setIfInBounds_toArray, List.set_cons_succ, List.set_cons_zero]
        refine aNext (i := 6) (by kernel_rfl) rfl ?_
        refine stArrG (cs := pcs p) (.tmp 5) (.tmp 25) Try.ag_i3 (by kernel_rfl) rfl (by kernel_rfl) (by kernel_rfl) hA rfl rfl (pcs_one _) ?_
        intro w7 hA7 hg7
        replace hB := hB.grown hg7 (fun e => hab (by injection e with e; exact e.symm))
        replace hb := hb.grown hg7 hb.size (fun k e => by cases e; exact na)
        refine aNext (i := 7) (by kernel_rfl) rfl ?_
        refine stArrG (cs := pcs q) (.tmp 6) (.tmp 27) Try.ag_i3 (by kernel_rfl) rfl (by kernel_rfl) (by kernel_rfl) hB rfl rfl (pcs_one _) ?_
        intro w8 hB hg8
        replace hA := hA7.grown hg8 (fun e => hab (by injection e))
        replace hb := hb.grown hg8 hb.size (fun k e => by cases e; exact nb)
        clear hg7 hg8 hA7
        refine aDone (by kernel_rfl) ?_
        simp only [Act.put, List.setIfInBounds_toArray, List.set_cons_succ, List.set_cons_zero]
        clear h2 h3
        go_wp2_with fail
        go_loopw [7, 28] (fun at_ kk wr => ∃ k c : Nat, k ≤ 3 ∧ kk = .int .i64 (k : Int) ∧ at_ = .int .i64 (c : Int) ∧ Hid (c = atTo p.nat q.nat k) ∧ Arr wr ga 57 (pcs p) ∧ Arr wr gb 57 (pcs q) ∧ Below w.heap.size w wr) (fun _ kk _ => 3 - (intOf kk).toNat)
        case atStart => exact ⟨0, 0, by omega, rfl, rfl, Lib.hid rfl, hA, hB, hb⟩
        case round =>
          clear hA hB hb
          obtain ⟨k, c, hk, rfl, rfl, HC, hA, hB, hb⟩ := hrel
          have hc3 : c < 3 := by rw [HC.out]; exact atTo_lt _ _ _ hk
          by_cases h3 : k < 3
          · have HC2 := Lib.hid (show atTo p.nat q.nat (k + 1) = if bl (p.nat c) (q.nat c) ≤ bl (p.nat k) (q.nat k) then k else c by rw [atTo, ← HC.out])
            go_wp2_with fail
            have hpk := (HP.out.nat k).1
            have hqk := (HQ.out.nat k).1
            have hpc := (HP.out.nat c).1
            have hqc := (HQ.out.nat c).1
            have hpk2 := (HP.out.nat k).2
            have hqk2 := (HQ.out.nat k).2
            have hpc2 := (HP.out.nat c).2
            have hqc2 := (HQ.out.nat c).2
            have hx1 := at_xor HP.out HQ.out k
            have hx2 := at_xor HP.out HQ.out c
            refine rgStart (fun w' => Arr w' ga 57 (pcs p) ∧ Arr w' gb 57 (pcs q)) (by kernel_rfl) ?_
            have hq : (fun w' : World => Arr w' ga 57 (pcs p) ∧ Arr w' gb 57 (pcs q)) wr.drew := ⟨hA.drew, hB.drew⟩
            refine rgTake (S := fun w' => Arr w' ga 57 (pcs p) ∧ Arr w' gb 57 (pcs q)) (i := 0) (v := .int .i64 (k : Int)) rfl (by kernel_rfl) (by kernel_rfl) (fun _ _ _ h => h) (fun w _ => by kernel_rfl) hq ?_
            refine rgTake (S := fun w' => Arr w' ga 57 (pcs p) ∧ Arr w' gb 57 (pcs q)) (i := 1) (v := .pointer (some ⟨ga, 0 + k * 1, none⟩)) rfl (by kernel_rfl) (by kernel_rfl) (fun _ _ _ h => h) (fun w _ => iaRun (n := 3) (kk := .i64) (.tmp 5) (.tmp 31) k Try.und_i3 Try.one_int rfl (by kernel_rfl) (by kernel_rfl) rfl h3) hq ?_
            refine rgTake (S := fun w' => Arr w' ga 57 (pcs p) ∧ Arr w' gb 57 (pcs q)) (i := 2) (v := .int .i64 (p.at k)) rfl (by kernel_rfl) (by kernel_rfl) (fun _ _ _ h => h) (fun w h => ldRun (.tmp 32) (by kernel_rfl) rfl (by kernel_rfl) (show w.cell? ⟨ga, 0 + k * 1, none⟩ = _ by rw [Nat.zero_add, Nat.mul_one]; exact (h.1).cell (pcs_get p h3))) hq ?_
            refine rgTake (S := fun w' => Arr w' ga 57 (pcs p) ∧ Arr w' gb 57 (pcs q)) (i := 3) (v := .int .i64 (k : Int)) rfl (by kernel_rfl) (by kernel_rfl) (fun _ _ _ h => h) (fun w _ => by kernel_rfl) hq ?_
            refine rgTake (S := fun w' => Arr w' ga 57 (pcs p) ∧ Arr w' gb 57 (pcs q)) (i := 4) (v := .pointer (some ⟨gb, 0 + k * 1, none⟩)) rfl (by kernel_rfl) (by kernel_rfl) (fun _ _ _ h => h) (fun w _ => iaRun (n := 3) (kk := .i64) (.tmp 6) (.tmp 34) k Try.und_i3 Try.one_int rfl (by kernel_rfl) (by kernel_rfl) rfl h3) hq ?_
            refine rgTake (S := fun w' => Arr w' ga 57 (pcs p) ∧ Arr w' gb 57 (pcs q)) (i := 5) (v := .int .i64 (q.at k)) rfl (by kernel_rfl) (by kernel_rfl) (fun _ _ _ h => h) (fun w h => ldRun (.tmp 35) (by kernel_rfl) rfl (by kernel_rfl) (show w.cell? ⟨gb, 0 + k * 1, none⟩ = _ by rw [Nat.zero_add, Nat.mul_one]; exact (h.2).cell (pcs_get q h3))) hq ?_
            refine rgTake (S := fun w' => Arr w' ga 57 (pcs p) ∧ Arr w' gb 57 (pcs q)) (i := 9) (v := .int .i64 (c : Int)) rfl (by kernel_rfl) (by kernel_rfl) (fun _ _ _ h => h) (fun w _ => by kernel_rfl) hq ?_
            refine rgTake (S := fun w' => Arr w' ga 57 (pcs p) ∧ Arr w' gb 57 (pcs q)) (i := 10) (v := .pointer (some ⟨ga, 0 + c * 1, none⟩)) rfl (by kernel_rfl) (by kernel_rfl) (fun _ _ _ h => h) (fun w _ => iaRun (n := 3) (kk := .i64) (.tmp 5) (.tmp 40) c Try.und_i3 Try.one_int rfl (by kernel_rfl) (by kernel_rfl) rfl hc3) hq ?_
            refine rgTake (S := fun w' => Arr w' ga 57 (pcs p) ∧ Arr w' gb 57 (pcs q)) (i := 11) (v := .int .i64 (p.at c)) rfl (by kernel_rfl) (by kernel_rfl) (fun _ _ _ h => h) (fun w h => ldRun (.tmp 41) (by kernel_rfl) rfl (by kernel_rfl) (show w.cell? ⟨ga, 0 + c * 1, none⟩ = _ by rw [Nat.zero_add, Nat.mul_one]; exact (h.1).cell (pcs_get p hc3))) hq ?_
            refine rgTake (S := fun w' => Arr w' ga 57 (pcs p) ∧ Arr w' gb 57 (pcs q)) (i := 12) (v := .int .i64 (c : Int)) rfl (by kernel_rfl) (by kernel_rfl) (fun _ _ _ h => h) (fun w _ => by kernel_rfl) hq ?_
            refine rgTake (S := fun w' => Arr w' ga 57 (pcs p) ∧ Arr w' gb 57 (pcs q)) (i := 13) (v := .pointer (some ⟨gb, 0 + c * 1, none⟩)) rfl (by kernel_rfl) (by kernel_rfl) (fun _ _ _ h => h) (fun w _ => iaRun (n := 3) (kk := .i64) (.tmp 6) (.tmp 43) c Try.und_i3 Try.one_int rfl (by kernel_rfl) (by kernel_rfl) rfl hc3) hq ?_
            refine rgTake (S := fun w' => Arr w' ga 57 (pcs p) ∧ Arr w' gb 57 (pcs q)) (i := 14) (v := .int .i64 (q.at c)) rfl (by kernel_rfl) (by kernel_rfl) (fun _ _ _ h => h) (fun w h => ldRun (.tmp 44) (by kernel_rfl) rfl (by kernel_rfl) (show w.cell? ⟨gb, 0 + c * 1, none⟩ = _ by rw [Nat.zero_add, Nat.mul_one]; exact (h.2).cell (pcs_get q hc3))) hq ?_
            try simp only [Act.put, List.setIfInBounds_toArray, List.set_cons_succ, List.set_cons_zero]
            refine rgTake (S := fun w' => Arr w' ga 57 (pcs p) ∧ Arr w' gb 57 (pcs q)) (i := 6) (v := .int .i64 ((p.nat k ^^^ q.nat k : Nat) : Int)) rfl (by kernel_rfl) (by kernel_rfl) (fun _ _ _ h => h) (fun w _ => xorRun (m := p.nat k) (n := q.nat k) (.tmp 33) (.tmp 36) rfl (by rw [← hpk]; kernel_rfl) (by rw [← hqk]; kernel_rfl) (by omega) (by omega)) hq ?_
            refine rgTake (S := fun w' => Arr w' ga 57 (pcs p) ∧ Arr w' gb 57 (pcs q)) (i := 7) (v := .int .u64 ((p.nat k ^^^ q.nat k : Nat) : Int)) rfl (by kernel_rfl) (by kernel_rfl) (fun _ _ _ h => h) (fun w _ => convUintRun (.tmp 37) (by kernel_rfl) (by kernel_rfl) rfl (by kernel_rfl) (by omega) (by omega)) hq ?_
            refine rgTake (S := fun w' => Arr w' ga 57 (pcs p) ∧ Arr w' gb 57 (pcs q)) (i := 15) (v := .int .i64 ((p.nat c ^^^ q.nat c : Nat) : Int)) rfl (by kernel_rfl) (by kernel_rfl) (fun _ _ _ h => h) (fun w _ => xorRun (m := p.nat c) (n := q.nat c) (.tmp 42) (.tmp 45) rfl (by rw [← hpc]; kernel_rfl) (by rw [← hqc]; kernel_rfl) (by omega) (by omega)) hq ?_
            refine rgTake (S := fun w' => Arr w' ga 57 (pcs p) ∧ Arr w' gb 57 (pcs q)) (i := 16) (v := .int .u64 ((p.nat c ^^^ q.nat c : Nat) : Int)) rfl (by kernel_rfl) (by kernel_rfl) (fun _ _ _ h => h) (fun w _ => convUintRun (.tmp 46) (by kernel_rfl) (by kernel_rfl) rfl (by kernel_rfl) (by omega) (by omega)) hq ?_
            try simp only [Act.put, List.setIfInBounds_toArray, List.set_cons_succ, List.set_cons_zero]
            refine rgNext (S := fun w' => Arr w' ga 57 (pcs p) ∧ Arr w' gb 57 (pcs q)) (i := 8) (by kernel_rfl) rfl ?_
            refine callOp 38 [.int .u64 ((p.nat k ^^^ q.nat k : Nat) : Int)] [] [] (by kernel_rfl) (by kernel_rfl) rfl rfl rfl ?_
            refine (bits_Len ((p.nat k ^^^ q.nat k : Nat) : Int) _ (by omega) (by omega)).mono ?_
            rintro e wz ⟨rfl, rfl⟩
            refine ⟨_, rfl, ?_⟩
            refine rgBack hq ?_
            try simp only [Act.put, List.setIfInBounds_toArray, List.set_cons_succ, List.set_cons_zero]
            refine rgNext (S := fun w' => Arr w' ga 57 (pcs p) ∧ Arr w' gb 57 (pcs q)) (i := 17) (by kernel_rfl) rfl ?_
            refine callOp 38 [.int .u64 ((p.nat c ^^^ q.nat c : Nat) : Int)] [] [] (by kernel_rfl) (by kernel_rfl) rfl rfl rfl ?_
            refine (bits_Len ((p.nat c ^^^ q.nat c : Nat) : Int) _ (by omega) (by omega)).mono ?_
            rintro e wz ⟨rfl, rfl⟩
            refine ⟨_, rfl, ?_⟩
            refine rgBack hq ?_
            refine rgTake (S := fun w' => Arr w' ga 57 (pcs p) ∧ Arr w' gb 57 (pcs q)) (i := 18) (v := .bool (decide ((bl (p.nat c) (q.nat c) : Int) ≤ (bl (p.nat k) (q.nat k) : Int)))) rfl (by kernel_rfl) (by kernel_rfl) (fun _ _ _ h => h) (fun w _ => geqRun (A := (bl (p.nat k) (q.nat k) : Int)) (B := (bl (p.nat c) (q.nat c) : Int)) (.tmp 39) (.tmp 48) rfl (by kernel_rfl) (by kernel_rfl)) hq ?_
            refine rgDone (by kernel_rfl) ?_
            try simp only [Act.put, List.setIfInBounds_toArray, List.set_cons_succ, List.set_cons_zero]
            replace hA := hA.drew
            replace hB := hB.drew
            replace hb := hb.drew
            clear hq hpk hqk hpc hqc hpk2 hqk2 hpc2 hqc2 hx1 hx2
            by_cases hle : bl (p.nat c) (q.nat c) ≤ bl (p.nat k) (q.nat k)
            · have HC3 : Hid (k = atTo p.nat q.nat (k + 1)) := Lib.hid (by rw [HC2.out, if_pos hle])
              have hle2 : (bl (p.nat c) (q.nat c) : Int) ≤ (bl (p.nat k) (q.nat k) : Int) := by omega
              go_wp2_with fail
              refine ⟨⟨k + 1, k, by omega, by simp, rfl, HC3, hA, hB, hb⟩, ?_⟩
              simp [intOf]; omega
            · have HC3 : Hid (c = atTo p.nat q.nat (k + 1)) := Lib.hid (by rw [HC2.out, if_neg hle])
              have hle2 : ¬ (bl (p.nat c) (q.nat c) : Int) ≤ (bl (p.nat k) (q.nat k) : Int) := by omega
              go_wp2_with fail
              refine ⟨⟨k + 1, c, by omega, by simp, rfl, HC3, hA, hB, hb⟩, ?_⟩
              simp [intOf]; omega
          · obtain rfl : k = 3 := by omega
            have HR : Hid (mCmp p q = Lib.compareInt (p.at c) (q.at c)) := Lib.hid (by rw [HIN.out, HC.out, atTo_three, compareInt_eq])
            go_wp2_with fail
            refine rgStart (fun w' => Arr w' ga 57 (pcs p) ∧ Arr w' gb 57 (pcs q)) (by kernel_rfl) ?_
            have hq : (fun w' : World => Arr w' ga 57 (pcs p) ∧ Arr w' gb 57 (pcs q)) wr.drew := ⟨hA.drew, hB.drew⟩
            refine rgTake (S := fun w' => Arr w' ga 57 (pcs p) ∧ Arr w' gb 57 (pcs q)) (i := 0) (v := .int .i64 (c : Int)) rfl (by kernel_rfl) (by kernel_rfl) (fun _ _ _ h => h) (fun w _ => by kernel_rfl) hq ?_
            refine rgTake (S := fun w' => Arr w' ga 57 (pcs p) ∧ Arr w' gb 57 (pcs q)) (i := 1) (v := .pointer (some ⟨ga, 0 + c * 1, none⟩)) rfl (by kernel_rfl) (by kernel_rfl) (fun _ _ _ h => h) (fun w _ => iaRun (n := 3) (kk := .i64) (.tmp 5) (.tmp 52) c Try.und_i3 Try.one_int rfl (by kernel_rfl) (by kernel_rfl) rfl hc3) hq ?_
            refine rgTake (S := fun w' => Arr w' ga 57 (pcs p) ∧ Arr w' gb 57 (pcs q)) (i := 2) (v := .int .i64 (p.at c)) rfl (by kernel_rfl) (by kernel_rfl) (fun _ _ _ h => h) (fun w h => ldRun (.tmp 53) (by kernel_rfl) rfl (by kernel_rfl) (show w.cell? ⟨ga, 0 + c * 1, none⟩ = _ by rw [Nat.zero_add, Nat.mul_one]; exact (h.1).cell (pcs_get p hc3))) hq ?_
            refine rgTake (S := fun w' => Arr w' ga 57 (pcs p) ∧ Arr w' gb 57 (pcs q)) (i := 3) (v := .int .i64 (c : Int)) rfl (by kernel_rfl) (by kernel_rfl) (fun _ _ _ h => h) (fun w _ => by kernel_rfl) hq ?_
            refine rgTake (S := fun w' => Arr w' ga 57 (pcs p) ∧ Arr w' gb 57 (pcs q)) (i := 4) (v := .pointer (some ⟨gb, 0 + c * 1, none⟩)) rfl (by kernel_rfl) (by kernel_rfl) (fun _ _ _ h => h) (fun w _ => iaRun (n := 3) (kk := .i64) (.tmp 6) (.tmp 55) c Try.und_i3 Try.one_int rfl (by kernel_rfl) (by kernel_rfl) rfl hc3) hq ?_
            refine rgTake (S := fun w' => Arr w' ga 57 (pcs p) ∧ Arr w' gb 57 (pcs q)) (i := 5) (v := .int .i64 (q.at c)) rfl (by kernel_rfl) (by kernel_rfl) (fun _ _ _ h => h) (fun w h => ldRun (.tmp 56) (by kernel_rfl) rfl (by kernel_rfl) (show w.cell? ⟨gb, 0 + c * 1, none⟩ = _ by rw [Nat.zero_add, Nat.mul_one]; exact (h.2).cell (pcs_get q hc3))) hq ?_
            try simp only [Act.put, List.setIfInBounds_toArray, List.set_cons_succ, List.set_cons_zero]
            refine rgNext (S := fun w' => Arr w' ga 57 (pcs p) ∧ Arr w' gb 57 (pcs q)) (i := 6) (by kernel_rfl) rfl ?_
            refine callOp 40 [.int .i64 (p.at c), .int .i64 (q.at c)] [] [] (by kernel_rfl) (by kernel_rfl) rfl rfl rfl ?_
            refine (cmp_Compare_int _ _ _).mono ?_
            rintro e wz ⟨rfl, rfl⟩
            refine ⟨_, rfl, ?_⟩
            refine rgBack hq ?_
            refine rgTake (S := fun w' => Arr w' ga 57 (pcs p) ∧ Arr w' gb 57 (pcs q)) (i := 7) (v := .int .i64 (Lib.compareInt (p.at c) (q.at c))) rfl (by kernel_rfl) (by kernel_rfl) (fun _ _ _ h => h) (fun w _ => by kernel_rfl) hq ?_
            refine rgDone (by kernel_rfl) ?_
            try simp only [Act.put, List.setIfInBounds_toArray, List.set_cons_succ, List.set_cons_zero]
            replace hb := hb.drew
            go_wp2_with fail
            go_ret
            exact ⟨by rw [HR.out]; rfl, hb⟩
    · have HOUT := Lib.hid (mCmp_out (p := p) (q := q) (fun h => hq h.2))
      rw [decide_eq_true hp] at HIP
      rw [decide_eq_false hq] at HIQ
      go_enter Try.func15, Try.ntmps15
      go_wp2_with (first | (with_reducible refine bxArr (cs := pcs p) (.tmp 0) (wn rfl) rfl rfl ?_) | fail)
      intro w1 h2 b1
      go_wp2_with (with_reducible refine bxArr (cs := pcs q) (.tmp 1) (wn rfl) rfl rfl ?_)
      intro w2 h3 b2
      have l2 := h2.lt
      replace h2 := h2.below b2 l2
      have hb := b1.trans (b2.mono b1.size)
      clear b1 b2
      go_wp2_with (with_reducible refine ldArr (.tmp 2) Try.ag_pt (wn rfl) rfl rfl rfl h2 ?_)
      refine (HIP.out _).mono ?_
      rintro e w3 ⟨rfl, b3⟩
      replace h2 := h2.below b3 h2.lt
      replace h3 := h3.below b3 h3.lt
      replace hb := hb.trans (b3.mono hb.size)
      clear b3
      go_wp2_with (with_reducible refine ldArr (.tmp 3) Try.ag_pt (by kernel_rfl) rfl rfl rfl h3 ?_)
      refine (HIQ.out _).mono ?_
      rintro e w4 ⟨rfl, b4⟩
      replace h2 := h2.below b4 h2.lt
      replace h3 := h3.below b4 h3.lt
      replace hb := hb.trans (b4.mono hb.size)
      clear b4
      generalize w1.heap.size = g3 at *
      go_wp2_with fail
      replace hb := hb.drew
      refine rgStart (fun w' => Arr w' w.heap.size 23 (pcs p) ∧ Arr w' g3 23 (pcs q)) (by kernel_rfl) ?_
      have hq : (fun w' : World => Arr w' w.heap.size 23 (pcs p) ∧ Arr w' g3 23 (pcs q)) w4.drew := ⟨h2.drew, h3.drew⟩
      refine rgLoad (S := fun w' => Arr w' w.heap.size 23 (pcs p) ∧ Arr w' g3 23 (pcs q)) (i := 0) (b := w.heap.size) (off := 0) (.tmp 2) (pcs p) Try.ag_pt rfl (by kernel_rfl) (by kernel_rfl) (fun _ _ _ h => h) rfl (by kernel_rfl) rfl (fun w h j u hu => by rw [Nat.zero_add]; exact (h.1).cell hu) hq ?_
      refine rgLoad (S := fun w' => Arr w' w.heap.size 23 (pcs p) ∧ Arr w' g3 23 (pcs q)) (i := 3) (b := g3) (off := 0) (.tmp 3) (pcs q) Try.ag_pt rfl (by kernel_rfl) (by kernel_rfl) (fun _ _ _ h => h) rfl (by kernel_rfl) rfl (fun w h j u hu => by rw [Nat.zero_add]; exact (h.2).cell hu) hq ?_
      try simp only [Act.put, List.setIfInBounds_toArray, List.set_cons_succ, List.set_cons_zero]
      refine rgNext (S := fun w' => Arr w' w.heap.size 23 (pcs p) ∧ Arr w' g3 23 (pcs q)) (i := 1) (by kernel_rfl) rfl ?_
      refine callOp 13 [.agg (pcs p).toArray] [] [] (by kernel_rfl) (by kernel_rfl) rfl rfl rfl ?_
      refine (HEP.out _).mono ?_
      rintro e wz ⟨rfl, bz⟩
      replace hq := And.intro (hq.1.below bz hq.1.lt) (hq.2.below bz hq.2.lt)
      replace hb := hb.trans (bz.mono hb.size)
      clear bz
      refine ⟨_, rfl, ?_⟩
      refine rgBack hq ?_
      refine rgTake (S := fun w' => Arr w' w.heap.size 23 (pcs p) ∧ Arr w' g3 23 (pcs q)) (i := 2) (v := .int .i64 (min (mEnc p) 0)) rfl (by kernel_rfl) (by kernel_rfl) (fun _ _ _ h => h) (fun w _ => minRun (A := mEnc p) (B := 0) (.tmp 18) (.const (.int .i64 0)) rfl (by kernel_rfl) rfl) hq ?_
      try simp only [Act.put, List.setIfInBounds_toArray, List.set_cons_succ, List.set_cons_zero]
      refine rgNext (S := fun w' => Arr w' w.heap.size 23 (pcs p) ∧ Arr w' g3 23 (pcs q)) (i := 4) (by kernel_rfl) rfl ?_
      refine callOp 13 [.agg (pcs q).toArray] [] [] (by kernel_rfl) (by kernel_rfl) rfl rfl rfl ?_
      refine (HEQ.out _).mono ?_
      rintro e wz ⟨rfl, bz⟩
      replace hq := And.intro (hq.1.below bz hq.1.lt) (hq.2.below bz hq.2.lt)
      replace hb := hb.trans (bz.mono hb.size)
      clear bz
      refine ⟨_, rfl, ?_⟩
      refine rgBack hq ?_
      refine rgTake (S := fun w' => Arr w' w.heap.size 23 (pcs p) ∧ Arr w' g3 23 (pcs q)) (i := 5) (v := .int .i64 (min (mEnc q) 0)) rfl (by kernel_rfl) (by kernel_rfl) (fun _ _ _ h => h) (fun w _ => minRun (A := mEnc q) (B := 0) (.tmp 21) (.const (.int .i64 0)) rfl (by kernel_rfl) rfl) hq ?_
      try simp only [Act.put, List.setIfInBounds_toArray, List.set_cons_succ, List.set_cons_zero]
      refine rgNext (S := fun w' => Arr w' w.heap.size 23 (pcs p) ∧ Arr w' g3 23 (pcs q)) (i := 6) (by kernel_rfl) rfl ?_
      refine callOp 40 [.int .i64 (min (mEnc p) 0), .int .i64 (min (mEnc q) 0)] [] [] (by kernel_rfl) (by kernel_rfl) rfl rfl rfl ?_
      refine (cmp_Compare_int _ _ _).mono ?_
      rintro e wz ⟨rfl, rfl⟩
      refine ⟨_, rfl, ?_⟩
      refine rgBack hq ?_
      refine rgTake (S := fun w' => Arr w' w.heap.size 23 (pcs p) ∧ Arr w' g3 23 (pcs q)) (i := 7) (v := .int .i64 (Lib.compareInt (min (mEnc p) 0) (min (mEnc q) 0))) rfl (by kernel_rfl) (by kernel_rfl) (fun _ _ _ h => h) (fun w _ => by kernel_rfl) hq ?_
      refine rgDone (by kernel_rfl) ?_
      try simp only [Act.put, List.setIfInBounds_toArray, List.set_cons_succ, List.set_cons_zero]
      go_wp2_with fail
      go_ret
      exact ⟨by rw [HOUT.out, ← compareInt_eq]; rfl, hb⟩
  · have HOUT := Lib.hid (mCmp_out (p := p) (q := q) (fun h => hp h.1))
    rw [decide_eq_false hp] at HIP
    go_enter Try.func15, Try.ntmps15
    go_wp2_with (first | (with_reducible refine bxArr (cs := pcs p) (.tmp 0) (wn rfl) rfl rfl ?_) | fail)
    intro w1 h2 b1
    go_wp2_with (with_reducible refine bxArr (cs := pcs q) (.tmp 1) (wn rfl) rfl rfl ?_)
    intro w2 h3 b2
    have l2 := h2.lt
    replace h2 := h2.below b2 l2
    have hb := b1.trans (b2.mono b1.size)
    clear b1 b2
    go_wp2_with (with_reducible refine ldArr (.tmp 2) Try.ag_pt (wn rfl) rfl rfl rfl h2 ?_)
    refine (HIP.out _).mono ?_
    rintro e w3 ⟨rfl, b3⟩
    replace h2 := h2.below b3 h2.lt
    replace h3 := h3.below b3 h3.lt
    replace hb := hb.trans (b3.mono hb.size)
    clear b3
    generalize w1.heap.size = g3 at *
    go_wp2_with fail
    replace hb := hb.drew
    refine rgStart (fun w' => Arr w' w.heap.size 23 (pcs p) ∧ Arr w' g3 23 (pcs q)) (by kernel_rfl) ?_
    have hq : (fun w' : World => Arr w' w.heap.size 23 (pcs p) ∧ Arr w' g3 23 (pcs q)) w3.drew := ⟨h2.drew, h3.drew⟩
    refine rgLoad (S := fun w' => Arr w' w.heap.size 23 (pcs p) ∧ Arr w' g3 23 (pcs q)) (i := 0) (b := w.heap.size) (off := 0) (.tmp 2) (pcs p) Try.ag_pt rfl (by kernel_rfl) (by kernel_rfl) (fun _ _ _ h => h) rfl (by kernel_rfl) rfl (fun w h j u hu => by rw [Nat.zero_add]; exact (h.1).cell hu) hq ?_
    refine rgLoad (S := fun w' => Arr w' w.heap.size 23 (pcs p) ∧ Arr w' g3 23 (pcs q)) (i := 3) (b := g3) (off := 0) (.tmp 3) (pcs q) Try.ag_pt rfl (by kernel_rfl) (by kernel_rfl) (fun _ _ _ h => h) rfl (by kernel_rfl) rfl (fun w h j u hu => by rw [Nat.zero_add]; exact (h.2).cell hu) hq ?_
    try simp only [Act.put, List.setIfInBounds_toArray, List.set_cons_succ, List.set_cons_zero]
    refine rgNext (S := fun w' => Arr w' w.heap.size 23 (pcs p) ∧ Arr w' g3 23 (pcs q)) (i := 1) (by kernel_rfl) rfl ?_
    refine callOp 13 [.agg (pcs p).toArray] [] [] (by kernel_rfl) (by kernel_rfl) rfl rfl rfl ?_
    refine (HEP.out _).mono ?_
    rintro e wz ⟨rfl, bz⟩
    replace hq := And.intro (hq.1.below bz hq.1.lt) (hq.2.below bz hq.2.lt)
    replace hb := hb.trans (bz.mono hb.size)
    clear bz
    refine ⟨_, rfl, ?_⟩
    refine rgBack hq ?_
    refine rgTake (S := fun w' => Arr w' w.heap.size 23 (pcs p) ∧ Arr w' g3 23 (pcs q)) (i := 2) (v := .int .i64 (min (mEnc p) 0)) rfl (by kernel_rfl) (by kernel_rfl) (fun _ _ _ h => h) (fun w _ => minRun (A := mEnc p) (B := 0) (.tmp 18) (.const (.int .i64 0)) rfl (by kernel_rfl) rfl) hq ?_
    try simp only [Act.put, List.setIfInBounds_toArray, List.set_cons_succ, List.set_cons_zero]
    refine rgNext (S := fun w' => Arr w' w.heap.size 23 (pcs p) ∧ Arr w' g3 23 (pcs q)) (i := 4) (by kernel_rfl) rfl ?_
    refine callOp 13 [.agg (pcs q).toArray] [] [] (by kernel_rfl) (by kernel_rfl) rfl rfl rfl ?_
    refine (HEQ.out _).mono ?_
    rintro e wz ⟨rfl, bz⟩
    replace hq := And.intro (hq.1.below bz hq.1.lt) (hq.2.below bz hq.2.lt)
    replace hb := hb.trans (bz.mono hb.size)
    clear bz
    refine ⟨_, rfl, ?_⟩
    refine rgBack hq ?_
    refine rgTake (S := fun w' => Arr w' w.heap.size 23 (pcs p) ∧ Arr w' g3 23 (pcs q)) (i := 5) (v := .int .i64 (min (mEnc q) 0)) rfl (by kernel_rfl) (by kernel_rfl) (fun _ _ _ h => h) (fun w _ => minRun (A := mEnc q) (B := 0) (.tmp 21) (.const (.int .i64 0)) rfl (by kernel_rfl) rfl) hq ?_
    try simp only [Act.put, List.setIfInBounds_toArray, List.set_cons_succ, List.set_cons_zero]
    refine rgNext (S := fun w' => Arr w' w.heap.size 23 (pcs p) ∧ Arr w' g3 23 (pcs q)) (i := 6) (by kernel_rfl) rfl ?_
    refine callOp 40 [.int .i64 (min (mEnc p) 0), .int .i64 (min (mEnc q) 0)] [] [] (by kernel_rfl) (by kernel_rfl) rfl rfl rfl ?_
    refine (cmp_Compare_int _ _ _).mono ?_
    rintro e wz ⟨rfl, rfl⟩
    refine ⟨_, rfl, ?_⟩
    refine rgBack hq ?_
    refine rgTake (S := fun w' => Arr w' w.heap.size 23 (pcs p) ∧ Arr w' g3 23 (pcs q)) (i := 7) (v := .int .i64 (Lib.compareInt (min (mEnc p) 0) (min (mEnc q) 0))) rfl (by kernel_rfl) (by kernel_rfl) (fun _ _ _ h => h) (fun w _ => by kernel_rfl) hq ?_
    refine rgDone (by kernel_rfl) ?_
    try simp only [Act.put, List.setIfInBounds_toArray, List.set_cons_succ, List.set_cons_zero]
    go_wp2_with fail
    go_ret
    exact ⟨by rw [HOUT.out, ← compareInt_eq]; rfl, hb⟩
end Go.Proofs.Ytkfijpghjjnpkaa
/-
  The reference's Compare; Octant and Neighbour of both. No statement is proved here.
-/
namespace Go.Proofs.Ytkfijpghjjnpkaa
open Go.RowKit
set_option linter.unusedVariables false
set_option linter.unusedSimpArgs false

/-- Octant. -/
def mOct (p : Pt) (l : Int) : Int := if p.In ∧ 0 ≤ l ∧ l ≤ 13 then (dig p.x.toNat p.y.toNat p.z.toNat l.toNat : Int) else -1
/-- A point moved along an axis. -/
def Pt.move (p : Pt) (k : Nat) (d : Int) : Pt :=
  match k with
  | 0 => ⟨p.x + d, p.y, p.z⟩
  | 1 => ⟨p.x, p.y + d, p.z⟩
  | _ => ⟨p.x, p.y, p.z + d⟩
/-- Neighbour. -/
def mNb (n axis : Int) (up : Bool) : Int := if (mDec n).2 = true ∧ 0 ≤ axis ∧ axis ≤ 2 then mEnc ((mDec n).1.move axis.toNat (if up then 1 else -1)) else -1
theorem pcs_move (p : Pt) (k : Nat) (h : k < 3) (d : Int) : (pcs p).set k (.int .i64 (p.at k + d)) = pcs (p.move k d) := by
  rcases (by omega : k = 0 ∨ k = 1 ∨ k = 2) with rfl | rfl | rfl <;> rfl
theorem pcs_move1 (p : Pt) (k : Nat) (h : k < 3) : (pcs p).set k (.int .i64 (p.at k - 1)) = pcs (p.move k (-1)) := by
  rcases (by omega : k = 0 ∨ k = 1 ∨ k = 2) with rfl | rfl | rfl <;> rfl
theorem mDec_lt {n : Int} (h : (mDec n).2 = true) (k : Nat) : 0 ≤ (mDec n).1.at k ∧ (mDec n).1.at k < 16384 := by
  unfold mDec at h ⊢
  split at h
  · rename_i h1
    rw [if_pos h1]
    exact (mDecP_in _).at_ k
  · cases h

set_option maxRecDepth 100000 in
set_option maxHeartbeats 1000000 in
theorem refCompare_any (p q : Pt) (w : World) : Calls Try.prog 16 #[.agg (pcs p).toArray, .agg (pcs q).toArray] w (RetI w (mCmp p q)) := by
  by_cases h1 : mEnc p < mEnc q
  · have HR := Lib.hid (show mCmp p q = -1 by unfold mCmp cmpI; rw [if_pos h1])
    go_enter Try.func16, Try.ntmps16
    go_wp2_with (with_reducible refine bxArr (cs := pcs p) (.tmp 0) (wn rfl) rfl rfl ?_)
    intro w1 h2 b1
    go_wp2_with (with_reducible refine bxArr (cs := pcs q) (.tmp 1) (wn rfl) rfl rfl ?_)
    intro w2 h3 b2
    have l2 := h2.lt
    replace h2 := h2.below b2 l2
    have hb := b1.trans (b2.mono b1.size)
    clear b1 b2
    go_wp2_with (with_reducible refine ldArr (.tmp 2) Try.ag_pt (wn rfl) rfl rfl rfl h2 ?_)
    refine (refEncode_any p _).mono ?_
    rintro e w3 ⟨rfl, b3⟩
    replace h3 := h3.below b3 h3.lt
    replace hb := hb.trans (b3.mono hb.size)
    clear b3
    go_wp2_with (with_reducible refine ldArr (.tmp 3) Try.ag_pt (wn rfl) rfl rfl rfl h3 ?_)
    refine (refEncode_any q _).mono ?_
    rintro e w4 ⟨rfl, b4⟩
    replace hb := hb.trans (b4.mono hb.size)
    clear b4
    generalize mEnc p = a at *
    generalize mEnc q = b at *
    go_wp2_with fail
    go_ret
    exact ⟨by rw [HR.out]; rfl, hb⟩
  · by_cases h5 : mEnc q < mEnc p
    · have HR := Lib.hid (show mCmp p q = 1 by unfold mCmp cmpI; rw [if_neg h1, if_pos h5])
      go_enter Try.func16, Try.ntmps16
      go_wp2_with (with_reducible refine bxArr (cs := pcs p) (.tmp 0) (wn rfl) rfl rfl ?_)
      intro w1 h2 b1
      go_wp2_with (with_reducible refine bxArr (cs := pcs q) (.tmp 1) (wn rfl) rfl rfl ?_)
      intro w2 h3 b2
      have l2 := h2.lt
      replace h2 := h2.below b2 l2
      have hb := b1.trans (b2.mono b1.size)
      clear b1 b2
      go_wp2_with (with_reducible refine ldArr (.tmp 2) Try.ag_pt (wn rfl) rfl rfl rfl h2 ?_)
      refine (refEncode_any p _).mono ?_
      rintro e w3 ⟨rfl, b3⟩
      replace h3 := h3.below b3 h3.lt
      replace hb := hb.trans (b3.mono hb.size)
      clear b3
      go_wp2_with (with_reducible refine ldArr (.tmp 3) Try.ag_pt (wn rfl) rfl rfl rfl h3 ?_)
      refine (refEncode_any q _).mono ?_
      rintro e w4 ⟨rfl, b4⟩
      replace hb := hb.trans (b4.mono hb.size)
      clear b4
      generalize mEnc p = a at *
      generalize mEnc q = b at *
      go_wp2_with fail
      go_ret
      exact ⟨by rw [HR.out]; rfl, hb⟩
    · have HR := Lib.hid (show mCmp p q = 0 by unfold mCmp cmpI; rw [if_neg h1, if_neg h5])
      go_enter Try.func16, Try.ntmps16
      go_wp2_with (with_reducible refine bxArr (cs := pcs p) (.tmp 0) (wn rfl) rfl rfl ?_)
      intro w1 h2 b1
      go_wp2_with (with_reducible refine bxArr (cs := pcs q) (.tmp 1) (wn rfl) rfl rfl ?_)
      intro w2 h3 b2
      have l2 := h2.lt
      replace h2 := h2.below b2 l2
      have hb := b1.trans (b2.mono b1.size)
      clear b1 b2
      go_wp2_with (with_reducible refine ldArr (.tmp 2) Try.ag_pt (wn rfl) rfl rfl rfl h2 ?_)
      refine (refEncode_any p _).mono ?_
      rintro e w3 ⟨rfl, b3⟩
      replace h3 := h3.below b3 h3.lt
      replace hb := hb.trans (b3.mono hb.size)
      clear b3
      go_wp2_with (with_reducible refine ldArr (.tmp 3) Try.ag_pt (wn rfl) rfl rfl rfl h3 ?_)
      refine (refEncode_any q _).mono ?_
      rintro e w4 ⟨rfl, b4⟩
      replace hb := hb.trans (b4.mono hb.size)
      clear b4
      generalize mEnc p = a at *
      generalize mEnc q = b at *
      go_wp2_with fail
      go_ret
      exact ⟨by rw [HR.out]; rfl, hb⟩
set_option maxRecDepth 100000 in
set_option maxHeartbeats 1000000 in
theorem octant_any (p : Pt) (l : Int) (w : World) : Calls Try.prog 17 #[.agg (pcs p).toArray, .int .i64 l] w (RetI w (mOct p l)) := by
  have HI := Lib.hid (inside_any p)
  have HE := Lib.hid (encode_any p)
  by_cases hp : p.In
  · rw [decide_eq_true hp] at HI
    by_cases h0 : l < 0
    · have HR := Lib.hid (show mOct p l = -1 by unfold mOct; rw [if_neg (by omega)])
      go_enter Try.func17, Try.ntmps17
      go_wp2_with (with_reducible refine bxArr (cs := pcs p) (.tmp 0) (wn rfl) rfl rfl ?_)
      intro w1 h2 hb
      go_wp2_with (with_reducible refine ldArr (.tmp 2) Try.ag_pt (wn rfl) rfl rfl rfl h2 ?_)
      refine (HI.out _).mono ?_
      rintro e w3 ⟨rfl, b3⟩
      replace h2 := h2.below b3 h2.lt
      replace hb := hb.trans (b3.mono hb.size)
      clear b3
      go_wp2_with fail
      go_ret
      exact ⟨by rw [HR.out]; rfl, hb⟩
    · by_cases h13 : 13 < l
      · have HR := Lib.hid (show mOct p l = -1 by unfold mOct; rw [if_neg (by omega)])
        go_enter Try.func17, Try.ntmps17
        go_wp2_with (with_reducible refine bxArr (cs := pcs p) (.tmp 0) (wn rfl) rfl rfl ?_)
        intro w1 h2 hb
        go_wp2_with (with_reducible refine ldArr (.tmp 2) Try.ag_pt (wn rfl) rfl rfl rfl h2 ?_)
        refine (HI.out _).mono ?_
        rintro e w3 ⟨rfl, b3⟩
        replace h2 := h2.below b3 h2.lt
        replace hb := hb.trans (b3.mono hb.size)
        clear b3
        go_wp2_with fail
        go_ret
        exact ⟨by rw [HR.out]; rfl, hb⟩
      · obtain ⟨j, rfl⟩ : ∃ j : Nat, l = (j : Int) := ⟨l.toNat, by omega⟩
        have hE : mEnc p = ((encL 14 p.x.toNat p.y.toNat p.z.toNat : Nat) : Int) := by unfold mEnc; rw [if_pos hp]
        have hlt := encL_lt 14 p.x.toNat p.y.toNat p.z.toNat
        have hd := encL_dig (n := 14) (l := j) p.x.toNat p.y.toNat p.z.toNat (by omega)
        have HR := Lib.hid (show mOct p (j : Int) = ((encL 14 p.x.toNat p.y.toNat p.z.toNat / 8 ^ j % 8 : Nat) : Int) by unfold mOct; rw [if_pos ⟨hp, by omega, by omega⟩, hd, Int.toNat_natCast])
        rw [hE] at HE
        clear hE hd
        generalize encL 14 p.x.toNat p.y.toNat p.z.toNat = N at *
        obtain ⟨t, ht⟩ : ∃ t, t = 3 * j := ⟨_, rfl⟩
        have HA := Lib.hid (show bits .and .i64 ((N : Int) / 2 ^ t) 7 = ((N / 8 ^ j % 8 : Nat) : Int) by
          have h1 : ((N : Int) / 2 ^ t) = ((N / 8 ^ j : Nat) : Int) := by rw [ht, show (8 : Nat) = 2 ^ 3 by decide, ← Nat.pow_mul]; simp
          have h2 : N / 8 ^ j ≤ N := Nat.div_le_self _ _
          have h3 := i64_and_n (N / 8 ^ j) 7 (by omega) (by omega)
          have h4 := Nat.and_two_pow_sub_one_eq_mod (N / 8 ^ j) 3
          rw [show (2 : Nat) ^ 3 - 1 = 7 by decide, show (2 : Nat) ^ 3 = 8 by decide] at h4
          rw [h4] at h3
          rw [h1]
          exact h3)
        have HJI := Lib.hid (show (3 * (j : Int)) = (t : Int) by omega)
        have htl : t < 42 := by omega
        clear ht
        go_enter Try.func17, Try.ntmps17
        go_wp2_with (with_reducible refine bxArr (cs := pcs p) (.tmp 0) (wn rfl) rfl rfl ?_)
        intro w1 h2 hb
        go_wp2_with (with_reducible refine ldArr (.tmp 2) Try.ag_pt (wn rfl) rfl rfl rfl h2 ?_)
        refine (HI.out _).mono ?_
        rintro e w3 ⟨rfl, b3⟩
        replace h2 := h2.below b3 h2.lt
        replace hb := hb.trans (b3.mono hb.size)
        clear b3
        go_wp2_with (with_reducible refine ldArr (.tmp 2) Try.ag_pt (wn rfl) rfl rfl rfl h2 ?_)
        refine (HE.out _).mono ?_
        rintro e w4 ⟨rfl, b4⟩
        replace h2 := h2.below b4 h2.lt
        replace hb := hb.trans (b4.mono hb.size)
        clear b4
        have hji := HJI.out
        go_wp2_with fail
        go_ret
        exact ⟨by rw [HR.out, ← HA.out]; rfl, hb⟩
  · have HR := Lib.hid (show mOct p l = -1 by unfold mOct; rw [if_neg (fun h => hp h.1)])
    rw [decide_eq_false hp] at HI
    go_enter Try.func17, Try.ntmps17
    go_wp2_with (with_reducible refine bxArr (cs := pcs p) (.tmp 0) (wn rfl) rfl rfl ?_)
    intro w1 h2 hb
    go_wp2_with (with_reducible refine ldArr (.tmp 2) Try.ag_pt (wn rfl) rfl rfl rfl h2 ?_)
    refine (HI.out _).mono ?_
    rintro e w3 ⟨rfl, b3⟩
    replace h2 := h2.below b3 h2.lt
    replace hb := hb.trans (b3.mono hb.size)
    clear b3
    go_wp2_with fail
    go_ret
    exact ⟨by rw [HR.out]; rfl, hb⟩
set_option maxRecDepth 100000 in
set_option maxHeartbeats 2000000 in
theorem refOctant_any (p : Pt) (l : Int) (w : World) : Calls Try.prog 18 #[.agg (pcs p).toArray, .int .i64 l] w (RetI w (mOct p l)) := by
  have HI := Lib.hid (refInside_any p)
  by_cases hp : p.In
  · rw [decide_eq_true hp] at HI
    by_cases h0 : l < 0
    · have HR := Lib.hid (show mOct p l = -1 by unfold mOct; rw [if_neg (by omega)])
      go_enter Try.func18, Try.ntmps18
      go_wp2_with (with_reducible refine bxArr (cs := pcs p) (.tmp 0) (wn rfl) rfl rfl ?_)
      intro w1 h2 hb
      go_wp2_with (with_reducible refine ldArr (.tmp 2) Try.ag_pt (wn rfl) rfl rfl rfl h2 ?_)
      refine (HI.out _).mono ?_
      rintro e w3 ⟨rfl, b3⟩
      replace h2 := h2.below b3 h2.lt
      replace hb := hb.trans (b3.mono hb.size)
      clear b3
      go_wp2_with fail
      go_ret
      exact ⟨by rw [HR.out]; rfl, hb⟩
    · by_cases h13 : 13 < l
      · have HR := Lib.hid (show mOct p l = -1 by unfold mOct; rw [if_neg (by omega)])
        go_enter Try.func18, Try.ntmps18
        go_wp2_with (with_reducible refine bxArr (cs := pcs p) (.tmp 0) (wn rfl) rfl rfl ?_)
        intro w1 h2 hb
        go_wp2_with (with_reducible refine ldArr (.tmp 2) Try.ag_pt (wn rfl) rfl rfl rfl h2 ?_)
        refine (HI.out _).mono ?_
        rintro e w3 ⟨rfl, b3⟩
        replace h2 := h2.below b3 h2.lt
        replace hb := hb.trans (b3.mono hb.size)
        clear b3
        go_wp2_with fail
        go_ret
        exact ⟨by rw [HR.out]; rfl, hb⟩
      · obtain ⟨j, rfl⟩ : ∃ j : Nat, l = (j : Int) := ⟨l.toNat, by omega⟩
        have HR0 := Lib.hid (show mOct p (j : Int) = (dig p.x.toNat p.y.toNat p.z.toNat j : Int) by unfold mOct; rw [if_pos ⟨hp, by omega, by omega⟩, Int.toNat_natCast])
        obtain ⟨X, Y, Z, rfl⟩ : ∃ X Y Z : Nat, p = ⟨(X : Int), (Y : Int), (Z : Int)⟩ := ⟨p.x.toNat, p.y.toNat, p.z.toNat, by
          obtain ⟨x, y, z⟩ := p
          obtain ⟨h1, h2, h3⟩ := hp
          simp only at h1 h2 h3 ⊢
          rw [Int.toNat_of_nonneg h1.1, Int.toNat_of_nonneg h2.1, Int.toNat_of_nonneg h3.1]⟩
        obtain ⟨hx, hy, hz⟩ := hp
        simp only [Int.toNat_natCast] at hx hy hz HR0
        have HBX := Lib.hid (fun w => bit_any (X : Int) j w (by omega) (by omega) (by omega))
        have HBY := Lib.hid (fun w => bit_any (Y : Int) j w (by omega) (by omega) (by omega))
        have HBZ := Lib.hid (fun w => bit_any (Z : Int) j w (by omega) (by omega) (by omega))
        rw [Int.toNat_natCast] at HBX HBY HBZ
        have bx2 : X / 2 ^ j % 2 < 2 := Nat.mod_lt _ (by decide)
        have by2 : Y / 2 ^ j % 2 < 2 := Nat.mod_lt _ (by decide)
        have bz2 : Z / 2 ^ j % 2 < 2 := Nat.mod_lt _ (by decide)
        unfold dig at HR0
        generalize X / 2 ^ j % 2 = bx at *
        generalize Y / 2 ^ j % 2 = by_ at *
        generalize Z / 2 ^ j % 2 = bz at *
        go_enter Try.func18, Try.ntmps18
        go_wp2_with (with_reducible refine bxArr (cs := pcs ⟨(X : Int), (Y : Int), (Z : Int)⟩) (.tmp 0) (wn rfl) rfl rfl ?_)
        intro w1 h2 hb
        go_wp2_with (with_reducible refine ldArr (.tmp 2) Try.ag_pt (wn rfl) rfl rfl rfl h2 ?_)
        refine (HI.out _).mono ?_
        rintro e w3 ⟨rfl, b3⟩
        replace h2 := h2.below b3 h2.lt
        replace hb := hb.trans (b3.mono hb.size)
        clear b3
        go_wp2_with fail
        refine rgStart (fun w' => Arr w' w.heap.size 23 (pcs ⟨(X : Int), (Y : Int), (Z : Int)⟩)) (by kernel_rfl) ?_
        have hq : (fun w' : World => Arr w' w.heap.size 23 (pcs ⟨(X : Int), (Y : Int), (Z : Int)⟩)) w3.drew := h2.drew
        refine rgTake (S := fun w' => Arr w' w.heap.size 23 (pcs ⟨(X : Int), (Y : Int), (Z : Int)⟩)) (i := 0) (v := .pointer (some ⟨w.heap.size, 0, none⟩)) rfl (by kernel_rfl) (by kernel_rfl) (fun _ _ _ h => h) (fun w _ => by kernel_rfl) hq ?_
        refine rgTake (S := fun w' => Arr w' w.heap.size 23 (pcs ⟨(X : Int), (Y : Int), (Z : Int)⟩)) (i := 1) (v := .int .i64 (X : Int)) rfl (by kernel_rfl) (by kernel_rfl) (fun _ _ _ h => h) (fun w h => ldRun (.tmp 18) (by kernel_rfl) rfl (by kernel_rfl) (h.cell (i := 0) rfl)) hq ?_
        refine rgTake (S := fun w' => Arr w' w.heap.size 23 (pcs ⟨(X : Int), (Y : Int), (Z : Int)⟩)) (i := 2) (v := .int .i64 (j : Int)) rfl (by kernel_rfl) (by kernel_rfl) (fun _ _ _ h => h) (fun w _ => by kernel_rfl) hq ?_
        refine rgTake (S := fun w' => Arr w' w.heap.size 23 (pcs ⟨(X : Int), (Y : Int), (Z : Int)⟩)) (i := 4) (v := .pointer (some ⟨w.heap.size, 1, none⟩)) rfl (by kernel_rfl) (by kernel_rfl) (fun _ _ _ h => h) (fun w _ => by kernel_rfl) hq ?_
        refine rgTake (S := fun w' => Arr w' w.heap.size 23 (pcs ⟨(X : Int), (Y : Int), (Z : Int)⟩)) (i := 5) (v := .int .i64 (Y : Int)) rfl (by kernel_rfl) (by kernel_rfl) (fun _ _ _ h => h) (fun w h => ldRun (.tmp 22) (by kernel_rfl) rfl (by kernel_rfl) (h.cell (i := 1) rfl)) hq ?_
        refine rgTake (S := fun w' => Arr w' w.heap.size 23 (pcs ⟨(X : Int), (Y : Int), (Z : Int)⟩)) (i := 6) (v := .int .i64 (j : Int)) rfl (by kernel_rfl) (by kernel_rfl) (fun _ _ _ h => h) (fun w _ => by kernel_rfl) hq ?_
        refine rgTake (S := fun w' => Arr w' w.heap.size 23 (pcs ⟨(X : Int), (Y : Int), (Z : Int)⟩)) (i := 10) (v := .pointer (some ⟨w.heap.size, 2, none⟩)) rfl (by kernel_rfl) (by kernel_rfl) (fun _ _ _ h => h) (fun w _ => by kernel_rfl) hq ?_
        refine rgTake (S := fun w' => Arr w' w.heap.size 23 (pcs ⟨(X : Int), (Y : Int), (Z : Int)⟩)) (i := 11) (v := .int .i64 (Z : Int)) rfl (by kernel_rfl) (by kernel_rfl) (fun _ _ _ h => h) (fun w h => ldRun (.tmp 28) (by kernel_rfl) rfl (by kernel_rfl) (h.cell (i := 2) rfl)) hq ?_
        refine rgTake (S := fun w' => Arr w' w.heap.size 23 (pcs ⟨(X : Int), (Y : Int), (Z : Int)⟩)) (i := 12) (v := .int .i64 (j : Int)) rfl (by kernel_rfl) (by kernel_rfl) (fun _ _ _ h => h) (fun w _ => by kernel_rfl) hq ?_
        try simp only [Act.put, List.setIfInBounds_toArray, List.set_cons_succ, List.set_cons_zero]
        refine rgNext (S := fun w' => Arr w' w.heap.size 23 (pcs ⟨(X : Int), (Y : Int), (Z : Int)⟩)) (i := 3) (by kernel_rfl) rfl ?_
        refine callOp 35 [.int .i64 (X : Int), .int .i64 (j : Int)] [] [] (by kernel_rfl) (by kernel_rfl) rfl rfl rfl ?_
        refine (HBX.out _).mono ?_
        rintro e wz ⟨rfl, rfl⟩
        refine ⟨_, rfl, ?_⟩
        refine rgBack hq ?_
        try simp only [Act.put, List.setIfInBounds_toArray, List.set_cons_succ, List.set_cons_zero]
        refine rgNext (S := fun w' => Arr w' w.heap.size 23 (pcs ⟨(X : Int), (Y : Int), (Z : Int)⟩)) (i := 7) (by kernel_rfl) rfl ?_
        refine callOp 35 [.int .i64 (Y : Int), .int .i64 (j : Int)] [] [] (by kernel_rfl) (by kernel_rfl) rfl rfl rfl ?_
        refine (HBY.out _).mono ?_
        rintro e wz ⟨rfl, rfl⟩
        refine ⟨_, rfl, ?_⟩
        refine rgBack hq ?_
        refine rgTake (S := fun w' => Arr w' w.heap.size 23 (pcs ⟨(X : Int), (Y : Int), (Z : Int)⟩)) (i := 8) (v := .int .i64 ((2 * by_ : Nat) : Int)) rfl (by kernel_rfl) (by kernel_rfl) (fun _ _ _ h => h) (fun w _ => mulRun (A := 2) (B := (by_ : Int)) (.const (.int .i64 2)) (.tmp 25) rfl rfl (by kernel_rfl) (by omega) (by omega)) hq ?_
        refine rgTake (S := fun w' => Arr w' w.heap.size 23 (pcs ⟨(X : Int), (Y : Int), (Z : Int)⟩)) (i := 9) (v := .int .i64 ((bx + 2 * by_ : Nat) : Int)) rfl (by kernel_rfl) (by kernel_rfl) (fun _ _ _ h => h) (fun w _ => addRun (A := (bx : Int)) (B := ((2 * by_ : Nat) : Int)) (.tmp 21) (.tmp 26) rfl (by kernel_rfl) (by kernel_rfl) (by omega) (by omega)) hq ?_
        try simp only [Act.put, List.setIfInBounds_toArray, List.set_cons_succ, List.set_cons_zero]
        refine rgNext (S := fun w' => Arr w' w.heap.size 23 (pcs ⟨(X : Int), (Y : Int), (Z : Int)⟩)) (i := 13) (by kernel_rfl) rfl ?_
        refine callOp 35 [.int .i64 (Z : Int), .int .i64 (j : Int)] [] [] (by kernel_rfl) (by kernel_rfl) rfl rfl rfl ?_
        refine (HBZ.out _).mono ?_
        rintro e wz ⟨rfl, rfl⟩
        refine ⟨_, rfl, ?_⟩
        refine rgBack hq ?_
        refine rgTake (S := fun w' => Arr w' w.heap.size 23 (pcs ⟨(X : Int), (Y : Int), (Z : Int)⟩)) (i := 14) (v := .int .i64 ((4 * bz : Nat) : Int)) rfl (by kernel_rfl) (by kernel_rfl) (fun _ _ _ h => h) (fun w _ => mulRun (A := 4) (B := (bz : Int)) (.const (.int .i64 4)) (.tmp 31) rfl rfl (by kernel_rfl) (by omega) (by omega)) hq ?_
        refine rgTake (S := fun w' => Arr w' w.heap.size 23 (pcs ⟨(X : Int), (Y : Int), (Z : Int)⟩)) (i := 15) (v := .int .i64 ((bx + 2 * by_ + 4 * bz : Nat) : Int)) rfl (by kernel_rfl) (by kernel_rfl) (fun _ _ _ h => h) (fun w _ => addRun (A := ((bx + 2 * by_ : Nat) : Int)) (B := ((4 * bz : Nat) : Int)) (.tmp 27) (.tmp 32) rfl (by kernel_rfl) (by kernel_rfl) (by omega) (by omega)) hq ?_
        refine rgTake (S := fun w' => Arr w' w.heap.size 23 (pcs ⟨(X : Int), (Y : Int), (Z : Int)⟩)) (i := 16) (v := .int .i64 ((bx + 2 * by_ + 4 * bz : Nat) : Int)) rfl (by kernel_rfl) (by kernel_rfl) (fun _ _ _ h => h) (fun w _ => by kernel_rfl) hq ?_
        refine rgDone (by kernel_rfl) ?_
        try simp only [Act.put, List.setIfInBounds_toArray, List.set_cons_succ, List.set_cons_zero]
        replace hb := hb.drew
        go_wp2_with fail
        go_ret
        exact ⟨by rw [HR0.out]; rfl, hb⟩
  · have HR := Lib.hid (show mOct p l = -1 by unfold mOct; rw [if_neg (fun h => hp h.1)])
    rw [decide_eq_false hp] at HI
    go_enter Try.func18, Try.ntmps18
    go_wp2_with (with_reducible refine bxArr (cs := pcs p) (.tmp 0) (wn rfl) rfl rfl ?_)
    intro w1 h2 hb
    go_wp2_with (with_reducible refine ldArr (.tmp 2) Try.ag_pt (wn rfl) rfl rfl rfl h2 ?_)
    refine (HI.out _).mono ?_
    rintro e w3 ⟨rfl, b3⟩
    replace h2 := h2.below b3 h2.lt
    replace hb := hb.trans (b3.mono hb.size)
    clear b3
    go_wp2_with fail
    go_ret
    exact ⟨by rw [HR.out]; rfl, hb⟩
set_option maxRecDepth 100000 in
set_option maxHeartbeats 4000000 in
theorem neighbour_any (n axis : Int) (up : Bool) (w : World) : Calls Try.prog 19 #[.int .i64 n, .int .i64 axis, .bool up] w (RetI w (mNb n axis up)) := by
  have HLT := Lib.hid (mDec_lt (n := n))
  obtain ⟨p, ok, hD⟩ : ∃ p ok, mDec n = (p, ok) := ⟨_, _, rfl⟩
  rw [hD] at HLT
  cases ok with
  | false =>
    have HR := Lib.hid (show mNb n axis up = -1 by unfold mNb; rw [hD, if_neg (fun h => by cases h.1)])
    go_enter Try.func19, Try.ntmps19
    go_wp2_with fail
    refine (decode_any n _).mono ?_
    rintro e w1 ⟨rfl, hb⟩
    rw [hD]
    go_wp2_with (with_reducible refine alArr (z := pcs p0) Try.ag_pt (wn rfl) rfl ?_)
    intro w2 h7 b2
    have ls := hb.size
    replace hb := hb.trans (b2.mono ls)
    clear b2
    go_wp2_with (with_reducible refine stArrG (cs := pcs p) (.tmp 7) (.tmp 13) Try.ag_pt (wn rfl) rfl rfl rfl h7 rfl rfl (pcs_one _) ?_)
    intro w3 h7 hg
    replace hb := hb.grown hg hb.size (fun k e => by cases e; exact ls)
    clear hg
    generalize w1.heap.size = g7 at *
    go_wp2_with fail
    go_ret
    exact ⟨by rw [HR.out]; rfl, hb⟩
  | true =>
    have HAT := Lib.hid (HLT.out rfl)
    simp only at HAT
    by_cases h0 : axis < 0
    · have HR := Lib.hid (show mNb n axis up = -1 by unfold mNb; rw [if_neg (by omega)])
      go_enter Try.func19, Try.ntmps19
      go_wp2_with fail
      refine (decode_any n _).mono ?_
      rintro e w1 ⟨rfl, hb⟩
      rw [hD]
      go_wp2_with (with_reducible refine alArr (z := pcs p0) Try.ag_pt (wn rfl) rfl ?_)
      intro w2 h7 b2
      have ls := hb.size
      replace hb := hb.trans (b2.mono ls)
      clear b2
      go_wp2_with (with_reducible refine stArrG (cs := pcs p) (.tmp 7) (.tmp 13) Try.ag_pt (wn rfl) rfl rfl rfl h7 rfl rfl (pcs_one _) ?_)
      intro w3 h7 hg
      replace hb := hb.grown hg hb.size (fun k e => by cases e; exact ls)
      clear hg
      generalize w1.heap.size = g7 at *
      go_wp2_with fail
      go_ret
      exact ⟨by rw [HR.out]; rfl, hb⟩
    · by_cases h2 : 2 < axis
      · have HR := Lib.hid (show mNb n axis up = -1 by unfold mNb; rw [if_neg (by omega)])
        go_enter Try.func19, Try.ntmps19
        go_wp2_with fail
        refine (decode_any n _).mono ?_
        rintro e w1 ⟨rfl, hb⟩
        rw [hD]
        go_wp2_with (with_reducible refine alArr (z := pcs p0) Try.ag_pt (wn rfl) rfl ?_)
        intro w2 h7 b2
        have ls := hb.size
        replace hb := hb.trans (b2.mono ls)
        clear b2
        go_wp2_with (with_reducible refine stArrG (cs := pcs p) (.tmp 7) (.tmp 13) Try.ag_pt (wn rfl) rfl rfl rfl h7 rfl rfl (pcs_one _) ?_)
        intro w3 h7 hg
        replace hb := hb.grown hg hb.size (fun k e => by cases e; exact ls)
        clear hg
        generalize w1.heap.size = g7 at *
        go_wp2_with fail
        go_ret
        exact ⟨by rw [HR.out]; rfl, hb⟩
      · obtain ⟨k, rfl⟩ : ∃ k : Nat, axis = (k : Int) := ⟨axis.toNat, by omega⟩
        have hk : k < 3 := by omega
        have HR0 := Lib.hid (show mNb n (k : Int) up = mEnc (p.move k (if up then 1 else -1)) by unfold mNb; rw [hD, if_pos ⟨rfl, by omega, by omega⟩, Int.toNat_natCast])
        cases up with
        | true =>
          have HR : Hid (mNb n (k : Int) true = mEnc (p.move k 1)) := Lib.hid (by rw [HR0.out]; rfl)
          clear HR0
          go_enter Try.func19, Try.ntmps19
          go_wp2_with fail
          refine (decode_any n _).mono ?_
          rintro e w1 ⟨rfl, hb⟩
          rw [hD]
          go_wp2_with (with_reducible refine alArr (z := pcs p0) Try.ag_pt (wn rfl) rfl ?_)
          intro w2 h7 b2
          have ls := hb.size
          replace hb := hb.trans (b2.mono ls)
          clear b2
          go_wp2_with (with_reducible refine stArrG (cs := pcs p) (.tmp 7) (.tmp 13) Try.ag_pt (wn rfl) rfl rfl rfl h7 rfl rfl (pcs_one _) ?_)
          intro w3 h7 hg
          replace hb := hb.grown hg hb.size (fun k e => by cases e; exact ls)
          clear hg
          generalize w1.heap.size = g7 at *
          go_wp2_with (with_reducible refine ldArr (.tmp 7) Try.ag_pt (wn rfl) rfl rfl rfl h7 ?_)
          refine (array_any p _).mono ?_
          rintro e w4 ⟨rfl, b4⟩
          replace h7 := h7.below b4 h7.lt
          replace hb := hb.trans (b4.mono hb.size)
          clear b4
          go_wp2_with (with_reducible refine alArr (z := pcs p0) Try.ag_i3 (wn rfl) rfl ?_)
          intro w5 h9 b5
          have ls4 := hb.size
          replace hb := hb.trans (b5.mono ls4)
          clear b5
          go_wp2_with (with_reducible refine stArrG (cs := pcs p) (.tmp 9) (.tmp 26) Try.ag_i3 (wn rfl) rfl rfl rfl h9 rfl rfl (pcs_one _) ?_)
          intro w6 h9 hg
          replace hb := hb.grown hg hb.size (fun k e => by cases e; exact ls4)
          clear hg h7
          generalize w4.heap.size = g9 at *
          have hck := h9.cell (pcs_get p hk)
          have hfk := h9.thaw k
          have hs := h9.set k (.int .i64 (p.at k + 1))
          rw [pcs_move p k hk] at hs
          have hbs := hb.setCell (p := ⟨g9, k, none⟩) ls4 (.int .i64 (p.at k + 1))
          clear h9 hb
          have hat := HAT.out k
          generalize p.at k = v at *
          go_wp2_with (with_reducible refine ldArr (.tmp 9) Try.ag_i3 (wn rfl) rfl rfl rfl hs ?_)
          replace hb := hbs
          clear hs hbs hck hfk
          refine (point_any _ _).mono ?_
          rintro e w7 ⟨rfl, b7⟩
          replace hb := hb.trans (b7.mono hb.size)
          clear b7
          go_wp2_with fail
          refine (encode_any _ _).mono ?_
          rintro e w8 ⟨rfl, b8⟩
          replace hb := hb.trans (b8.mono hb.size)
          clear b8
          go_wp2_with fail
          go_ret
          exact ⟨by rw [HR.out]; rfl, hb⟩
        | false =>
          have HR : Hid (mNb n (k : Int) false = mEnc (p.move k (-1))) := Lib.hid (by rw [HR0.out]; rfl)
          clear HR0
          go_enter Try.func19, Try.ntmps19
          go_wp2_with fail
          refine (decode_any n _).mono ?_
          rintro e w1 ⟨rfl, hb⟩
          rw [hD]
          go_wp2_with (with_reducible refine alArr (z := pcs p0) Try.ag_pt (wn rfl) rfl ?_)
          intro w2 h7 b2
          have ls := hb.size
          replace hb := hb.trans (b2.mono ls)
          clear b2
          go_wp2_with (with_reducible refine stArrG (cs := pcs p) (.tmp 7) (.tmp 13) Try.ag_pt (wn rfl) rfl rfl rfl h7 rfl rfl (pcs_one _) ?_)
          intro w3 h7 hg
          replace hb := hb.grown hg hb.size (fun k e => by cases e; exact ls)
          clear hg
          generalize w1.heap.size = g7 at *
          go_wp2_with (with_reducible refine ldArr (.tmp 7) Try.ag_pt (wn rfl) rfl rfl rfl h7 ?_)
          refine (array_any p _).mono ?_
          rintro e w4 ⟨rfl, b4⟩
          replace h7 := h7.below b4 h7.lt
          replace hb := hb.trans (b4.mono hb.size)
          clear b4
          go_wp2_with (with_reducible refine alArr (z := pcs p0) Try.ag_i3 (wn rfl) rfl ?_)
          intro w5 h9 b5
          have ls4 := hb.size
          replace hb := hb.trans (b5.mono ls4)
          clear b5
          go_wp2_with (with_reducible refine stArrG (cs := pcs p) (.tmp 9) (.tmp 26) Try.ag_i3 (wn rfl) rfl rfl rfl h9 rfl rfl (pcs_one _) ?_)
          intro w6 h9 hg
          replace hb := hb.grown hg hb.size (fun k e => by cases e; exact ls4)
          clear hg h7
          generalize w4.heap.size = g9 at *
          have hck := h9.cell (pcs_get p hk)
          have hfk := h9.thaw k
          have hs := h9.set k (.int .i64 (p.at k - 1))
          rw [pcs_move1 p k hk] at hs
          have hbs := hb.setCell (p := ⟨g9, k, none⟩) ls4 (.int .i64 (p.at k - 1))
          clear h9 hb
          have hat := HAT.out k
          generalize p.at k = v at *
          go_wp2_with (with_reducible refine ldArr (.tmp 9) Try.ag_i3 (wn rfl) rfl rfl rfl hs ?_)
          replace hb := hbs
          clear hs hbs hck hfk
          refine (point_any _ _).mono ?_
          rintro e w7 ⟨rfl, b7⟩
          replace hb := hb.trans (b7.mono hb.size)
          clear b7
          go_wp2_with fail
          refine (encode_any _ _).mono ?_
          rintro e w8 ⟨rfl, b8⟩
          replace hb := hb.trans (b8.mono hb.size)
          clear b8
          go_wp2_with fail
          go_ret
          exact ⟨by rw [HR.out]; rfl, hb⟩
set_option maxRecDepth 100000 in
set_option maxHeartbeats 4000000 in
theorem refNeighbour_any (n axis : Int) (up : Bool) (w : World) : Calls Try.prog 20 #[.int .i64 n, .int .i64 axis, .bool up] w (RetI w (mNb n axis up)) := by
  have HLT := Lib.hid (mDec_lt (n := n))
  obtain ⟨p, ok, hD⟩ : ∃ p ok, mDec n = (p, ok) := ⟨_, _, rfl⟩
  rw [hD] at HLT
  cases ok with
  | false =>
    have HR := Lib.hid (show mNb n axis up = -1 by unfold mNb; rw [hD, if_neg (fun h => by cases h.1)])
    go_enter Try.func20, Try.ntmps20
    go_wp2_with fail
    refine (refDecode_any n _).mono ?_
    rintro e w1 ⟨rfl, hb⟩
    rw [hD]
    go_wp2_with (with_reducible refine alArr (z := pcs p0) Try.ag_pt (wn rfl) rfl ?_)
    intro w2 h7 b2
    have ls := hb.size
    replace hb := hb.trans (b2.mono ls)
    clear b2
    go_wp2_with (with_reducible refine stArrG (cs := pcs p) (.tmp 7) (.tmp 13) Try.ag_pt (wn rfl) rfl rfl rfl h7 rfl rfl (pcs_one _) ?_)
    intro w3 h7 hg
    replace hb := hb.grown hg hb.size (fun k e => by cases e; exact ls)
    clear hg
    generalize w1.heap.size = g7 at *
    go_wp2_with fail
    go_ret
    exact ⟨by rw [HR.out]; rfl, hb⟩
  | true =>
    have HAT := Lib.hid (HLT.out rfl)
    simp only at HAT
    by_cases h0 : axis < 0
    · have HR := Lib.hid (show mNb n axis up = -1 by unfold mNb; rw [if_neg (by omega)])
      go_enter Try.func20, Try.ntmps20
      go_wp2_with fail
      refine (refDecode_any n _).mono ?_
      rintro e w1 ⟨rfl, hb⟩
      rw [hD]
      go_wp2_with (with_reducible refine alArr (z := pcs p0) Try.ag_pt (wn rfl) rfl ?_)
      intro w2 h7 b2
      have ls := hb.size
      replace hb := hb.trans (b2.mono ls)
      clear b2
      go_wp2_with (with_reducible refine stArrG (cs := pcs p) (.tmp 7) (.tmp 13) Try.ag_pt (wn rfl) rfl rfl rfl h7 rfl rfl (pcs_one _) ?_)
      intro w3 h7 hg
      replace hb := hb.grown hg hb.size (fun k e => by cases e; exact ls)
      clear hg
      generalize w1.heap.size = g7 at *
      go_wp2_with fail
      go_ret
      exact ⟨by rw [HR.out]; rfl, hb⟩
    · by_cases h2 : 2 < axis
      · have HR := Lib.hid (show mNb n axis up = -1 by unfold mNb; rw [if_neg (by omega)])
        go_enter Try.func20, Try.ntmps20
        go_wp2_with fail
        refine (refDecode_any n _).mono ?_
        rintro e w1 ⟨rfl, hb⟩
        rw [hD]
        go_wp2_with (with_reducible refine alArr (z := pcs p0) Try.ag_pt (wn rfl) rfl ?_)
        intro w2 h7 b2
        have ls := hb.size
        replace hb := hb.trans (b2.mono ls)
        clear b2
        go_wp2_with (with_reducible refine stArrG (cs := pcs p) (.tmp 7) (.tmp 13) Try.ag_pt (wn rfl) rfl rfl rfl h7 rfl rfl (pcs_one _) ?_)
        intro w3 h7 hg
        replace hb := hb.grown hg hb.size (fun k e => by cases e; exact ls)
        clear hg
        generalize w1.heap.size = g7 at *
        go_wp2_with fail
        go_ret
        exact ⟨by rw [HR.out]; rfl, hb⟩
      · obtain ⟨k, rfl⟩ : ∃ k : Nat, axis = (k : Int) := ⟨axis.toNat, by omega⟩
        have hk : k < 3 := by omega
        have HR0 := Lib.hid (show mNb n (k : Int) up = mEnc (p.move k (if up then 1 else -1)) by unfold mNb; rw [hD, if_pos ⟨rfl, by omega, by omega⟩, Int.toNat_natCast])
        have HAT0 := HAT.out 0
        have HAT1 := HAT.out 1
        have HAT2 := HAT.out 2
        clear HAT HLT
        obtain ⟨x, y, z⟩ := p
        simp only [Pt.at] at HAT0 HAT1 HAT2
        cases up with
        | true =>
          rcases (by omega : k = 0 ∨ k = 1 ∨ k = 2) with rfl | rfl | rfl
          · have HR : Hid (mNb n ((0 : Nat) : Int) true = mEnc ⟨x + 1, y, z⟩) := Lib.hid (by rw [HR0.out]; rfl)
            clear HR0
            go_enter Try.func20, Try.ntmps20
            go_wp2_with fail
            refine (refDecode_any n _).mono ?_
            rintro e w1 ⟨rfl, hb⟩
            rw [hD]
            go_wp2_with (with_reducible refine alArr (z := pcs p0) Try.ag_pt (wn rfl) rfl ?_)
            intro w2 h7 b2
            have ls := hb.size
            replace hb := hb.trans (b2.mono ls)
            clear b2
            go_wp2_with (with_reducible refine stArrG (cs := pcs ⟨x, y, z⟩) (.tmp 7) (.tmp 13) Try.ag_pt (wn rfl) rfl rfl rfl h7 rfl rfl (pcs_one _) ?_)
            intro w3 h7 hg
            replace hb := hb.grown hg hb.size (fun k e => by cases e; exact ls)
            clear hg
            generalize w1.heap.size = g7 at *
            have hck := h7.cell (i := 0) (v := .int .i64 x) rfl
            have hfk := h7.thaw 0
            have hs : Arr (w3.setCell ⟨g7, 0, none⟩ (.int .i64 (x + 1))) g7 23 (pcs ⟨x + 1, y, z⟩) := h7.set 0 (.int .i64 (x + 1))
            have hbs := hb.setCell (p := ⟨g7, 0, none⟩) ls (.int .i64 (x + 1))
            clear h7 hb
            go_wp2_with (with_reducible refine ldArr (.tmp 7) Try.ag_pt (wn rfl) rfl rfl rfl hs ?_)
            replace hb := hbs
            clear hs hbs hck hfk
            refine (refEncode_any _ _).mono ?_
            rintro e w7 ⟨rfl, b7⟩
            replace hb := hb.trans (b7.mono hb.size)
            clear b7
            go_wp2_with fail
            go_ret
            exact ⟨by rw [HR.out]; rfl, hb⟩
          · have HR : Hid (mNb n ((1 : Nat) : Int) true = mEnc ⟨x, y + 1, z⟩) := Lib.hid (by rw [HR0.out]; rfl)
            clear HR0
            go_enter Try.func20, Try.ntmps20
            go_wp2_with fail
            refine (refDecode_any n _).mono ?_
            rintro e w1 ⟨rfl, hb⟩
            rw [hD]
            go_wp2_with (with_reducible refine alArr (z := pcs p0) Try.ag_pt (wn rfl) rfl ?_)
            intro w2 h7 b2
            have ls := hb.size
            replace hb := hb.trans (b2.mono ls)
            clear b2
            go_wp2_with (with_reducible refine stArrG (cs := pcs ⟨x, y, z⟩) (.tmp 7) (.tmp 13) Try.ag_pt (wn rfl) rfl rfl rfl h7 rfl rfl (pcs_one _) ?_)
            intro w3 h7 hg
            replace hb := hb.grown hg hb.size (fun k e => by cases e; exact ls)
            clear hg
            generalize w1.heap.size = g7 at *
            have hck := h7.cell (i := 1) (v := .int .i64 y) rfl
            have hfk := h7.thaw 1
            have hs : Arr (w3.setCell ⟨g7, 1, none⟩ (.int .i64 (y + 1))) g7 23 (pcs ⟨x, y + 1, z⟩) := h7.set 1 (.int .i64 (y + 1))
            have hbs := hb.setCell (p := ⟨g7, 1, none⟩) ls (.int .i64 (y + 1))
            clear h7 hb
            go_wp2_with (with_reducible refine ldArr (.tmp 7) Try.ag_pt (wn rfl) rfl rfl rfl hs ?_)
            replace hb := hbs
            clear hs hbs hck hfk
            refine (refEncode_any _ _).mono ?_
            rintro e w7 ⟨rfl, b7⟩
            replace hb := hb.trans (b7.mono hb.size)
            clear b7
            go_wp2_with fail
            go_ret
            exact ⟨by rw [HR.out]; rfl, hb⟩
          · have HR : Hid (mNb n ((2 : Nat) : Int) true = mEnc ⟨x, y, z + 1⟩) := Lib.hid (by rw [HR0.out]; rfl)
            clear HR0
            go_enter Try.func20, Try.ntmps20
            go_wp2_with fail
            refine (refDecode_any n _).mono ?_
            rintro e w1 ⟨rfl, hb⟩
            rw [hD]
            go_wp2_with (with_reducible refine alArr (z := pcs p0) Try.ag_pt (wn rfl) rfl ?_)
            intro w2 h7 b2
            have ls := hb.size
            replace hb := hb.trans (b2.mono ls)
            clear b2
            go_wp2_with (with_reducible refine stArrG (cs := pcs ⟨x, y, z⟩) (.tmp 7) (.tmp 13) Try.ag_pt (wn rfl) rfl rfl rfl h7 rfl rfl (pcs_one _) ?_)
            intro w3 h7 hg
            replace hb := hb.grown hg hb.size (fun k e => by cases e; exact ls)
            clear hg
            generalize w1.heap.size = g7 at *
            have hck := h7.cell (i := 2) (v := .int .i64 z) rfl
            have hfk := h7.thaw 2
            have hs : Arr (w3.setCell ⟨g7, 2, none⟩ (.int .i64 (z + 1))) g7 23 (pcs ⟨x, y, z + 1⟩) := h7.set 2 (.int .i64 (z + 1))
            have hbs := hb.setCell (p := ⟨g7, 2, none⟩) ls (.int .i64 (z + 1))
            clear h7 hb
            go_wp2_with (with_reducible refine ldArr (.tmp 7) Try.ag_pt (wn rfl) rfl rfl rfl hs ?_)
            replace hb := hbs
            clear hs hbs hck hfk
            refine (refEncode_any _ _).mono ?_
            rintro e w7 ⟨rfl, b7⟩
            replace hb := hb.trans (b7.mono hb.size)
            clear b7
            go_wp2_with fail
            go_ret
            exact ⟨by rw [HR.out]; rfl, hb⟩
        | false =>
          rcases (by omega : k = 0 ∨ k = 1 ∨ k = 2) with rfl | rfl | rfl
          · have HR : Hid (mNb n ((0 : Nat) : Int) false = mEnc ⟨x + -1, y, z⟩) := Lib.hid (by rw [HR0.out]; rfl)
            clear HR0
            go_enter Try.func20, Try.ntmps20
            go_wp2_with fail
            refine (refDecode_any n _).mono ?_
            rintro e w1 ⟨rfl, hb⟩
            rw [hD]
            go_wp2_with (with_reducible refine alArr (z := pcs p0) Try.ag_pt (wn rfl) rfl ?_)
            intro w2 h7 b2
            have ls := hb.size
            replace hb := hb.trans (b2.mono ls)
            clear b2
            go_wp2_with (with_reducible refine stArrG (cs := pcs ⟨x, y, z⟩) (.tmp 7) (.tmp 13) Try.ag_pt (wn rfl) rfl rfl rfl h7 rfl rfl (pcs_one _) ?_)
            intro w3 h7 hg
            replace hb := hb.grown hg hb.size (fun k e => by cases e; exact ls)
            clear hg
            generalize w1.heap.size = g7 at *
            have hck := h7.cell (i := 0) (v := .int .i64 x) rfl
            have hfk := h7.thaw 0
            have hs : Arr (w3.setCell ⟨g7, 0, none⟩ (.int .i64 (x + -1))) g7 23 (pcs ⟨x + -1, y, z⟩) := h7.set 0 (.int .i64 (x + -1))
            have hbs := hb.setCell (p := ⟨g7, 0, none⟩) ls (.int .i64 (x + -1))
            clear h7 hb
            go_wp2_with (with_reducible refine ldArr (.tmp 7) Try.ag_pt (wn rfl) rfl rfl rfl hs ?_)
            replace hb := hbs
            clear hs hbs hck hfk
            refine (refEncode_any _ _).mono ?_
            rintro e w7 ⟨rfl, b7⟩
            replace hb := hb.trans (b7.mono hb.size)
            clear b7
            go_wp2_with fail
            go_ret
            exact ⟨by rw [HR.out]; rfl, hb⟩
          · have HR : Hid (mNb n ((1 : Nat) : Int) false = mEnc ⟨x, y + -1, z⟩) := Lib.hid (by rw [HR0.out]; rfl)
            clear HR0
            go_enter Try.func20, Try.ntmps20
            go_wp2_with fail
            refine (refDecode_any n _).mono ?_
            rintro e w1 ⟨rfl, hb⟩
            rw [hD]
            go_wp2_with (with_reducible refine alArr (z := pcs p0) Try.ag_pt (wn rfl) rfl ?_)
            intro w2 h7 b2
            have ls := hb.size
            replace hb := hb.trans (b2.mono ls)
            clear b2
            go_wp2_with (with_reducible refine stArrG (cs := pcs ⟨x, y, z⟩) (.tmp 7) (.tmp 13) Try.ag_pt (wn rfl) rfl rfl rfl h7 rfl rfl (pcs_one _) ?_)
            intro w3 h7 hg
            replace hb := hb.grown hg hb.size (fun k e => by cases e; exact ls)
            clear hg
            generalize w1.heap.size = g7 at *
            have hck := h7.cell (i := 1) (v := .int .i64 y) rfl
            have hfk := h7.thaw 1
            have hs : Arr (w3.setCell ⟨g7, 1, none⟩ (.int .i64 (y + -1))) g7 23 (pcs ⟨x, y + -1, z⟩) := h7.set 1 (.int .i64 (y + -1))
            have hbs := hb.setCell (p := ⟨g7, 1, none⟩) ls (.int .i64 (y + -1))
            clear h7 hb
            go_wp2_with (with_reducible refine ldArr (.tmp 7) Try.ag_pt (wn rfl) rfl rfl rfl hs ?_)
            replace hb := hbs
            clear hs hbs hck hfk
            refine (refEncode_any _ _).mono ?_
            rintro e w7 ⟨rfl, b7⟩
            replace hb := hb.trans (b7.mono hb.size)
            clear b7
            go_wp2_with fail
            go_ret
            exact ⟨by rw [HR.out]; rfl, hb⟩
          · have HR : Hid (mNb n ((2 : Nat) : Int) false = mEnc ⟨x, y, z + -1⟩) := Lib.hid (by rw [HR0.out]; rfl)
            clear HR0
            go_enter Try.func20, Try.ntmps20
            go_wp2_with fail
            refine (refDecode_any n _).mono ?_
            rintro e w1 ⟨rfl, hb⟩
            rw [hD]
            go_wp2_with (with_reducible refine alArr (z := pcs p0) Try.ag_pt (wn rfl) rfl ?_)
            intro w2 h7 b2
            have ls := hb.size
            replace hb := hb.trans (b2.mono ls)
            clear b2
            go_wp2_with (with_reducible refine stArrG (cs := pcs ⟨x, y, z⟩) (.tmp 7) (.tmp 13) Try.ag_pt (wn rfl) rfl rfl rfl h7 rfl rfl (pcs_one _) ?_)
            intro w3 h7 hg
            replace hb := hb.grown hg hb.size (fun k e => by cases e; exact ls)
            clear hg
            generalize w1.heap.size = g7 at *
            have hck := h7.cell (i := 2) (v := .int .i64 z) rfl
            have hfk := h7.thaw 2
            have hs : Arr (w3.setCell ⟨g7, 2, none⟩ (.int .i64 (z + -1))) g7 23 (pcs ⟨x, y, z + -1⟩) := h7.set 2 (.int .i64 (z + -1))
            have hbs := hb.setCell (p := ⟨g7, 2, none⟩) ls (.int .i64 (z + -1))
            clear h7 hb
            go_wp2_with (with_reducible refine ldArr (.tmp 7) Try.ag_pt (wn rfl) rfl rfl rfl hs ?_)
            replace hb := hbs
            clear hs hbs hck hfk
            refine (refEncode_any _ _).mono ?_
            rintro e w7 ⟨rfl, b7⟩
            replace hb := hb.trans (b7.mono hb.size)
            clear b7
            go_wp2_with fail
            go_ret
            exact ⟨by rw [HR.out]; rfl, hb⟩
end Go.Proofs.Ytkfijpghjjnpkaa
/-
  '==' on points and cubes. No statement is proved here.
-/
namespace Go.Proofs.Ytkfijpghjjnpkaa
open Go.RowKit
set_option linter.unusedVariables false

theorem Try.pt_fields : (Try.prog.fieldsOf 23).toList.map (fun f => (f.name, f.type, f.offset)) = [("X", 3, 0), ("Y", 3, 1), ("Z", 3, 2)] := by kernel_rfl
theorem part_int {P : Program} {w : World} {e : TypeId} {k : IntKind} {cs : List Value} {i : Nat} {v : Value} (he : P.underlying e = some (.int k)) (h : cs[i]? = some v) : (Go.part e cs.toArray i).run P w = .ok v w := by
  unfold Go.part
  have ha : (isAgg e).run P w = .ok false w := by
    unfold isAgg
    rw [Sem.run_bind, run_underlying he w]
    rfl
  simp [ha, h]
theorem eqPts (w : World) (d : Nat) (p q : Pt) : (Op.equalIn (d + 2) 23 (.agg (pcs p).toArray) (.agg (pcs q).toArray)).run Try.prog w = .ok (decide (p = q)) w := by
  rw [run_equalIn_struct w (d + 1) 23 _ _ (by kernel_rfl) (by kernel_rfl)]
  obtain ⟨fs, hfs⟩ : ∃ fs, fs = (Try.prog.fieldsOf 23).toList := ⟨_, rfl⟩
  have hm := Try.pt_fields
  rw [← hfs] at hm ⊢
  obtain ⟨f0, f1, f2, rfl⟩ : ∃ f0 f1 f2, fs = [f0, f1, f2] := by
    match fs, hm with
    | [a, b, c], _ => exact ⟨a, b, c, rfl⟩
  simp only [List.map_cons, List.map_nil, List.cons.injEq, Prod.mk.injEq, and_true] at hm
  obtain ⟨⟨n0, t0, o0⟩, ⟨n1, t1, o1⟩, ⟨n2, t2, o2⟩⟩ := hm
  obtain ⟨px, py, pz⟩ := p
  obtain ⟨qx, qy, qz⟩ := q
  have a0 := part_int (w := w) (cs := pcs ⟨px, py, pz⟩) (i := 0) Try.und_int rfl
  have a1 := part_int (w := w) (cs := pcs ⟨px, py, pz⟩) (i := 1) Try.und_int rfl
  have a2 := part_int (w := w) (cs := pcs ⟨px, py, pz⟩) (i := 2) Try.und_int rfl
  have b0 := part_int (w := w) (cs := pcs ⟨qx, qy, qz⟩) (i := 0) Try.und_int rfl
  have b1 := part_int (w := w) (cs := pcs ⟨qx, qy, qz⟩) (i := 1) Try.und_int rfl
  have b2 := part_int (w := w) (cs := pcs ⟨qx, qy, qz⟩) (i := 2) Try.und_int rfl
  have e := fun a b => run_equalIn_int w d 3 .i64 .i64 a b Try.und_int
  simp only [Op.eqFields, n0, n1, n2, t0, t1, t2, o0, o1, o2, Sem.run_bind, Sem.run_ite, a0, a1, a2, b0, b1, b2, e, Result.andThen_ok, Sem.run_pure]
  by_cases h0 : px = qx
  · by_cases h1 : py = qy
    · by_cases h2 : pz = qz
      · subst h0; subst h1; subst h2; simp
      · subst h0; subst h1; simp [h2]
    · subst h0; simp [h1]
  · simp [h0]
theorem eqPtRun {w : World} {o : Oper} {a : Act} {ty : TypeId} (x y : Operand) (p q : Pt) (ho : o.op = .binOp .eql 23 x y ty) (hx : a.eval x = .agg (pcs p).toArray) (hy : a.eval y = .agg (pcs q).toArray) :
    (execOp a.eval o).run Try.prog w = .ok (.value (.bool (decide (p = q)))) w := by
  have hq : Try.prog.eqGuardType Try.prog.depth 23 = false := by kernel_rfl
  have hr := eqPts w 9998 p q
  unfold execOp
  simp only [ho, hx, hy]
  simp [eqGuard, hq, run_eql_struct, hr]
end Go.Proofs.Ytkfijpghjjnpkaa
