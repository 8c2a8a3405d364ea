/-
  MJ: what the groups lack. No statement is proved here.
-/
import Derived.Test.YtgjgjimgomhbmaaGreatDoorMH
import Derived.WalkKit
import Derived.WalkSpells
import Derived.WalkLawsBesides
import Derived.Lib.Hide
import Derived.Lib.AppendStr
import Derived.Deep.AppendLies
import Derived.Deep.Draws
import Derived.Maps.AppendAt
import Derived.Laws.CopyOwn
import Derived.Great.BuildSlice
import Derived.Laws.BitsAllLaws
import Derived.Deep.QuietTactic
import Derived.BigQuiet
import Derived.Stop.BytesEq
import Derived.OrdersHeld
import Derived.Lib.ConvBytes
import Derived.Laws.OwnMore
import Derived.Deep.Cut
import Derived.Deep.DeepCutAuto
import Derived.ProofKit
import Derived.OpenShut
import Derived.Deep.Slices
import Derived.SizedLaws
import Derived.Deep.CondSized
import Derived.Deep.DeepHandedRow
import Derived.Lib.LaidTab
import Derived.Deep.CutBlock
set_option maxRecDepth 100000
set_option maxHeartbeats 4000000
set_option linter.unusedVariables false
set_option linter.unusedSimpArgs false
namespace Go.Proofs.YtgjgjimgomhbmaaGreatDoor
open Go.RowKit
section
variable {w w' : World} {B B' size n c : Nat} {A : Option Addr} {xs : List Value}
end
section
variable {P : Program} {w w0 : World} {ops : Array Oper} {rest : List Oper} {o : Oper} {a : Act} {Q : Exit → Act → World → Prop}
end
section
variable {P : Program} {w : World} {ops : Array Oper} {rest : List Oper} {o : Oper} {a : Act} {Q : Exit → Act → World → Prop}
end
section
variable {P : Program} {w : World} {ops : Array Oper} {rest : List Oper} {o : Oper} {a : Act} {Q : Exit → Act → World → Prop}
end
end Go.Proofs.YtgjgjimgomhbmaaGreatDoor
namespace Go.Proofs.YtgjgjimgomhbmaaGreatDoor
open Go.RowKit
section
variable {P : Program} {w : World} {ops : Array Oper} {rest : List Oper} {o : Oper} {a : Act} {Q : Act → Prop}
end
section
variable {w w' : World} {b b' i : Nat} {t : TypeId} {cur : List Value} {v : Value}
end
section
variable {P : Program} {w : World} {ops : Array Oper} {rest : List Oper} {o : Oper} {a : Act} {Q : Exit → Act → World → Prop} {ty : TypeId} {n b : Nat}
end
section
variable {P : Program} {ops : Array Oper} {Q : Exit → Act → World → Prop} {S : World → Prop} {listed : Array Bool} {a : Act} {w : World} {fuel : Nat}
end
section
variable {P : Program} {w : World} {ops : Array Oper} {rest : List Oper} {o : Oper} {a : Act} {Q : Exit → Act → World → Prop} {g off : Nat} {t : TypeId} {cur : List Value}
end
section
variable {P : Program} {ops : Array Oper} {Q : Exit → Act → World → Prop} {X : List (Nat × Nat)} {G : Nat → Value → World → Prop} {a0 : Act} {w0 : World} {listed0 : Array Bool}
end
theorem unzz_zz (n : Int) : unzz (zz n) = n := by unfold zz unzz; split <;> split <;> omega
theorem encN_pos (k z : Nat) : 0 < (encN k z).length := by
 cases k with
 | zero => simp [encN]
 | succ k => unfold encN; split <;> simp
theorem enc_pos (n : Int) : 0 < (enc n).length := encN_pos 9 _
end Go.Proofs.YtgjgjimgomhbmaaGreatDoor
set_option maxRecDepth 100000
set_option maxHeartbeats 4000000
set_option linter.unusedVariables false
set_option linter.unusedSimpArgs false
namespace Go.Proofs.YtgjgjimgomhbmaaGreatDoor
open Go.RowKit
section
variable {α : Type} {one : List UInt8 → α × Int × Int} {l : List UInt8}
end
theorem same_true (l : List UInt8) (A A' : Option Addr) (n n' c c' B B' : Nat) (w : World) (hr : Rd w B 1 A n c (bcs l)) (hr' : Rd w B' 1 A' n' c' (bcs l)) :
 Calls Tryz.prog 16 #[.slice A n c, .slice A' n' c'] w fun e w' => e = .returned (.bool true) ∧ w = w' := by
 have h1 := conv_bs (P := Tryz.prog) Tryz.sl_u8.und Tryz.und_u8 Tryz.und_str hr
 have h2 := conv_bs (P := Tryz.prog) Tryz.sl_u8.und Tryz.und_u8 Tryz.und_str hr'
 go_enter Tryz.func16, Tryz.ntmps16
 go_wp2
 go_ret
 exact ⟨by simp, rfl⟩
theorem decGo_enc (t : List UInt8) : ∀ (j k z acc : Nat), k + j = 9 → z * 128 ^ k < 18446744073709551616 → (k = 0 ∨ 0 < z) →
 decGo (encN j z ++ t) k acc = (unzz (acc + z * 128 ^ k), (k : Int) + (encN j z).length, 0)
 | 0, k, z, acc, hk, hz, h0 => by
  obtain rfl : k = 9 := by omega
  have hz1 : z < 2 := by
   rcases Nat.lt_or_ge z 2 with h | h
   ·exact h
   ·have := Nat.mul_le_mul_right (128 ^ 9) h; omega
  obtain rfl : z = 1 := by omega
  simp [encN, decGo]
 | j + 1, k, z, acc, hk, hz, h0 => by
  by_cases h : z < 128
  ·rw [encN_last _ _ h]
   simp only [List.cons_append, List.nil_append, decGo]
   rw [ofNat_toNat8 z (by omega), if_neg (by omega), if_pos h, Nat.mod_eq_of_lt h]
   simp
  ·rw [encN_step j z (by omega)]
   simp only [List.cons_append, decGo]
   rw [ofNat_toNat8 _ (by omega), if_neg (by omega), if_neg (by omega)]
   have hd : z / 128 * 128 ^ (k + 1) + z % 128 * 128 ^ k = z * 128 ^ k := by
    rw [Nat.pow_succ, Nat.mul_comm (128 ^ k) 128, ← Nat.mul_assoc, ← Nat.add_mul]
    congr 1; omega
   rw [decGo_enc t j (k + 1) (z / 128) _ (by omega) (by omega) (Or.inr (by omega))]
   have e : acc + (z % 128 + 128) % 128 * 128 ^ k + z / 128 * 128 ^ (k + 1) = acc + z * 128 ^ k := by
    rw [show (z % 128 + 128) % 128 = z % 128 from by omega]; omega
   rw [e]
   simp
   omega
theorem dec_enc (n : Int) (t : List UInt8) (h : isI64 n) : dec (enc n ++ t) = (n, ((enc n).length : Int), 0) := by
 unfold dec enc
 rw [decGo_enc t 9 0 (zz n) 0 rfl (by have := zz_lt n h.1 h.2; omega) (Or.inl rfl)]
 simp [unzz_zz]
theorem lenDec_enc (n : Nat) (least : Nat) (t : List UInt8) (h1 : 1 ≤ least) (hn : n ≤ 9223372036854775807) (h : n * least ≤ t.length) : lenDec (enc n ++ t) least = ((n : Int), ((enc n).length : Int), 0) := by
 unfold lenDec
 rw [dec_enc n t ⟨by omega, by omega⟩]
 simp only [ne_eq, not_true_eq_false, if_false]
 rw [if_neg (by omega), if_neg]
 rw [List.length_append]
 have : (n : Int) ≤ (((enc n).length + t.length : Nat) - ((enc n).length : Int)) / (least : Int) := by
  rw [Int.le_ediv_iff_mul_le (by omega)]
  have h' : ((n * least : Nat) : Int) ≤ t.length := by omega
  rw [Int.natCast_mul] at h'
  omega
 omega
theorem decS_enc (s t : List UInt8) (hs : s.length ≤ 9223372036854775807) : decS (encS s ++ t) = (s, ((encS s).length : Int), 0) := by
 unfold decS encS
 rw [List.append_assoc, lenDec_enc s.length 1 (s ++ t) (by omega) hs (by simp)]
 simp
section
variable {α : Type} {one : List UInt8 → α × Int × Int} {e : α → List UInt8}
theorem many_enc (l t : List UInt8) : ∀ (xs : List α) (at_ : Nat) (acc : List α), (∀ x ∈ xs, ∀ t, one (e x ++ t) = (x, ((e x).length : Int), 0)) → l.drop at_ = (xs.map e).flatten ++ t →
 many one l xs.length at_ acc = (acc ++ xs, ((at_ + (xs.map e).flatten.length : Nat) : Int), 0)
 | [], at_, acc, _, _ => by simp [many]
 | x :: xs, at_, acc, h, hd => by
  have hx := h x (by simp)
  rw [List.length_cons, many, hd, List.map_cons, List.flatten_cons, List.append_assoc, hx]
  simp only [ne_eq, not_true_eq_false, if_false, Int.toNat_natCast]
  rw [many_enc l t xs (at_ + (e x).length) (acc ++ [x]) (fun y hy => h y (by simp [hy]))]
  ·simp; omega
  ·rw [← List.drop_drop, hd]
   simp
end
theorem flat_ge {α : Type} (e : α → List UInt8) (xs : List α) (h : ∀ x, 0 < (e x).length) : xs.length ≤ (xs.map e).flatten.length := by
 induction xs with
 | nil => simp
 | cons x xs ih => have := h x; simp at ih ⊢; omega
theorem decList_enc {α : Type} {one : List UInt8 → α × Int × Int} {e : α → List UInt8} (xs : List α) (t : List UInt8) (hl : xs.length ≤ 9223372036854775807) (h : ∀ x ∈ xs, ∀ t, one (e x ++ t) = (x, ((e x).length : Int), 0)) (hp : ∀ x, 0 < (e x).length) :
 decList one (enc xs.length ++ (xs.map e).flatten ++ t) = (xs, ((enc xs.length ++ (xs.map e).flatten).length : Int), 0) := by
 unfold decList
 rw [List.append_assoc, lenDec_enc xs.length 1 _ (by omega) hl (by have := flat_ge e xs hp; rw [List.length_append]; omega)]
 simp only [ne_eq, not_true_eq_false, if_false, Int.toNat_natCast]
 rw [many_enc (e := e) _ t xs (enc xs.length).length [] h (by simp)]
 simp
theorem decI_enc (l : List Int) (t : List UInt8) (hl : l.length ≤ 9223372036854775807) (h : ∀ x ∈ l, isI64 x) : decI (encI l ++ t) = (l, ((encI l).length : Int), 0) :=
 decList_enc l t hl (fun x hx t => dec_enc x t (h x hx)) enc_pos
theorem decD_enc (n : Nat) (D t : List UInt8) (hn : n ≤ 9223372036854775807) (hD : D.length = n * 16) : decD (encD n D ++ t) = (D, ((encD n D).length : Int), 0) := by
 unfold decD encD
 rw [List.append_assoc, lenDec_enc n 16 (D ++ t) (by omega) hn (by simp; omega)]
 simp [hD]
end Go.Proofs.YtgjgjimgomhbmaaGreatDoor
namespace Go.Proofs.YtgjgjimgomhbmaaGreatDoor
open Go.RowKit Go.ChangeShapes Go.WideShapes
section
variable {H : Type} {enc : TypeId × Value → H} {P : Program} {w : World} {base : Nat} {held : Bool}
theorem br_ints {t e : TypeId} {k : IntKind} (ht : P.underlying t = some (.slice e)) (he : P.underlying e = some (.int k)) (hc : P.cellsOf e = 1) {a0 : Option Addr} {n0 c0 : Nat} {d : DataW H} {pl : List MemPlace}
 (h : DataW.Trod enc P w base (fun _ => true) held t (.slice a0 n0 c0) d pl) :
 ∃ (zs : List Int) (D sp : List (DataW H)), Rd w w.heap.size 1 a0 n0 c0 (zs.map (Value.int k)) ∧ (∀ z ∈ zs, (Lit.int k z).wf = true) ∧
  (d = .slice D sp ∨ d = .nil ∧ n0 = 0) ∧ D.length = n0 := by
 obtain ⟨fuel, hf⟩ := h
 obtain ⟨A, n, c, xs, D, sp, hcs, hn, hr, _, hd, hD, hR⟩ := br_slice (fun z => [Value.int k z]) (fun z (_ : DataW H) => (Lit.int k z).wf = true) ht hc (by decide)
  (fun fuel cs' d pl _ hh => by obtain ⟨z, rfl, _, hz⟩ := DataW.trod_int he hh; exact ⟨z, rfl, hz⟩) hf
 simp only [Value.cells, List.cons.injEq, Value.slice.injEq, and_true] at hcs
 obtain ⟨rfl, rfl, rfl⟩ := hcs
 refine ⟨xs, D, sp, ?_, ?_, hd, hD⟩
 ·rw [show xs.map (Value.int k) = xs.flatMap fun z => [Value.int k z] from by rw [flat_one]]; exact hr
 ·intro z hz
  obtain ⟨i, hi⟩ := List.getElem?_of_mem hz
  obtain ⟨_, _, h⟩ := hR i z hi
  exact h
theorem br_bytes {t e : TypeId} (ht : P.underlying t = some (.slice e)) (he : P.underlying e = some (.int .u8)) (hc : P.cellsOf e = 1) {a0 : Option Addr} {n0 c0 : Nat} {d : DataW H} {pl : List MemPlace}
 (h : DataW.Trod enc P w base (fun _ => true) held t (.slice a0 n0 c0) d pl) :
 ∃ (l : List UInt8) (D sp : List (DataW H)), Rd w w.heap.size 1 a0 n0 c0 (bcs l) ∧ (d = .slice D sp ∨ d = .nil ∧ n0 = 0) ∧ D.length = n0 := by
 obtain ⟨zs, D, sp, hr, hz, hd, hD⟩ := br_ints ht he hc h
 exact ⟨_, D, sp, by rw [← u8_list zs hz]; exact hr, hd, hD⟩
end
end Go.Proofs.YtgjgjimgomhbmaaGreatDoor
namespace Go.Proofs.YtgjgjimgomhbmaaGreatDoor
open Go.RowKit
end Go.Proofs.YtgjgjimgomhbmaaGreatDoor
set_option maxRecDepth 100000
set_option maxHeartbeats 4000000
set_option linter.unusedVariables false
set_option linter.unusedSimpArgs false
namespace Go.Proofs.YtgjgjimgomhbmaaGreatDoor
open Go.RowKit
section
variable {P : Program} {w : World} {o : Oper} {a : Act}
end
end Go.Proofs.YtgjgjimgomhbmaaGreatDoor
namespace Go.Proofs.YtgjgjimgomhbmaaGreatDoor
section
variable {T : List Vr} {nx m : Int} {hs : List Hd} {ps : List Int} {kind n : Int} {h : Hd}
end
end Go.Proofs.YtgjgjimgomhbmaaGreatDoor
namespace Go.Proofs.YtgjgjimgomhbmaaGreatDoor
open Go.RowKit Go.ChangeShapes Go.WideShapes
section
variable {H : Type} {enc : TypeId × Value → H} {P : Program} {w : World} {base : Nat} {held : Bool} {cs : List Value} {ls : List (Nat × TypeId)}
end
section
variable {H : Type} {enc : TypeId × Value → H} {W : World} {held : Bool} {b0 : Nat} {r : Reach}
end
end Go.Proofs.YtgjgjimgomhbmaaGreatDoor
namespace Go.Proofs.YtgjgjimgomhbmaaGreatDoor
open Go.ChangeShapes Go.WideShapes Go.ChangeAt Go.RowKit
end Go.Proofs.YtgjgjimgomhbmaaGreatDoor
namespace Go.Proofs.YtgjgjimgomhbmaaGreatDoor
open Go.RowKit
section
variable {P : Program} {ops : Array Oper} {Q : Exit → Act → World → Prop} {S : World → Prop} {listed : Array Bool} {a : Act} {w : World} {fuel : Nat}
end
section
variable {P : Program} {ops : Array Oper} {Q : Exit → Act → World → Prop} {S : World → Prop} {listed : Array Bool} {a : Act} {w : World} {fuel : Nat}
end
end Go.Proofs.YtgjgjimgomhbmaaGreatDoor
namespace Go.Proofs.YtgjgjimgomhbmaaGreatDoor
theorem climbD_add (i j : Int) (a b : Nat) (v : List UInt8) : ∀ n, climbD i j (a + b) (climbD i j a v b) n = climbD i j a v (b + n)
 | 0 => rfl
 | n + 1 => by
  show ofDig 4 [encI [i, j, ((a + b + n + 1 : Nat) : Int)], climbD i j (a + b) (climbD i j a v b) n] = ofDig 4 [encI [i, j, ((a + (b + n) + 1 : Nat) : Int)], climbD i j a v (b + n)]
  rw [climbD_add i j a b v n, show a + b + n + 1 = a + (b + n) + 1 by omega]
theorem flat16_at : ∀ {vs : List (List UInt8)} {k : Nat} {x : List UInt8} (t : List UInt8), (∀ v ∈ vs, v.length = 16) → vs[k]? = some x → part (vs.flatten ++ t) k = x
 | [], k, x, t, _, h => by simp at h
 | v :: vs, 0, x, t, hv, h => by
  obtain rfl : v = x := by simpa using h
  unfold part
  have := hv v (by simp)
  simp only [List.flatten_cons, Nat.mul_zero, List.drop_zero, List.append_assoc]
  rw [List.take_append_of_le_length (by omega), List.take_of_length_le (by omega)]
 | v :: vs, k + 1, x, t, hv, h => by
  have h1 := hv v (by simp)
  have := flat16_at (vs := vs) (k := k) (x := x) t (fun u hu => hv u (List.mem_cons_of_mem _ hu)) (by simpa using h)
  rw [← this]
  unfold part
  rw [List.flatten_cons, List.append_assoc, List.drop_append, List.drop_of_length_le (by omega), List.nil_append, h1, show 16 * (k + 1) - 16 = 16 * k by omega]
theorem part_chain (seed : List UInt8) (h i : Nat) (d : List UInt8) {j : Nat} (hj : j < 35) : part (restD seed h i d) j = chainD seed i (digAt d j) j := by
 unfold restD
 refine flat16_at _ (fun v hv => ?_) ?_
 ·obtain ⟨l, _, rfl⟩ := List.mem_map.1 hv; exact chainD_len _ _ _ _
 ·rw [List.getElem?_map, List.getElem?_range hj]; rfl
theorem part_shift (a b : List UInt8) (k l : Nat) (h : a.length = 16 * k) : part (a ++ b) (k + l) = part b l := by
 unfold part
 rw [List.drop_append, List.drop_of_length_le (by omega), List.nil_append, h, show 16 * (k + l) - 16 * k = 16 * l by omega]
theorem part_path (seed : List UInt8) (h i : Nat) (d : List UInt8) {l : Nat} (hl : l < h) : part (restD seed h i d) (35 + l) = valueD seed l ((i / 2 ^ l) ^^^ 1) := by
 unfold restD
 rw [part_shift _ _ 35 l]
 ·have := flat16_at (vs := (List.range h).map fun l => valueD seed l ((i / 2 ^ l) ^^^ 1)) (k := l) [] (fun v hv => by obtain ⟨l, _, rfl⟩ := List.mem_map.1 hv; exact valueD_len _ _ _) (x := valueD seed l ((i / 2 ^ l) ^^^ 1)) (by rw [List.getElem?_map, List.getElem?_range hl]; rfl)
  rwa [List.append_nil] at this
 ·rw [flat16_len]
  ·simp
  ·intro v hv; obtain ⟨l, _, rfl⟩ := List.mem_map.1 hv; exact chainD_len _ _ _ _
theorem up_value (seed : List UInt8) (h i : Nat) (d : List UInt8) : ∀ l, l ≤ h → upD h i (restD seed h i d) (valueD seed 0 i) l = valueD seed l (i / 2 ^ l)
 | 0, _ => by rw [Nat.pow_zero, Nat.div_one]; rfl
 | l + 1, hl => by
  have ih := up_value seed h i d l (by omega)
  have hp := part_path seed h i d (l := l) (by omega)
  have hdiv : i / 2 ^ (l + 1) = i / 2 ^ l / 2 := by rw [Nat.pow_succ, Nat.div_div_eq_div_mul]
  rw [xor_one] at hp
  unfold upD
  rw [ih, hp, hdiv]
  generalize i / 2 ^ l = n
  show _ = joinD _ _ _ _
  by_cases hn : n % 2 = 1
  ·rw [if_pos hn, if_pos hn, show 2 * (n / 2) = n - 1 by omega, show n - 1 + 1 = n by omega]
  ·rw [if_neg hn, if_neg hn, show 2 * (n / 2) = n by omega]
theorem root_sign (seed : List UInt8) (h i : Nat) (d : List UInt8) (hi : i < 2 ^ h) : rootD h i d (restD seed h i d) = valueD seed h 0 := by
 unfold rootD
 have hleaf : leafD ((List.range 35).map fun (j : Nat) => climbD i j (digAt d j) (part (restD seed h i d) j) (15 - digAt d j)) = valueD seed 0 i := by
  show _ = leafD _
  congr 1
  apply List.map_congr_left
  intro j hj
  rw [List.mem_range] at hj
  rw [part_chain seed h i d hj]
  unfold chainD
  have h15 := digAt_le d j
  have := climbD_add (i : Int) (j : Int) 0 (digAt d j) (startD seed i j) (15 - digAt d j)
  rw [Nat.zero_add] at this
  rw [this, show digAt d j + (15 - digAt d j) = 15 by omega]
 rw [hleaf, up_value seed h i d h (Nat.le_refl _), Nat.div_eq_of_lt hi]
theorem enc_small {i : Nat} (hi : i < 64) : enc (i : Int) = [UInt8.ofNat (2 * i)] := by
 unfold enc
 have : zz (i : Int) = 2 * i := by unfold zz; split <;> omega
 rw [this]
 exact encN_last 9 _ (by omega)
theorem isI64_small {i : Nat} (hi : i < 64) : isI64 (i : Int) := by unfold isI64; omega
theorem verify_of (p : List UInt8) {h i : Nat} (m r : List UInt8) (hh : h ≤ 6) (hi : i < 2 ^ h) (hr : r.length = 16 * (35 + h)) :
 verifyD p h m (enc i ++ r) = if rootD h i (messageD p i m) r = p then ((i : Int), 0) else (0, 8) := by
 have h64 := two_pow_le hh
 have hp := two_pow_pos h
 have hd := dec_enc (i : Int) r (isI64_small (by omega))
 have hs := sizeD_of hh hi
 have hle := enc_small (i := i) (by omega)
 unfold verifyD
 rw [hd, countD_of hh]
 simp only
 rw [if_neg (by omega), if_neg (by simp), hs, if_neg (by omega), List.length_append, hr, if_neg (by omega), if_neg (by omega)]
 simp
theorem verify_sign (seed : List UInt8) {h i : Nat} (m : List UInt8) (hh : h ≤ 6) (hi : i < 2 ^ h) : verifyD (valueD seed h 0) h m (signD seed h i m) = ((i : Int), 0) := by
 unfold signD
 rw [verify_of _ _ _ hh hi (restD_len _ _ _ _), root_sign seed h i _ hi, if_pos rfl]
end Go.Proofs.YtgjgjimgomhbmaaGreatDoor
namespace Go.Proofs.YtgjgjimgomhbmaaGreatDoor
open Go.RowKit
section
variable {P : Program} {w : World} {ops : Array Oper} {rest : List Oper} {o : Oper} {a : Act} {Q : Exit → Act → World → Prop}
end
end Go.Proofs.YtgjgjimgomhbmaaGreatDoor
