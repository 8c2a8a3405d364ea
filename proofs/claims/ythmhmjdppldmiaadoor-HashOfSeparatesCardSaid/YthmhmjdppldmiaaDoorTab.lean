/-
  The two tables of constants, as cells of memory, and that calls leave them alone. No statement is proved here.
-/
import Derived.Test.YthmhmjdppldmiaaDoorSchedule
import Derived.Test.YthmhmjdppldmiaaDoorReg
namespace Go.Proofs.YthmhmjdppldmiaaDoor
open Go.RowKit

/-- The program's table lies in memory. -/
structure Tabs (w : World) : Prop where
  size : 2 ≤ w.heap.size
  own : ∀ j u, (wvs shaK)[j]? = some u → w.cell? ⟨1, 0 + j, none⟩ = some u
/-- The specification's table lies in memory. -/
structure TabsR (w : World) : Prop where
  size : 2 ≤ w.heap.size
  ref : ∀ j u, (wvs shaK)[j]? = some u → w.cell? ⟨0, 0 + j, none⟩ = some u
theorem Tabs.below {w w' : World} {B : Nat} (h : Tabs w) (hb : Below B w w') (hB : 2 ≤ B) : Tabs w' :=
  ⟨Nat.le_trans h.size hb.size, fun j u hu => (hb.cell (p := ⟨1, 0 + j, none⟩) (by show 1 < B; omega)).trans (h.own j u hu)⟩
theorem TabsR.below {w w' : World} {B : Nat} (h : TabsR w) (hb : Below B w w') (hB : 2 ≤ B) : TabsR w' :=
  ⟨Nat.le_trans h.size hb.size, fun j u hu => (hb.cell (p := ⟨0, 0 + j, none⟩) (by show 0 < B; omega)).trans (h.ref j u hu)⟩
def zeros8 : List Value := List.replicate 8 (.int .u32 0)
def zeros4 : List Value := List.replicate 4 (.int .u32 0)
theorem Tryd.ag_w8 : AgTy Tryd.prog 30 zeros8.toArray 8 := ⟨by kernel_rfl, by kernel_rfl, by simp [zeros8]⟩
theorem Tryd.ag_w4 : AgTy Tryd.prog 63 zeros4.toArray 4 := ⟨by kernel_rfl, by kernel_rfl, by simp [zeros4]⟩
def St.va (s : St) : List Value := wvs [s.a, s.b, s.c, s.d]
def St.ve (s : St) : List Value := wvs [s.e, s.f, s.g, s.h]
def St.vals (s : St) : List Value := wvs s.list
theorem St.vals_eq (s : St) : s.vals = s.va ++ s.ve := rfl
theorem wvs_len (l : List Nat) : (wvs l).length = l.length := by simp [wvs]
theorem wvs_get {l : List Nat} {i : Nat} (h : i < l.length) : (wvs l)[i]? = some (wv (nth l i)) := by
  unfold wvs nth
  rw [List.getElem?_map, List.getElem?_eq_getElem h]
  rfl
theorem wvs_one (l : List Nat) : ∀ u ∈ wvs l, u.oneCell' = true := by
  intro u hu
  obtain ⟨x, _, rfl⟩ := List.mem_map.1 hu
  rfl
theorem shaK_len : shaK.length = 64 := rfl
theorem shaK_lt : ∀ x ∈ shaK, x < 4294967296 := by decide
theorem run_index_shaK (t : Nat) (h : t < 64) (w : World) : (Instr.index 54 (.agg (wvs shaK).toArray) (.int .i64 (t : Int))).run Tryd.prog w = .ok (.int .u32 (nth shaK t : Int)) w := by
  have hu : Tryd.prog.underlying 54 = some (.array 64 29) := by kernel_rfl
  have hi : (Tryd.prog.info? 29).map (·.size) = some 1 := by kernel_rfl
  obtain ⟨i, hi, hs⟩ := Option.map_eq_some_iff.1 hi
  have h1 : (0 : Int) ≤ (t : Int) ∧ (t : Int) < 64 := by omega
  have hg : (wvs shaK)[t]? = some (wv (nth shaK t)) := wvs_get (by rw [shaK_len]; exact h)
  simp [Instr.index, asIntOf, run_underlying hu, sizeOf, typeInfo, hi, hs, part, h, hg]
  rfl
theorem mix_q (x : Nat) (i j k : Int) (w : World) (m : Nat) (hx : x < 4294967296) (hi : 1 ≤ i ∧ i ≤ 31) (hj : 1 ≤ j ∧ j ≤ 31) (hk : 1 ≤ k ∧ k ≤ 31) :
    Calls Tryd.prog 37 #[.int .u32 x, .int .i64 i, .int .i64 j, .int .i64 k] (w.drewN m) fun e w'' => e = .returned (.int .u32 (mix3 x i.toNat j.toNat k.toNat : Nat)) ∧ ∃ m, w'' = w.drewN m := by
  obtain ⟨i, rfl⟩ := Int.eq_ofNat_of_zero_le (show 0 ≤ i by omega)
  obtain ⟨j, rfl⟩ := Int.eq_ofNat_of_zero_le (show 0 ≤ j by omega)
  obtain ⟨k, rfl⟩ := Int.eq_ofNat_of_zero_le (show 0 ≤ k by omega)
  simp only [Int.toNat_natCast]
  exact (mix_any x i j k _ hx (by omega) (by omega) (by omega)).mono fun _ _ ⟨he, hk⟩ => ⟨he, m, hk.symm⟩
theorem ones32 : (if IntKind.u32.signed = true then (-1 : Int) else IntKind.u32.max) = 4294967295 := by decide
theorem ch_bits (e f g : Nat) (he : e < 4294967296) (hf : f < 4294967296) (hg : g < 4294967296) :
    bits .xor .u32 (bits .and .u32 (e : Int) (f : Int)) (bits .and .u32 (bits .xor .u32 (if IntKind.u32.signed = true then (-1 : Int) else IntKind.u32.max) (e : Int)) (g : Int)) = ((chf e f g : Nat) : Int) := by
  have h1 : bits .xor .u32 4294967295 (e : Int) = ((4294967295 - e : Nat) : Int) := by
    have := u32_xor_n 4294967295 e (by omega) he
    rw [Nat.xor_comm, nat_xor_ones 32 e he] at this
    exact this
  rw [ones32, h1, u32_and_n _ _ he hf, u32_and_n _ _ (by omega) hg, u32_xor_n _ _ (and_lt32 hf) (and_lt32 hg)]
  rfl
theorem maj_bits (a b c : Nat) (ha : a < 4294967296) (hb : b < 4294967296) (hc : c < 4294967296) :
    bits .xor .u32 (bits .xor .u32 (bits .and .u32 (a : Int) (b : Int)) (bits .and .u32 (a : Int) (c : Int))) (bits .and .u32 (b : Int) (c : Int)) = ((maj a b c : Nat) : Int) := by
  rw [u32_and_n _ _ ha hb, u32_and_n _ _ ha hc, u32_and_n _ _ hb hc, u32_xor_n _ _ (and_lt32 hb) (and_lt32 hc), u32_xor_n _ _ (xor_lt32 (and_lt32 hb) (and_lt32 hc)) (and_lt32 hc)]
  rfl
theorem x_bits (a b c d e f g h k w : Nat) (he : e < 4294967296) (hf : f < 4294967296) (hg : g < 4294967296) :
    (((h : Int) + ((mix3 e 6 11 25 : Nat) : Int) + bits .xor .u32 (bits .and .u32 (e : Int) (f : Int)) (bits .and .u32 (bits .xor .u32 (if IntKind.u32.signed = true then (-1 : Int) else IntKind.u32.max) (e : Int)) (g : Int)) + (k : Int)) % 4294967296 + (w : Int)) % 4294967296 = ((stX ⟨a, b, c, d, e, f, g, h⟩ k w : Nat) : Int) := by
  rw [ch_bits e f g he hf hg]
  unfold stX add32
  simp only [Int.natCast_emod, Int.natCast_add]
  omega
theorem y_bits (a b c d e f g h : Nat) (ha : a < 4294967296) (hb : b < 4294967296) (hc : c < 4294967296) :
    (((mix3 a 2 13 22 : Nat) : Int) + bits .xor .u32 (bits .xor .u32 (bits .and .u32 (a : Int) (b : Int)) (bits .and .u32 (a : Int) (c : Int))) (bits .and .u32 (b : Int) (c : Int))) % 4294967296 = ((stY ⟨a, b, c, d, e, f, g, h⟩ : Nat) : Int) := by
  rw [maj_bits a b c ha hb hc]
  unfold stY add32
  simp only [Int.natCast_emod, Int.natCast_add]
  omega
end Go.Proofs.YthmhmjdppldmiaaDoor
