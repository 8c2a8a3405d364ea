/-
  Rotations of words, and the exclusive or of three: what the calls return.
-/
import Derived.Test.YthmhmjdppldmiaaDoorRows
import Derived.Test.YthmhmjdppldmiaaDoorHashSpec
import Derived.Test.YthmhmjdppldmiaaDoorQuiet
import Derived.Test.YthmhmjdppldmiaaDoorBase
namespace Go.Proofs.YthmhmjdppldmiaaDoor
open Go.RowKit

theorem rotl_bits (x n : Nat) (hx : x < 4294967296) (h1 : 1 ≤ n) (h2 : n ≤ 31) : bits .or .u32 ((x : Int) * 2 ^ (32 - n) % 4294967296) ((x : Int) / 2 ^ (32 - (32 - n))) = (rotr x n : Nat) := by
  have e1 : ((x : Int) * 2 ^ (32 - n) % 4294967296) = ((x * 2 ^ (32 - n) % 4294967296 : Nat) : Int) := by
    rw [Int.natCast_emod, Int.natCast_mul, Int.natCast_pow]; rfl
  have e2 : ((x : Int) / 2 ^ (32 - (32 - n))) = ((x / 2 ^ n : Nat) : Int) := by
    rw [show 32 - (32 - n) = n from by omega, Int.natCast_ediv, Int.natCast_pow]; rfl
  have h3 : x / 2 ^ n < 4294967296 := Nat.lt_of_le_of_lt (Nat.div_le_self _ _) hx
  rw [e1, e2, u32_or_n _ _ (Nat.mod_lt _ (by omega)) h3, Nat.or_comm, rotr_or x n hx h2]
set_option maxRecDepth 100000 in
set_option maxHeartbeats 400000 in
theorem rotl_any (x n : Nat) (w : World) (hx : x < 4294967296) (h1 : 1 ≤ n) (h2 : n ≤ 31) :
    Calls Tryd.prog 40 #[.int .u32 x, .int .i64 (-(n : Int))] w fun e w' => e = .returned (.int .u32 (rotr x n : Nat)) ∧ w = w' := by
  have e1 : IntKind.u64.wrap (-(n : Int)) = ((18446744073709551616 - n : Nat) : Int) := by rw [IntKind.wrap_u64]; omega
  have e2 : bits .and .u64 (((18446744073709551616 - n : Nat) : Int)) 31 = ((32 - n : Nat) : Int) := by
    rw [u64_and31 _ (by omega)]; congr 1; omega
  go_enter Tryd.func40, Tryd.ntmps40
  go_wp2
  go_ret
  exact ⟨by rw [rotl_bits x n hx h1 h2]; rfl, rfl⟩
set_option maxRecDepth 100000 in
set_option maxHeartbeats 400000 in
theorem mix_any (x i j k : Nat) (w : World) (hx : x < 4294967296) (hi : 1 ≤ i ∧ i ≤ 31) (hj : 1 ≤ j ∧ j ≤ 31) (hk : 1 ≤ k ∧ k ≤ 31) :
    Calls Tryd.prog 37 #[.int .u32 x, .int .i64 i, .int .i64 j, .int .i64 k] w fun e w' => e = .returned (.int .u32 (mix3 x i j k : Nat)) ∧ w = w' := by
  have H1 := u32_xor_n (rotr x i) (rotr x j) (rotr_lt x i hx hi.2) (rotr_lt x j hx hj.2)
  have H2 := u32_xor_n (rotr x i ^^^ rotr x j) (rotr x k) (xor_lt32 (rotr_lt x i hx hi.2) (rotr_lt x j hx hj.2)) (rotr_lt x k hx hk.2)
  go_enter Tryd.func37, Tryd.ntmps37
  go_wp2_with fail
  refine (rotl_any x i _ hx hi.1 hi.2).mono ?_
  rintro e _ ⟨rfl, rfl⟩
  go_wp2_with fail
  refine (rotl_any x j _ hx hj.1 hj.2).mono ?_
  rintro e _ ⟨rfl, rfl⟩
  go_wp2_with fail
  refine (rotl_any x k _ hx hk.1 hk.2).mono ?_
  rintro e _ ⟨rfl, rfl⟩
  go_wp2_with fail
  go_ret
  exact ⟨rfl, rfl⟩
theorem rotr_bits (x n : Nat) (hx : x < 4294967296) (h2 : n ≤ 31) : bits .or .u32 ((x : Int) / 2 ^ n) ((x : Int) * 2 ^ (32 - n) % 4294967296) = (rotr x n : Nat) := by
  have e1 : ((x : Int) * 2 ^ (32 - n) % 4294967296) = ((x * 2 ^ (32 - n) % 4294967296 : Nat) : Int) := by
    rw [Int.natCast_emod, Int.natCast_mul, Int.natCast_pow]; rfl
  have e2 : ((x : Int) / 2 ^ n) = ((x / 2 ^ n : Nat) : Int) := by rw [Int.natCast_ediv, Int.natCast_pow]; rfl
  have h3 : x / 2 ^ n < 4294967296 := Nat.lt_of_le_of_lt (Nat.div_le_self _ _) hx
  rw [e1, e2, u32_or_n _ _ h3 (Nat.mod_lt _ (by omega)), rotr_or x n hx h2]
set_option maxRecDepth 100000 in
set_option maxHeartbeats 400000 in
theorem refRotr_any (x n : Nat) (w : World) (hx : x < 4294967296) (h1 : 1 ≤ n) (h2 : n ≤ 31) :
    Calls Tryd.prog 29 #[.int .u32 x, .int .i64 n] w fun e w' => e = .returned (.int .u32 (rotr x n : Nat)) ∧ ∃ k, w' = w.drewN k := by
  go_enter Tryd.func29, Tryd.ntmps29
  go_wp2
  go_quiet (fail)
  go_wp2
  go_ret
  exact ⟨by rw [rotr_bits x n hx h2]; rfl, nq, rfl⟩
end Go.Proofs.YthmhmjdppldmiaaDoor
