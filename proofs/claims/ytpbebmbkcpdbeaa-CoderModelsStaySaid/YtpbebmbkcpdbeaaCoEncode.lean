/-
  Encode of the coder: what it returns. No statement is proved here.
-/
import Derived.Test.YtpbebmbkcpdbeaaCoCode
import Derived.Outline
namespace Go.Proofs.Ytpbebmbkcpdbeaa
open Go.RowKit
set_option linter.unusedVariables false

def coEncode (prior data : List UInt8) : List UInt8 × Int :=
  if 65536 < prior.length ∨ 65536 < data.length then ([], 2)
  else (enc (data.length : Int) ++ (if (coCode prior data).length < data.length then [1] ++ coCode prior data else [0] ++ data), 0)
def coPairV (p : List UInt8 × Int) : Value := .tuple #[.string ⟨p.1.toArray⟩, .int .i64 p.2]

theorem rd_one (w : World) (b : UInt8) (t : TypeId) : Rd (w.alloc (Obj.cells #[bc b] t)) (w.heap.size + 1) 1 (some ⟨w.heap.size, 0, none⟩) 1 1 (bcs [b]) := by
  refine ⟨rfl, Nat.le_refl _, by decide, fun _ => ⟨w.heap.size, 0, rfl, by omega, fun j u hu => ?_⟩⟩
  rw [Nat.zero_add]
  exact (Arr.new w t [bc b]).cell hu
theorem cat_two (a b : List UInt8) : (⟨a.toArray⟩ : ByteArray) ++ ⟨b.toArray⟩ = ⟨(a ++ b).toArray⟩ := by
  apply ByteArray.ext
  simp
set_option maxRecDepth 100000 in
set_option maxHeartbeats 2000000 in
theorem encode_any (prior data : List UInt8) (hp : prior.length ≤ 140737488351232) (hd : data.length ≤ 140737488351232) (w : World) :
    Calls Try.prog 12 #[.string ⟨prior.toArray⟩, .string ⟨data.toArray⟩] w fun e w' => e = .returned (coPairV (coEncode prior data)) ∧ Below w.heap.size w w' := by
  unfold coEncode coPairV
  by_cases h1 : 65536 < prior.length
  · rw [if_pos (Or.inl h1)]
    go_enter Try.func12, Try.ntmps12
    go_wp2_with fail
    go_ret2
    exact ⟨rfl, Below.refl _ _⟩
  · by_cases h2 : 65536 < data.length
    · rw [if_pos (Or.inr h2)]
      go_enter Try.func12, Try.ntmps12
      go_wp2_with fail
      go_ret2
      exact ⟨rfl, Below.refl _ _⟩
    · rw [if_neg (by omega)]
      have hi := int_any (data.length : Int) w (by omega) (by omega)
      have hcl : (coCode prior data).length ≤ 10000000 := by
        unfold coCode coEnd
        have h3 := coRun_len (coTrain coNew (coAll prior), coStart) (coAll data)
        have hal : (coAll data).length = 8 * data.length := by rw [← coUpto_all, List.length_map, coUpto_length]
        rw [hal] at h3
        have h0 : ((coTrain coNew (coAll prior), coStart) : List Nat × CoIv).2.out.length = 0 := rfl
        rw [h0] at h3
        split
        · rw [List.length_append]
          simp only [List.length_singleton]
          omega
        · omega
      have HCO := Lib.hid (fun w' => code_any prior data hp (by omega) w')
      generalize coCode prior data = C at *
      have hel := enc_len (data.length : Int)
      obtain ⟨R, hR⟩ : ∃ R, R = enc (data.length : Int) ++ (if C.length < data.length then [1] ++ C else [0] ++ data) := ⟨_, rfl⟩
      rw [← hR]
      have HR := Lib.hid hR
      clear hR
      go_enter Try.func12, Try.ntmps12
      go_wp2_with fail
      refine hi.mono ?_
      rintro e w1 hret
      obtain ⟨A, c, rfl, _, hrd, hb⟩ := hret.open
      clear hret hi
      generalize enc (data.length : Int) = EN at *
      go_wp2_with (with_reducible refine convStr (.tmp 18) EN Try.sl_u8.und Try.und_u8 Try.und_str (wn rfl) rfl rfl hrd ?_)
      refine (HCO.out w1).mono ?_
      rintro e w2 ⟨rfl, b2⟩
      replace hb := hb.trans (b2.mono hb.size)
      clear b2 hrd
      by_cases h3 : C.length < data.length
      · have hrd5 : Rd (w2.alloc (Obj.cells #[Value.int .u8 1] 5)) (w2.heap.size + 1) 1 (some ⟨w2.heap.size, 0, none⟩) 1 1 (bcs [1]) := rd_one w2 1 _
        replace hb := hb.alloc hb.size (Obj.cells #[Value.int .u8 1] 5)
        go_wp2_with (with_reducible refine convStr (.tmp 29) [1] Try.sl_u8.und Try.und_u8 Try.und_str (wn rfl) rfl rfl hrd5 ?_)
        go_ret2
        refine ⟨?_, hb⟩
        have e : (⟨EN.toArray⟩ : ByteArray) ++ ⟨#[1]⟩ ++ ⟨C.toArray⟩ = ⟨R.toArray⟩ := by
          rw [HR.out, if_pos h3, show (⟨#[1]⟩ : ByteArray) = ⟨([1] : List UInt8).toArray⟩ from rfl, cat_two, cat_two, List.append_assoc]
        exact congrArg (fun z => Ending.returned (.tuple #[.string z, .int .i64 0])) e
      · have hrd5 : Rd (w2.alloc (Obj.cells #[Value.int .u8 0] 5)) (w2.heap.size + 1) 1 (some ⟨w2.heap.size, 0, none⟩) 1 1 (bcs [0]) := rd_one w2 0 _
        replace hb := hb.alloc hb.size (Obj.cells #[Value.int .u8 0] 5)
        go_wp2_with (with_reducible refine convStr (.tmp 35) [0] Try.sl_u8.und Try.und_u8 Try.und_str (wn rfl) rfl rfl hrd5 ?_)
        go_ret2
        refine ⟨?_, hb⟩
        have e : (⟨EN.toArray⟩ : ByteArray) ++ ⟨#[0]⟩ ++ ⟨data.toArray⟩ = ⟨R.toArray⟩ := by
          rw [HR.out, if_neg h3, show (⟨#[0]⟩ : ByteArray) = ⟨([0] : List UInt8).toArray⟩ from rfl, cat_two, cat_two, List.append_assoc]
        exact congrArg (fun z => Ending.returned (.tuple #[.string z, .int .i64 0])) e
end Go.Proofs.Ytpbebmbkcpdbeaa
