/-
  The reference's Encode: what it returns. No statement is proved here.
-/
import Derived.Test.YtpbebmbkcpdbeaaCoRCode
import Derived.Outline
namespace Go.Proofs.Ytpbebmbkcpdbeaa
open Go.RowKit
set_option linter.unusedVariables false

theorem coCode_len (prior data : List UInt8) : (coCode prior data).length ≤ 40 * data.length + 1 := by
  unfold coCode coEnd
  have h3 := coRun_len (coTrain coNew (coAll prior), coStart) (coAll data)
  rw [coAll_len] at h3
  have h0 : ((coTrain coNew (coAll prior), coStart) : List Nat × CoIv).2.out.length = 0 := rfl
  rw [h0] at h3
  split
  · rw [List.length_append]
    simp only [List.length_singleton]
    omega
  · omega
set_option maxRecDepth 100000 in
set_option maxHeartbeats 2000000 in
theorem refEncode_any (prior data : List UInt8) (hp : prior.length ≤ 140737488351232) (hd : data.length ≤ 140737488351232) (w : World) :
    Calls Try.prog 13 #[.string ⟨prior.toArray⟩, .string ⟨data.toArray⟩] w fun e w' => e = .returned (coPairV (coEncode prior data)) ∧ Below w.heap.size w w' := by
  unfold coEncode coPairV
  by_cases h1 : 65536 < prior.length
  · rw [if_pos (Or.inl h1)]
    go_enter Try.func13, Try.ntmps13
    go_wp2_with fail
    go_ret2
    exact ⟨rfl, Below.refl _ _⟩
  · by_cases h2 : 65536 < data.length
    · rw [if_pos (Or.inr h2)]
      go_enter Try.func13, Try.ntmps13
      go_wp2_with fail
      go_ret2
      exact ⟨rfl, Below.refl _ _⟩
    · rw [if_neg (by omega)]
      have hi := refInt_any (data.length : Int) w (by omega) (by omega)
      have hcl := coCode_len prior data
      have HCO := Lib.hid (fun w' => refCode_any prior data hp (by omega) w')
      generalize coCode prior data = C at *
      have hel := enc_len (data.length : Int)
      obtain ⟨R, hR⟩ : ∃ R, R = enc (data.length : Int) ++ (if C.length < data.length then [1] ++ C else [0] ++ data) := ⟨_, rfl⟩
      rw [← hR]
      have HR := Lib.hid hR
      clear hR
      go_enter Try.func13, Try.ntmps13
      go_wp2_with fail
      refine hi.mono ?_
      rintro e w1 hret
      obtain ⟨A, c, rfl, _, hrd, hb⟩ := hret.open
      clear hret hi
      generalize enc (data.length : Int) = EN at *
      go_wp2_with (with_reducible refine convStr (.tmp 18) EN Try.sl_u8.und Try.und_u8 Try.und_str (wn rfl) rfl rfl hrd ?_)
      refine (HCO.out w1).mono ?_
      rintro e w2 ⟨rfl, b2⟩
      replace hb := hb.trans (b2.mono hb.size)
      clear b2 hrd
      by_cases h3 : C.length < data.length
      · go_wp2_with fail
        go_ret2
        refine ⟨?_, hb⟩
        have e : (⟨EN.toArray⟩ : ByteArray) ++ ⟨#[1]⟩ ++ ⟨C.toArray⟩ = ⟨R.toArray⟩ := by
          rw [HR.out, if_pos h3, show (⟨#[1]⟩ : ByteArray) = ⟨([1] : List UInt8).toArray⟩ from rfl, cat_two, cat_two, List.append_assoc]
        exact congrArg (fun z => Ending.returned (.tuple #[.string z, .int .i64 0])) e
      · go_wp2_with fail
        go_ret2
        refine ⟨?_, hb⟩
        have e : (⟨EN.toArray⟩ : ByteArray) ++ ⟨#[0]⟩ ++ ⟨data.toArray⟩ = ⟨R.toArray⟩ := by
          rw [HR.out, if_neg h3, show (⟨#[0]⟩ : ByteArray) = ⟨([0] : List UInt8).toArray⟩ from rfl, cat_two, cat_two, List.append_assoc]
        exact congrArg (fun z => Ending.returned (.tuple #[.string z, .int .i64 0])) e
end Go.Proofs.Ytpbebmbkcpdbeaa
