/-
  CoderDecodesAsSpecified: Decode returns what the specification returns.
-/
import Derived.Test.YtpbebmbkcpdbeaaCoSanity
import Derived.Outline
namespace Go.Proofs.Ytpbebmbkcpdbeaa
open Go.RowKit
set_option linter.unusedVariables false

set_option maxRecDepth 100000 in
set_option maxHeartbeats 4000000 in
theorem walk_CoderDecodesAsSpecified (A0 A1 : List UInt8) (w : World) (h0 : A0.length ≤ 140737488351232) (h1 : A1.length ≤ 140737488351232) :
    Calls Try.prog 4 #[.string ⟨A0.toArray⟩, .string ⟨A1.toArray⟩] w (RetT w) := by
  have hb : Below w.heap.size w w := Below.refl _ _
  obtain ⟨n, u, er, hd⟩ : ∃ n u er, dec A1 = (n, u, er) := ⟨_, _, _, rfl⟩
  have HGI := Lib.hid (fun A n c B w hr => refGetInt_any A1 A n c B w hr)
  rw [hd] at HGI
  have hf := dec_facts hd
  clear hd
  have hn1 : -9223372036854775808 ≤ n ∧ n ≤ 9223372036854775807 := by
    rcases hf with h | h
    · exact ⟨h.2.2.2.2.1, h.2.2.2.2.2⟩
    · omega
  clear hf
  by_cases hs : A0.length ≤ 700 ∧ A1.length ≤ 700
  · have hdd : decide (A0.length ≤ 700 ∧ A1.length ≤ 700) = true := by simpa using hs
    by_cases he : er = 0
    · subst he
      by_cases hn2 : 2000 < n
      · by_cases hn3 : n ≤ 65536
        · skip
          go_enter Try.func4, Try.ntmps4
          go_wp2_with (with_reducible refine convBsR (.tmp 13) A1 Try.und_str Try.sl_u8.und Try.und_u8 (by unfold maxLen; omega) (wn rfl) rfl rfl ?_)
          intro c w1 hrd hsz hb1
          clear hb hsz
          have hb := hb1
          clear hb1
          go_wp2_with fail
          refine (HGI.out _ _ _ _ _ hrd).mono ?_
          rintro e w2 ⟨rfl, rfl⟩
          clear hrd HGI
          go_wp2_with fail
          refine (small_any A0 A1 _).mono ?_
          rintro e w1 ⟨rfl, rfl⟩
          rw [hdd]
          go_wp2_with fail
          refine (sanity_any _).mono ?_
          rintro e wS ⟨rfl, bS⟩
          replace hb := hb.trans (bS.mono hb.size)
          clear bS
          go_wp2_with fail
          go_ret
          exact ⟨by first | rfl | (simp; done) | (simp; omega), hb⟩
        · skip
          have HE := Lib.hid (fun w => decodeText_any A0 A1 h0 h1 w)
          have HR := Lib.hid (fun w => refDecodeText_any A0 A1 h0 h1 w)
          unfold coPairV at HE HR
          generalize coDec A0 A1 = E at *
          obtain ⟨el, en⟩ := E
          simp only at HE HR
          go_enter Try.func4, Try.ntmps4
          go_wp2_with (with_reducible refine convBsR (.tmp 13) A1 Try.und_str Try.sl_u8.und Try.und_u8 (by unfold maxLen; omega) (wn rfl) rfl rfl ?_)
          intro c w1 hrd hsz hb1
          clear hb hsz
          have hb := hb1
          clear hb1
          go_wp2_with fail
          refine (HGI.out _ _ _ _ _ hrd).mono ?_
          rintro e w2 ⟨rfl, rfl⟩
          clear hrd HGI
          go_wp2_with fail
          refine (small_any A0 A1 _).mono ?_
          rintro e w1 ⟨rfl, rfl⟩
          rw [hdd]
          go_wp2_with fail
          refine (HE.out _).mono ?_
          rintro e w3 ⟨rfl, b3⟩
          replace hb := hb.trans (b3.mono hb.size)
          clear b3
          go_wp2_with fail
          refine (HR.out _).mono ?_
          rintro e w4 ⟨rfl, b4⟩
          replace hb := hb.trans (b4.mono hb.size)
          clear b4
          go_wp2_with fail
          refine (sanity_any _).mono ?_
          rintro e wS ⟨rfl, bS⟩
          replace hb := hb.trans (bS.mono hb.size)
          clear bS
          go_wp2_with fail
          go_ret
          exact ⟨by first | rfl | (simp; done) | (simp; omega), hb⟩
      · skip
        have HE := Lib.hid (fun w => decodeText_any A0 A1 h0 h1 w)
        have HR := Lib.hid (fun w => refDecodeText_any A0 A1 h0 h1 w)
        unfold coPairV at HE HR
        generalize coDec A0 A1 = E at *
        obtain ⟨el, en⟩ := E
        simp only at HE HR
        go_enter Try.func4, Try.ntmps4
        go_wp2_with (with_reducible refine convBsR (.tmp 13) A1 Try.und_str Try.sl_u8.und Try.und_u8 (by unfold maxLen; omega) (wn rfl) rfl rfl ?_)
        intro c w1 hrd hsz hb1
        clear hb hsz
        have hb := hb1
        clear hb1
        go_wp2_with fail
        refine (HGI.out _ _ _ _ _ hrd).mono ?_
        rintro e w2 ⟨rfl, rfl⟩
        clear hrd HGI
        go_wp2_with fail
        refine (small_any A0 A1 _).mono ?_
        rintro e w1 ⟨rfl, rfl⟩
        rw [hdd]
        go_wp2_with fail
        refine (HE.out _).mono ?_
        rintro e w3 ⟨rfl, b3⟩
        replace hb := hb.trans (b3.mono hb.size)
        clear b3
        go_wp2_with fail
        refine (HR.out _).mono ?_
        rintro e w4 ⟨rfl, b4⟩
        replace hb := hb.trans (b4.mono hb.size)
        clear b4
        go_wp2_with fail
        refine (sanity_any _).mono ?_
        rintro e wS ⟨rfl, bS⟩
        replace hb := hb.trans (bS.mono hb.size)
        clear bS
        go_wp2_with fail
        go_ret
        exact ⟨by first | rfl | (simp; done) | (simp; omega), hb⟩
    · skip
      have HE := Lib.hid (fun w => decodeText_any A0 A1 h0 h1 w)
      have HR := Lib.hid (fun w => refDecodeText_any A0 A1 h0 h1 w)
      unfold coPairV at HE HR
      generalize coDec A0 A1 = E at *
      obtain ⟨el, en⟩ := E
      simp only at HE HR
      go_enter Try.func4, Try.ntmps4
      go_wp2_with (with_reducible refine convBsR (.tmp 13) A1 Try.und_str Try.sl_u8.und Try.und_u8 (by unfold maxLen; omega) (wn rfl) rfl rfl ?_)
      intro c w1 hrd hsz hb1
      clear hb hsz
      have hb := hb1
      clear hb1
      go_wp2_with fail
      refine (HGI.out _ _ _ _ _ hrd).mono ?_
      rintro e w2 ⟨rfl, rfl⟩
      clear hrd HGI
      go_wp2_with fail
      refine (small_any A0 A1 _).mono ?_
      rintro e w1 ⟨rfl, rfl⟩
      rw [hdd]
      go_wp2_with fail
      refine (HE.out _).mono ?_
      rintro e w3 ⟨rfl, b3⟩
      replace hb := hb.trans (b3.mono hb.size)
      clear b3
      go_wp2_with fail
      refine (HR.out _).mono ?_
      rintro e w4 ⟨rfl, b4⟩
      replace hb := hb.trans (b4.mono hb.size)
      clear b4
      go_wp2_with fail
      refine (sanity_any _).mono ?_
      rintro e wS ⟨rfl, bS⟩
      replace hb := hb.trans (bS.mono hb.size)
      clear bS
      go_wp2_with fail
      go_ret
      exact ⟨by first | rfl | (simp; done) | (simp; omega), hb⟩
  · have hdd : decide (A0.length ≤ 700 ∧ A1.length ≤ 700) = false := by simpa using hs
    go_enter Try.func4, Try.ntmps4
    go_wp2_with (with_reducible refine convBsR (.tmp 13) A1 Try.und_str Try.sl_u8.und Try.und_u8 (by unfold maxLen; omega) (wn rfl) rfl rfl ?_)
    intro c w1 hrd hsz hb1
    clear hb hsz
    have hb := hb1
    clear hb1
    go_wp2_with fail
    refine (HGI.out _ _ _ _ _ hrd).mono ?_
    rintro e w2 ⟨rfl, rfl⟩
    clear hrd HGI
    go_wp2_with fail
    refine (small_any A0 A1 _).mono ?_
    rintro e w1 ⟨rfl, rfl⟩
    rw [hdd]
    go_wp2_with fail
    refine (sanity_any _).mono ?_
    rintro e wS ⟨rfl, bS⟩
    replace hb := hb.trans (bS.mono hb.size)
    clear bS
    go_wp2_with fail
    go_ret
    exact ⟨by first | rfl | (simp; done) | (simp; omega), hb⟩
end Go.Proofs.Ytpbebmbkcpdbeaa
