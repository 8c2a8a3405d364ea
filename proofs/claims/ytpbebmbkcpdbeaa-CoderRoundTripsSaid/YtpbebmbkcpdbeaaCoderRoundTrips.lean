/-
  CoderRoundTrips: decoding an encoding returns the data, and what Decode accepts is the encoding of its result.
-/
import Derived.Test.YtpbebmbkcpdbeaaCoSanity
import Derived.Outline
namespace Go.Proofs.Ytpbebmbkcpdbeaa
open Go.RowKit
set_option linter.unusedVariables false

set_option maxRecDepth 100000 in
set_option maxHeartbeats 4000000 in
theorem walk_CoderRoundTrips (A0 A1 A2 : List UInt8) (w : World) (h0 : A0.length ≤ 140737488351232) (h1 : A1.length ≤ 140737488351232) (h2 : A2.length ≤ 140737488351232) :
    Calls Try.prog 6 #[.string ⟨A0.toArray⟩, .string ⟨A1.toArray⟩, .string ⟨A2.toArray⟩] w (RetT w) := by
  have hb : Below w.heap.size w w := Below.refl _ _
  obtain ⟨n, u, er, hd⟩ : ∃ n u er, dec A2 = (n, u, er) := ⟨_, _, _, rfl⟩
  have HGI := Lib.hid (fun A n c B w hr => refGetInt_any A2 A n c B w hr)
  rw [hd] at HGI
  have hf := dec_facts hd
  clear hd
  have hn1 : -9223372036854775808 ≤ n ∧ n ≤ 9223372036854775807 := by
    rcases hf with h | h
    · exact ⟨h.2.2.2.2.1, h.2.2.2.2.2⟩
    · omega
  clear hf
  by_cases hs : A0.length ≤ 700 ∧ A1.length ≤ 700
  · have hdd : decide (A0.length ≤ 700 ∧ A1.length ≤ 700) = true := by simpa using hs
    by_cases hl : 700 < A2.length
    · skip
      go_enter Try.func6, Try.ntmps6
      go_wp2_with (with_reducible refine convBsR (.tmp 19) A2 Try.und_str Try.sl_u8.und Try.und_u8 (by unfold maxLen; omega) (wn rfl) rfl rfl ?_)
      intro c w1 hrd hsz hb1
      clear hb hsz
      have hb := hb1
      clear hb1
      go_wp2_with fail
      refine (HGI.out _ _ _ _ _ hrd).mono ?_
      rintro e w2 ⟨rfl, rfl⟩
      clear hrd HGI
      go_wp2_with fail
      refine (small_any A0 A1 _).mono ?_
      rintro e w1 ⟨rfl, rfl⟩
      rw [hdd]
      go_wp2_with fail
      refine (sanity_any _).mono ?_
      rintro e wS ⟨rfl, bS⟩
      replace hb := hb.trans (bS.mono hb.size)
      clear bS
      go_wp2_with fail
      go_ret
      exact ⟨by first | rfl | (simp; done) | (simp; omega), hb⟩
    · skip
      by_cases he : er = 0
      · subst he
        by_cases hn2 : 2000 < n
        · by_cases hn3 : n ≤ 65536
          · skip
            go_enter Try.func6, Try.ntmps6
            go_wp2_with (with_reducible refine convBsR (.tmp 19) A2 Try.und_str Try.sl_u8.und Try.und_u8 (by unfold maxLen; omega) (wn rfl) rfl rfl ?_)
            intro c w1 hrd hsz hb1
            clear hb hsz
            have hb := hb1
            clear hb1
            go_wp2_with fail
            refine (HGI.out _ _ _ _ _ hrd).mono ?_
            rintro e w2 ⟨rfl, rfl⟩
            clear hrd HGI
            go_wp2_with fail
            refine (small_any A0 A1 _).mono ?_
            rintro e w1 ⟨rfl, rfl⟩
            rw [hdd]
            go_wp2_with fail
            refine (sanity_any _).mono ?_
            rintro e wS ⟨rfl, bS⟩
            replace hb := hb.trans (bS.mono hb.size)
            clear bS
            go_wp2_with fail
            go_ret
            exact ⟨by first | rfl | (simp; done) | (simp; omega), hb⟩
          · skip
            have hE := coEncode_small (prior := A0) (data := A1) (by omega) (by omega)
            have hel : ((coEncode A0 A1).1).length ≤ 1000 := by
              rw [hE]
              have h5 := enc_len (A1.length : Int)
              rw [List.length_append]
              split
              · rw [List.length_append, List.length_singleton]; omega
              · rw [List.length_append, List.length_singleton]; omega
            have HE := Lib.hid (fun w => encode_at (show coEncode A0 A1 = ((coEncode A0 A1).1, 0) by rw [hE]) h0 h1 w)
            have HD := Lib.hid (fun w => decode_at (coDec_enc (prior := A0) (data := A1) (by omega) (by omega)) h0 (by omega) w)
            clear hE hel
            generalize (coEncode A0 A1).1 = E at *
            have HC := Lib.hid (fun w => decode_at (show coDec A0 A2 = ((coDec A0 A2).1, (coDec A0 A2).2) from rfl) h0 h2 w)
            have hC0 := Lib.hid (coDec_nil (prior := A0) (text := A2))
            have hC1 := Lib.hid (coDec_back (prior := A0) (text := A2))
            have HA := Lib.hid (fun (h : (coDec A0 A2).2 = 0) (hl : (coDec A0 A2).1.length ≤ 140737488351232) w => encode_at (coDec_back h) h0 hl w)
            have hcl := coDec_le A0 A2
            generalize (coDec A0 A2).1 = C at *
            generalize (coDec A0 A2).2 = er2 at *
            go_enter Try.func6, Try.ntmps6
            go_wp2_with (with_reducible refine convBsR (.tmp 19) A2 Try.und_str Try.sl_u8.und Try.und_u8 (by unfold maxLen; omega) (wn rfl) rfl rfl ?_)
            intro c w1 hrd hsz hb1
            clear hb hsz
            have hb := hb1
            clear hb1
            go_wp2_with fail
            refine (HGI.out _ _ _ _ _ hrd).mono ?_
            rintro e w2 ⟨rfl, rfl⟩
            clear hrd HGI
            go_wp2_with fail
            refine (small_any A0 A1 _).mono ?_
            rintro e w1 ⟨rfl, rfl⟩
            rw [hdd]
            go_wp2_with fail
            refine (HE.out _).mono ?_
            rintro e w3 ⟨rfl, b3⟩
            replace hb := hb.trans (b3.mono hb.size)
            clear b3
            go_wp2_with fail
            refine (HD.out _).mono ?_
            rintro e w4 ⟨rfl, b4⟩
            replace hb := hb.trans (b4.mono hb.size)
            clear b4
            by_cases hg : er2 = 0
            · subst hg
              have HA2 := Lib.hid (HA.out rfl (by omega))
              go_wp2_with fail
              refine (HC.out _).mono ?_
              rintro e w5 ⟨rfl, b5⟩
              replace hb := hb.trans (b5.mono hb.size)
              clear b5
              go_wp2_with fail
              refine (HA2.out _).mono ?_
              rintro e w6 ⟨rfl, b6⟩
              replace hb := hb.trans (b6.mono hb.size)
              clear b6
              go_wp2_with fail
              refine (sanity_any _).mono ?_
              rintro e wS ⟨rfl, bS⟩
              replace hb := hb.trans (bS.mono hb.size)
              clear bS
              go_wp2_with fail
              go_ret
              exact ⟨by first | rfl | (simp; done) | (simp; omega), hb⟩
            · have hcn := hC0.out hg
              subst hcn
              go_wp2_with fail
              refine (HC.out _).mono ?_
              rintro e w5 ⟨rfl, b5⟩
              replace hb := hb.trans (b5.mono hb.size)
              clear b5
              go_wp2_with fail
              refine (sanity_any _).mono ?_
              rintro e wS ⟨rfl, bS⟩
              replace hb := hb.trans (bS.mono hb.size)
              clear bS
              go_wp2_with fail
              go_ret
              exact ⟨by first | rfl | (simp; done) | (simp; omega), hb⟩
        · skip
          have hE := coEncode_small (prior := A0) (data := A1) (by omega) (by omega)
          have hel : ((coEncode A0 A1).1).length ≤ 1000 := by
            rw [hE]
            have h5 := enc_len (A1.length : Int)
            rw [List.length_append]
            split
            · rw [List.length_append, List.length_singleton]; omega
            · rw [List.length_append, List.length_singleton]; omega
          have HE := Lib.hid (fun w => encode_at (show coEncode A0 A1 = ((coEncode A0 A1).1, 0) by rw [hE]) h0 h1 w)
          have HD := Lib.hid (fun w => decode_at (coDec_enc (prior := A0) (data := A1) (by omega) (by omega)) h0 (by omega) w)
          clear hE hel
          generalize (coEncode A0 A1).1 = E at *
          have HC := Lib.hid (fun w => decode_at (show coDec A0 A2 = ((coDec A0 A2).1, (coDec A0 A2).2) from rfl) h0 h2 w)
          have hC0 := Lib.hid (coDec_nil (prior := A0) (text := A2))
          have hC1 := Lib.hid (coDec_back (prior := A0) (text := A2))
          have HA := Lib.hid (fun (h : (coDec A0 A2).2 = 0) (hl : (coDec A0 A2).1.length ≤ 140737488351232) w => encode_at (coDec_back h) h0 hl w)
          have hcl := coDec_le A0 A2
          generalize (coDec A0 A2).1 = C at *
          generalize (coDec A0 A2).2 = er2 at *
          go_enter Try.func6, Try.ntmps6
          go_wp2_with (with_reducible refine convBsR (.tmp 19) A2 Try.und_str Try.sl_u8.und Try.und_u8 (by unfold maxLen; omega) (wn rfl) rfl rfl ?_)
          intro c w1 hrd hsz hb1
          clear hb hsz
          have hb := hb1
          clear hb1
          go_wp2_with fail
          refine (HGI.out _ _ _ _ _ hrd).mono ?_
          rintro e w2 ⟨rfl, rfl⟩
          clear hrd HGI
          go_wp2_with fail
          refine (small_any A0 A1 _).mono ?_
          rintro e w1 ⟨rfl, rfl⟩
          rw [hdd]
          go_wp2_with fail
          refine (HE.out _).mono ?_
          rintro e w3 ⟨rfl, b3⟩
          replace hb := hb.trans (b3.mono hb.size)
          clear b3
          go_wp2_with fail
          refine (HD.out _).mono ?_
          rintro e w4 ⟨rfl, b4⟩
          replace hb := hb.trans (b4.mono hb.size)
          clear b4
          by_cases hg : er2 = 0
          · subst hg
            have HA2 := Lib.hid (HA.out rfl (by omega))
            go_wp2_with fail
            refine (HC.out _).mono ?_
            rintro e w5 ⟨rfl, b5⟩
            replace hb := hb.trans (b5.mono hb.size)
            clear b5
            go_wp2_with fail
            refine (HA2.out _).mono ?_
            rintro e w6 ⟨rfl, b6⟩
            replace hb := hb.trans (b6.mono hb.size)
            clear b6
            go_wp2_with fail
            refine (sanity_any _).mono ?_
            rintro e wS ⟨rfl, bS⟩
            replace hb := hb.trans (bS.mono hb.size)
            clear bS
            go_wp2_with fail
            go_ret
            exact ⟨by first | rfl | (simp; done) | (simp; omega), hb⟩
          · have hcn := hC0.out hg
            subst hcn
            go_wp2_with fail
            refine (HC.out _).mono ?_
            rintro e w5 ⟨rfl, b5⟩
            replace hb := hb.trans (b5.mono hb.size)
            clear b5
            go_wp2_with fail
            refine (sanity_any _).mono ?_
            rintro e wS ⟨rfl, bS⟩
            replace hb := hb.trans (bS.mono hb.size)
            clear bS
            go_wp2_with fail
            go_ret
            exact ⟨by first | rfl | (simp; done) | (simp; omega), hb⟩
      · skip
        have hE := coEncode_small (prior := A0) (data := A1) (by omega) (by omega)
        have hel : ((coEncode A0 A1).1).length ≤ 1000 := by
          rw [hE]
          have h5 := enc_len (A1.length : Int)
          rw [List.length_append]
          split
          · rw [List.length_append, List.length_singleton]; omega
          · rw [List.length_append, List.length_singleton]; omega
        have HE := Lib.hid (fun w => encode_at (show coEncode A0 A1 = ((coEncode A0 A1).1, 0) by rw [hE]) h0 h1 w)
        have HD := Lib.hid (fun w => decode_at (coDec_enc (prior := A0) (data := A1) (by omega) (by omega)) h0 (by omega) w)
        clear hE hel
        generalize (coEncode A0 A1).1 = E at *
        have HC := Lib.hid (fun w => decode_at (show coDec A0 A2 = ((coDec A0 A2).1, (coDec A0 A2).2) from rfl) h0 h2 w)
        have hC0 := Lib.hid (coDec_nil (prior := A0) (text := A2))
        have hC1 := Lib.hid (coDec_back (prior := A0) (text := A2))
        have HA := Lib.hid (fun (h : (coDec A0 A2).2 = 0) (hl : (coDec A0 A2).1.length ≤ 140737488351232) w => encode_at (coDec_back h) h0 hl w)
        have hcl := coDec_le A0 A2
        generalize (coDec A0 A2).1 = C at *
        generalize (coDec A0 A2).2 = er2 at *
        go_enter Try.func6, Try.ntmps6
        go_wp2_with (with_reducible refine convBsR (.tmp 19) A2 Try.und_str Try.sl_u8.und Try.und_u8 (by unfold maxLen; omega) (wn rfl) rfl rfl ?_)
        intro c w1 hrd hsz hb1
        clear hb hsz
        have hb := hb1
        clear hb1
        go_wp2_with fail
        refine (HGI.out _ _ _ _ _ hrd).mono ?_
        rintro e w2 ⟨rfl, rfl⟩
        clear hrd HGI
        go_wp2_with fail
        refine (small_any A0 A1 _).mono ?_
        rintro e w1 ⟨rfl, rfl⟩
        rw [hdd]
        go_wp2_with fail
        refine (HE.out _).mono ?_
        rintro e w3 ⟨rfl, b3⟩
        replace hb := hb.trans (b3.mono hb.size)
        clear b3
        go_wp2_with fail
        refine (HD.out _).mono ?_
        rintro e w4 ⟨rfl, b4⟩
        replace hb := hb.trans (b4.mono hb.size)
        clear b4
        by_cases hg : er2 = 0
        · subst hg
          have HA2 := Lib.hid (HA.out rfl (by omega))
          go_wp2_with fail
          refine (HC.out _).mono ?_
          rintro e w5 ⟨rfl, b5⟩
          replace hb := hb.trans (b5.mono hb.size)
          clear b5
          go_wp2_with fail
          refine (HA2.out _).mono ?_
          rintro e w6 ⟨rfl, b6⟩
          replace hb := hb.trans (b6.mono hb.size)
          clear b6
          go_wp2_with fail
          refine (sanity_any _).mono ?_
          rintro e wS ⟨rfl, bS⟩
          replace hb := hb.trans (bS.mono hb.size)
          clear bS
          go_wp2_with fail
          go_ret
          exact ⟨by first | rfl | (simp; done) | (simp; omega), hb⟩
        · have hcn := hC0.out hg
          subst hcn
          go_wp2_with fail
          refine (HC.out _).mono ?_
          rintro e w5 ⟨rfl, b5⟩
          replace hb := hb.trans (b5.mono hb.size)
          clear b5
          go_wp2_with fail
          refine (sanity_any _).mono ?_
          rintro e wS ⟨rfl, bS⟩
          replace hb := hb.trans (bS.mono hb.size)
          clear bS
          go_wp2_with fail
          go_ret
          exact ⟨by first | rfl | (simp; done) | (simp; omega), hb⟩
  · have hdd : decide (A0.length ≤ 700 ∧ A1.length ≤ 700) = false := by simpa using hs
    go_enter Try.func6, Try.ntmps6
    go_wp2_with (with_reducible refine convBsR (.tmp 19) A2 Try.und_str Try.sl_u8.und Try.und_u8 (by unfold maxLen; omega) (wn rfl) rfl rfl ?_)
    intro c w1 hrd hsz hb1
    clear hb hsz
    have hb := hb1
    clear hb1
    go_wp2_with fail
    refine (HGI.out _ _ _ _ _ hrd).mono ?_
    rintro e w2 ⟨rfl, rfl⟩
    clear hrd HGI
    go_wp2_with fail
    refine (small_any A0 A1 _).mono ?_
    rintro e w1 ⟨rfl, rfl⟩
    rw [hdd]
    go_wp2_with fail
    refine (sanity_any _).mono ?_
    rintro e wS ⟨rfl, bS⟩
    replace hb := hb.trans (bS.mono hb.size)
    clear bS
    go_wp2_with fail
    go_ret
    exact ⟨by first | rfl | (simp; done) | (simp; omega), hb⟩
end Go.Proofs.Ytpbebmbkcpdbeaa
