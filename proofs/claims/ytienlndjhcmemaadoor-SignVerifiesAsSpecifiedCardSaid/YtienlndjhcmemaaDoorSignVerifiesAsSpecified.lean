/-
  SignVerifiesAsSpecified answers true, for any key, height, message and signature.
-/
import Derived.Test.YtienlndjhcmemaaDoorMH
namespace Go.Proofs.YtienlndjhcmemaaDoor
open Go.RowKit
set_option linter.unusedVariables false

set_option maxRecDepth 100000 in
set_option maxHeartbeats 2000000 in
theorem walk_SignVerifiesAsSpecified (p : List UInt8) (h : Int) (m sig : List UInt8) (w : World) (ht : Tabs w) (htr : TabsR w) (hp : p.length = 16) (_hh : -9223372036854775808 ≤ h ∧ h ≤ 9223372036854775807) (hm : m.length ≤ 140737488351232) (hs : sig.length ≤ 140737488351232) :
    Calls Tryd.prog 5 #[.agg (bcs p).toArray, .int .i64 h, sv m, sv sig] w (RetB w true) := by
  have HSAN := Lib.hid (fun w' (h : Tabs w') => sanity_any w' h)
  have HPB := Lib.hid (show (bcs p).length = 16 by rw [bcs_length]; exact hp)
  unfold sv
  by_cases h1 : m.length ≤ 200
  · by_cases h2 : sig.length ≤ 800
    · have HV := Lib.hid (fun w' (h' : Tabs w') => verify_any p h m sig w' h' hp (by omega) (by omega))
      have HR := Lib.hid (fun w' (h' : TabsR w') => refVerify_any p h m sig w' h' hp (by omega) (by omega))
      unfold verifyV sv at HV HR
      generalize (verifyD p h m sig).1 = x at *
      generalize (verifyD p h m sig).2 = y at *
      go_enter Tryd.func5, Tryd.ntmps5
      go_wp2_with (with_reducible refine bxArr (cs := bcs p) (.tmp 0) (wn rfl) rfl rfl ?_)
      intro w1 h4 hb
      go_wp2_with fail
      have hc := HSAN.out w1 (ht.below hb ht.size)
      refine hc.mono ?_
      rintro e w2 ⟨rfl, b2⟩
      replace h4 := h4.below b2 h4.lt
      replace hb := hb.trans (b2.mono hb.size)
      clear b2 hc HSAN
      go_wp2_with (with_reducible refine ldArr (.tmp 4) Tryd.ag_b16 (wn rfl) rfl rfl HPB.out h4 ?_)
      have hc := HV.out w2 (ht.below hb ht.size)
      refine hc.mono ?_
      rintro e w3 ⟨rfl, b3⟩
      replace h4 := h4.below b3 h4.lt
      replace hb := hb.trans (b3.mono hb.size)
      clear b3 hc HV
      go_wp2_with (with_reducible refine ldArr (.tmp 4) Tryd.ag_b16 (wn rfl) rfl rfl HPB.out h4 ?_)
      have hc := HR.out w3 (htr.below hb htr.size)
      refine hc.mono ?_
      rintro e w4 ⟨rfl, b4⟩
      replace hb := hb.trans (b4.mono hb.size)
      clear b4 hc HR h4
      go_wp2_with fail
      go_ret
      exact ⟨rfl, hb⟩
    · go_enter Tryd.func5, Tryd.ntmps5
      go_wp2_with (with_reducible refine bxArr (cs := bcs p) (.tmp 0) (wn rfl) rfl rfl ?_)
      intro w1 h4 hb
      clear h4
      go_wp2_with fail
      have hc := HSAN.out w1 (ht.below hb ht.size)
      refine hc.mono ?_
      rintro e w2 ⟨rfl, b2⟩
      replace hb := hb.trans (b2.mono hb.size)
      clear b2 hc HSAN
      go_wp2_with fail
      go_ret
      exact ⟨rfl, hb⟩
  · go_enter Tryd.func5, Tryd.ntmps5
    go_wp2_with (with_reducible refine bxArr (cs := bcs p) (.tmp 0) (wn rfl) rfl rfl ?_)
    intro w1 h4 hb
    clear h4
    go_wp2_with fail
    have hc := HSAN.out w1 (ht.below hb ht.size)
    refine hc.mono ?_
    rintro e w2 ⟨rfl, b2⟩
    replace hb := hb.trans (b2.mono hb.size)
    clear b2 hc HSAN
    go_wp2_with fail
    go_ret
    exact ⟨rfl, hb⟩
end Go.Proofs.YtienlndjhcmemaaDoor
