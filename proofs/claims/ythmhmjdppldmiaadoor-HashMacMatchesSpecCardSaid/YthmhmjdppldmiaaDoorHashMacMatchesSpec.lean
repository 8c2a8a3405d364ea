/-
  HashMacMatchesSpec answers true, for any key and text.
-/
import Derived.Test.YthmhmjdppldmiaaDoorHSanity
import Derived.Test.YthmhmjdppldmiaaDoorPadKey
namespace Go.Proofs.YthmhmjdppldmiaaDoor
open Go.RowKit

set_option maxRecDepth 100000 in
set_option maxHeartbeats 1000000 in
theorem walk_HashMacMatchesSpec (k t : List UInt8) (w : World) (ht : Tabs w) (htr : TabsR w) (_ha : k.length ≤ 140737488351232) (_hb : t.length ≤ 140737488351232) :
    Calls Tryd.prog 5 #[sv k, sv t] w (RetB w true) := by
  have hs := sanity_any w ht
  by_cases hl : k.length ≤ 400 ∧ t.length ≤ 400
  · obtain ⟨h1, h2⟩ := hl
    unfold sv
    go_enter Tryd.func5, Tryd.ntmps5
    go_wp2_with fail
    refine hs.mono ?_
    rintro e w1 ⟨rfl, hb1⟩
    have q1 := mac_any k t w1 (ht.below hb1 ht.size) (by omega) (by omega)
    unfold sv at q1
    go_wp2_with fail
    refine q1.mono ?_
    rintro e w2 ⟨rfl, hb2⟩
    replace hb1 := hb1.trans (hb2.mono hb1.size)
    have q2 := refMac_any k t w2 (htr.below hb1 htr.size) (by omega) (by omega)
    unfold sv at q2
    clear hb2 q1
    go_wp2_with fail
    refine q2.mono ?_
    rintro e w3 ⟨rfl, hb3⟩
    replace hb1 := hb1.trans (hb3.mono hb1.size)
    clear hb3 q2
    go_wp2_with fail
    go_ret
    exact ⟨rfl, hb1⟩
  · go_enter Tryd.func5, Tryd.ntmps5
    unfold sv
    go_wp2_with fail
    refine hs.mono ?_
    rintro e w1 ⟨rfl, hb⟩
    go_wp2_with fail
    all_goals first | (go_ret; exact ⟨rfl, hb⟩) | skip
end Go.Proofs.YthmhmjdppldmiaaDoor
