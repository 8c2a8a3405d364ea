/-
  wire.Bytes and the reference's Bytes return the length and the text, in a new row.
-/
import Derived.Test.YthmhmjdppldmiaaDoorIntRef
import Derived.Test.YthmhmjdppldmiaaDoorHex
namespace Go.Proofs.YthmhmjdppldmiaaDoor
open Go.RowKit

set_option maxRecDepth 100000 in
set_option maxHeartbeats 400000 in
theorem bytes_any (s : List UInt8) (w : World) (h : s.length ≤ 70368744177664) :
    Calls Tryd.prog 33 #[sv s] w (RetRow w 5 1 (encS s).length (bcs (encS s))) := by
  have hsz : (⟨s.toArray⟩ : ByteArray).size = s.length := by simp [ByteArray.size]
  have hel := enc_len s.length
  have HL := Lib.hid (show (enc s.length).length + s.length = (encS s).length by simp [encS])
  have HS := Lib.hid (show bcs (enc s.length) ++ bcs s = bcs (encS s) by simp [encS, bcs_append])
  unfold sv
  go_enter Tryd.func33, Tryd.ntmps33
  go_wp2_with fail
  refine (int_any _ _ (by omega) (by omega)).mono ?_
  rintro e w1 ⟨v, rfl, hown, hb⟩
  go_wp2_with (at_builtin; with_reducible refine appS _ _ ⟨s.toArray⟩ Tryd.sl_u8 Tryd.und_str (wn rfl) rfl rfl rfl hown hb (Nat.le_refl _) (by rw [hsz]; omega) ?_)
  intro v' w' h3 h4 _
  clear hown hb
  go_wp2
  go_ret
  exact ⟨_, rfl, ownsRow_count h3 HL.out HS.out, h4⟩

set_option maxRecDepth 100000 in
set_option maxHeartbeats 400000 in
theorem refBytes_any (s : List UInt8) (w : World) (h : s.length ≤ 70368744177664) :
    Calls Tryd.prog 35 #[sv s] w (RetRow w 5 1 (encS s).length (bcs (encS s))) := by
  have hsz : (⟨s.toArray⟩ : ByteArray).size = s.length := by simp [ByteArray.size]
  have hel := enc_len s.length
  have HL := Lib.hid (show (enc s.length).length + s.length = (encS s).length by simp [encS])
  have HS := Lib.hid (show bcs (enc s.length) ++ bcs s = bcs (encS s) by simp [encS, bcs_append])
  unfold sv
  go_enter Tryd.func35, Tryd.ntmps35
  go_wp2_with fail
  refine (refInt_any _ _ (by omega) (by omega)).mono ?_
  rintro e w1 ⟨v, rfl, hown, hb⟩
  go_wp2_with (at_builtin; with_reducible refine appS _ _ ⟨s.toArray⟩ Tryd.sl_u8 Tryd.und_str (wn rfl) rfl rfl rfl hown hb (Nat.le_refl _) (by rw [hsz]; omega) ?_)
  intro v' w' h3 h4 _
  clear hown hb
  go_wp2
  go_ret
  exact ⟨_, rfl, ownsRow_count h3 HL.out HS.out, h4⟩

end Go.Proofs.YthmhmjdppldmiaaDoor
