/-
  WireTruncated answers true, for every integer, text and lists that can be read.
-/
import Derived.Test.YtelphmfdpnmncaaSanity
import Derived.Test.YtelphmfdpnmncaaFull
import Derived.Test.YtelphmfdpnmncaaWireMath
import Derived.Test.YtelphmfdpnmncaaWireCut
import Derived.Test.YtelphmfdpnmncaaRows5
import Derived.Test.YtelphmfdpnmncaaFewWide
namespace Go.Proofs.Ytelphmfdpnmncaa
open Go.RowKit

theorem Try.sl_rows : SlTy Try.prog 54 28 (.slice none 0 0) 1 24 := ⟨by kernel_rfl, by kernel_rfl, rfl, by omega⟩
set_option maxRecDepth 100000 in
set_option maxHeartbeats 4000000 in
theorem walk_WireTruncated (n : Int) (s : List UInt8) (l : List Int) (Al : Option Addr) (ml cl : Nat) (x : List (List UInt8)) (Ax : Option Addr) (mx cx : Nat) (D : List UInt8) (Ad : Option Addr) (md cd : Nat) (w0 : World) (hi : -9223372036854775808 ≤ n ∧ n ≤ 9223372036854775807) (hs : s.length ≤ 140737488351232) (hrl : Rd w0 w0.heap.size 1 Al ml cl (l.map iv)) (hml : ml ≤ 140737488351232) (hel : ∀ y ∈ l, isI64 y) (hrx : Rd w0 w0.heap.size 1 Ax mx cx (x.map sv)) (hmx : mx ≤ 140737488351232) (hgx : ∀ y ∈ x, y.length ≤ 140737488351232) (hrd : Rd w0 w0.heap.size 16 Ad md cd (bcs D)) (hmd : md ≤ 140737488351232) :
    Calls Try.prog 9 #[.int .i64 n, .string ⟨s.toArray⟩, .slice Al ml cl, .slice Ax mx cx, .slice Ad md cd] w0 (RetB w0 true) := by
  have hb0 : Below w0.heap.size w0 w0 := Below.refl _ _
  have hlt0 : w0.heap.size ≤ w0.heap.size := Nat.le_refl _
  have hsz : (⟨s.toArray⟩ : ByteArray).size = s.length := by simp [ByteArray.size]
  have hxl : x.length = mx := by have := hrx.len; simpa using this
  have hdl : D.length = md * 16 := by have := hrd.len; rwa [bcs_length] at this
  have hll : l.length = ml := by have := hrl.len; simpa using this
  have hle : (encI l).length ≤ 10 + 10 * ml := by
    have h1 := enc_len l.length
    have h2 := flat_le enc 10 enc_len l
    unfold encI; rw [List.length_append, ← hll]; omega
  have hlx : (encT x).length ≤ 10 + 10 * x.length + total x := encT_len x
  have hld : (encD md D).length ≤ 10 + 16 * md := by
    have h1 := enc_len md
    unfold encD; rw [List.length_append, hdl]; omega
  have hls : (encS s).length ≤ 10 + s.length := by have := enc_len s.length; unfold encS; rw [List.length_append]; omega
  have hln := enc_len n
  have C1 := Lib.hid (fun i (h : i < (enc n).length) => cut_enc hi h)
  have C2 := Lib.hid (fun i (h : i < (encS s).length) => cut_encS (by omega) h)
  have C3 := Lib.hid (fun i (h : i < (encI l).length) => cut_encI (by omega) hel h)
  have C4 := Lib.hid (fun i (h : i < (encT x).length) => cut_encT (by omega) (fun y hy => by have h := hgx y hy; omega) h)
  have C5 := Lib.hid (fun i (h : i < (encD md D).length) => cut_encD (by omega) hdl h)
  have HDL := Lib.hid hdl
  clear hdl hll
  by_cases hbig : 400 < s.length + 10 * ml + 16 * md
  · skip
    go_enter Try.func9, Try.ntmps9
    go_wp2_with fail
    refine (sanity_any _).mono ?_
    rintro e w1 ⟨rfl, hst⟩
    have hb1 := below_call0 hb0 hst
    have hlt1 : w1.heap.size ≤ w1.heap.size := Nat.le_refl _
    clear hst hb0
    clear hlt0
    go_wp2_with fail
    go_ret
    exact ⟨by first | rfl | (simp; done) | (simp; omega), hb1⟩
  · skip
    by_cases hbx : 40 < mx
    · skip
      go_enter Try.func9, Try.ntmps9
      go_wp2_with fail
      refine (sanity_any _).mono ?_
      rintro e w1 ⟨rfl, hst⟩
      have hb1 := below_call0 hb0 hst
      have hlt1 : w1.heap.size ≤ w1.heap.size := Nat.le_refl _
      clear hst hb0
      clear hlt0
      go_wp2_with fail
      go_ret
      exact ⟨by first | rfl | (simp; done) | (simp; omega), hb1⟩
    · skip
      have htx := total_le _ x hgx
      clear hgx
      have hgx : x.length + total x ≤ 5629499534050000 := by omega
      by_cases hfew : x.length + total x ≤ 2000
      rotate_left
      · skip
        have HF := Lib.hid (decide_eq_false hfew)
        go_enter Try.func9, Try.ntmps9
        go_wp2_with fail
        refine (few_wide x _ _ _ _ _ hrx (by omega)).mono ?_
        rintro e _ ⟨rfl, rfl⟩
        rw [HF.out]
        go_wp2_with fail
        refine (sanity_any _).mono ?_
        rintro e w1 ⟨rfl, hst⟩
        have hb1 := below_call0 hb0 hst
        have hlt1 : w1.heap.size ≤ w1.heap.size := Nat.le_refl _
        clear hst hb0
        clear hlt0
        go_wp2_with fail
        go_ret
        exact ⟨by first | rfl | (simp; done) | (simp; omega), hb1⟩
      · skip
        have HF := Lib.hid (decide_eq_true hfew)
        go_enter Try.func9, Try.ntmps9
        go_wp2_with fail
        refine (few_wide x _ _ _ _ _ hrx (by omega)).mono ?_
        rintro e _ ⟨rfl, rfl⟩
        rw [HF.out]
        go_wp2_with fail
        refine (int_any n _ hi.1 hi.2).mono ?_
        rintro e w1 hret
        obtain ⟨A1, c1, rfl, _, h0, hst⟩ := hret.open
        have hb1 := below_call0 hb0 hst
        clear hret
        have hrl := hrl.below (hst.mono hlt0)
        have hrx := hrx.below (hst.mono hlt0)
        have hrd := hrd.below (hst.mono hlt0)
        have hlt0 := Nat.le_trans hlt0 hst.size
        have hlt1 : w1.heap.size ≤ w1.heap.size := Nat.le_refl _
        clear hst hb0
        go_wp2_with fail
        refine (bytes_any s _ (by omega)).mono ?_
        rintro e w2 hret
        obtain ⟨A2, c2, rfl, _, h1, hst⟩ := hret.open
        have hb2 := below_call0 hb1 hst
        clear hret
        have hrl := hrl.below (hst.mono hlt0)
        have hrx := hrx.below (hst.mono hlt0)
        have hrd := hrd.below (hst.mono hlt0)
        have h0 := h0.below (hst.mono hlt1)
        have hlt0 := Nat.le_trans hlt0 hst.size
        have hlt1 := Nat.le_trans hlt1 hst.size
        have hlt2 : w2.heap.size ≤ w2.heap.size := Nat.le_refl _
        clear hst hb1
        go_wp2_with fail
        refine (ints_any l _ _ _ _ _ hrl hlt0 hel (by omega)).mono ?_
        rintro e w3 hret
        obtain ⟨A3, c3, rfl, _, h2, hst⟩ := hret.open
        have hb3 := below_call0 hb2 hst
        clear hret
        have hrl := hrl.below (hst.mono hlt0)
        have hrx := hrx.below (hst.mono hlt0)
        have hrd := hrd.below (hst.mono hlt0)
        have h0 := h0.below (hst.mono hlt1)
        have h1 := h1.below (hst.mono hlt2)
        have hlt0 := Nat.le_trans hlt0 hst.size
        have hlt1 := Nat.le_trans hlt1 hst.size
        have hlt2 := Nat.le_trans hlt2 hst.size
        have hlt3 : w3.heap.size ≤ w3.heap.size := Nat.le_refl _
        clear hst hb2
        clear hrl
        go_wp2_with fail
        refine (strs_any x _ _ _ _ _ hrx hlt0 (by omega)).mono ?_
        rintro e w4 hret
        obtain ⟨A4, c4, rfl, _, h3, hst⟩ := hret.open
        have hb4 := below_call0 hb3 hst
        clear hret
        have hrx := hrx.below (hst.mono hlt0)
        have hrd := hrd.below (hst.mono hlt0)
        have h0 := h0.below (hst.mono hlt1)
        have h1 := h1.below (hst.mono hlt2)
        have h2 := h2.below (hst.mono hlt3)
        have hlt0 := Nat.le_trans hlt0 hst.size
        have hlt1 := Nat.le_trans hlt1 hst.size
        have hlt2 := Nat.le_trans hlt2 hst.size
        have hlt3 := Nat.le_trans hlt3 hst.size
        have hlt4 : w4.heap.size ≤ w4.heap.size := Nat.le_refl _
        clear hst hb3
        clear hrx
        go_wp2_with fail
        refine (digs_any D _ _ _ _ _ hrd hlt0 (by omega)).mono ?_
        rintro e w5 hret
        obtain ⟨A5, c5, rfl, _, h4, hst⟩ := hret.open
        have hb5 := below_call0 hb4 hst
        clear hret
        have hrd := hrd.below (hst.mono hlt0)
        have h0 := h0.below (hst.mono hlt1)
        have h1 := h1.below (hst.mono hlt2)
        have h2 := h2.below (hst.mono hlt3)
        have h3 := h3.below (hst.mono hlt4)
        have hlt0 := Nat.le_trans hlt0 hst.size
        have hlt1 := Nat.le_trans hlt1 hst.size
        have hlt2 := Nat.le_trans hlt2 hst.size
        have hlt3 := Nat.le_trans hlt3 hst.size
        have hlt4 := Nat.le_trans hlt4 hst.size
        have hlt5 : w5.heap.size ≤ w5.heap.size := Nat.le_refl _
        clear hst hb4
        clear hrd
        go_wp2_with fail
        have hst : Below w5.heap.size w5 (w5.alloc (.cells #[.slice A1 (enc n).length c1, .slice A2 (encS s).length c2, .slice A3 (encI l).length c3, .slice A4 (encT x).length c4, .slice A5 (encD md D).length c5] 28)) := (Below.refl _ _).alloc (Nat.le_refl _) _
        have hrows : Rd (w5.alloc (.cells #[.slice A1 (enc n).length c1, .slice A2 (encS s).length c2, .slice A3 (encI l).length c3, .slice A4 (encT x).length c4, .slice A5 (encD md D).length c5] 28)) (w5.alloc (.cells #[.slice A1 (enc n).length c1, .slice A2 (encS s).length c2, .slice A3 (encI l).length c3, .slice A4 (encT x).length c4, .slice A5 (encD md D).length c5] 28)).heap.size 1 (some ⟨w5.heap.size, 0, none⟩) 5 5 [.slice A1 (enc n).length c1, .slice A2 (encS s).length c2, .slice A3 (encI l).length c3, .slice A4 (encT x).length c4, .slice A5 (encD md D).length c5] := (show Rd (w5.alloc (.cells #[.slice A1 (enc n).length c1, .slice A2 (encS s).length c2, .slice A3 (encI l).length c3, .slice A4 (encT x).length c4, .slice A5 (encD md D).length c5] 28)) (w5.heap.size + 1) 1 (some ⟨w5.heap.size, 0, none⟩) 5 5 [.slice A1 (enc n).length c1, .slice A2 (encS s).length c2, .slice A3 (encI l).length c3, .slice A4 (encT x).length c4, .slice A5 (encD md D).length c5] from ⟨rfl, by omega, by decide, fun _ => ⟨_, 0, rfl, by omega, cells_new w5 [.slice A1 (enc n).length c1, .slice A2 (encS s).length c2, .slice A3 (encI l).length c3, .slice A4 (encT x).length c4, .slice A5 (encD md D).length c5] _⟩⟩).more (by simp)
        generalize (w5.alloc (.cells #[.slice A1 (enc n).length c1, .slice A2 (encS s).length c2, .slice A3 (encI l).length c3, .slice A4 (encT x).length c4, .slice A5 (encD md D).length c5] 28)) = w6 at hst hrows ⊢
        have hb6 := below_call0 hb5 hst
        have h0 := h0.below (hst.mono hlt1)
        have h1 := h1.below (hst.mono hlt2)
        have h2 := h2.below (hst.mono hlt3)
        have h3 := h3.below (hst.mono hlt4)
        have h4 := h4.below (hst.mono hlt5)
        have hlt1 := Nat.le_trans hlt1 hst.size
        have hlt2 := Nat.le_trans hlt2 hst.size
        have hlt3 := Nat.le_trans hlt3 hst.size
        have hlt4 := Nat.le_trans hlt4 hst.size
        have hlt5 := Nat.le_trans hlt5 hst.size
        have hlt6 : w6.heap.size ≤ w6.heap.size := Nat.le_refl _
        clear hst hb5
        clear hfew hbig hbx HF
        go_loopw [49] (fun kv wr => ∃ k : Int, 0 ≤ k ∧ k ≤ 5 ∧ kv = .int .i64 k ∧ Below w6.heap.size w6 wr) (fun kv _ => 5 - (intOf kv).toNat)
        case atStart => exact ⟨0, by omega, by omega, rfl, Below.refl _ _⟩
        case round =>
          obtain ⟨k, hk0, hk, rfl, hbr⟩ := hrel
          have h0 := h0.below (hbr.mono hlt1)
          have h1 := h1.below (hbr.mono hlt2)
          have h2 := h2.below (hbr.mono hlt3)
          have h3 := h3.below (hbr.mono hlt4)
          have h4 := h4.below (hbr.mono hlt5)
          have hrows := hrows.below (hbr.mono hlt6)
          obtain hk5 | rfl : k < 5 ∨ k = 5 := by omega
          rotate_left
          · go_wp2_with fail
            refine (sanity_any _).mono ?_
            rintro e w7 ⟨rfl, hst⟩
            have hb7 := below_call0 (below_call0 hb6 hbr) hst
            go_wp2_with fail
            go_ret
            exact ⟨by first | rfl | (simp; done) | (simp; omega), hb7⟩
          obtain ⟨bR, offR, hAR, _, hcell⟩ := hrows.cells (by omega)
          cases hAR
          have hlo := Nat.le_trans hlt6 hbr.size
          obtain rfl | rfl | rfl | rfl | rfl : k = 0 ∨ k = 1 ∨ k = 2 ∨ k = 3 ∨ k = 4 := by omega
          · have hc := hcell 0 _ rfl
            go_wp2
            obtain ⟨wo, rfl⟩ : ∃ wo : World, wo = wr := ⟨_, rfl⟩
            have hbo := Nat.le_trans hlt1 hbr.size
            go_loopw [57] (fun iv_ w2 => ∃ q : Nat, q ≤ (enc n).length ∧ iv_ = .int .i64 q ∧ Below wo.heap.size wo w2) (fun iv_ _ => (enc n).length - (intOf iv_).toNat)
            case atStart => exact ⟨0, Nat.zero_le _, rfl, Below.refl _ _⟩
            case round =>
              obtain ⟨q, hq, rfl, hb2⟩ := hrel
              by_cases hlt : q < (enc n).length
              · have hx := h0.below (hb2.mono hbo)
                have hCC := C1.out q (by omega)
                go_wp2_with (with_reducible refine slH (.tmp 72) (.tmp 73) q Try.sl_u8 (wn rfl) rfl rfl rfl hx rfl (by omega) ?_)
                intro A' hcut
                rw [take_bcs] at hcut
                obtain ⟨ra, rb, rc, hr3⟩ : ∃ ra rb rc, dec ((enc n).take q) = (ra, rb, rc) := ⟨_, _, _, rfl⟩
                rw [hr3] at hCC
                simp only at hCC
                subst hCC
                have HR3 := Lib.hid hr3
                clear hr3 hx
                go_wp2_with fail
                refine (getInt_any ((enc n).take q) _ _ _ _ _ hcut).mono ?_
                rintro e _ ⟨rfl, rfl⟩
                rw [HR3.out]
                clear hcut
                go_wp2
                go_roundw
                case rel => exact ⟨q + 1, by omega, by go_num, hb2⟩
                case measure => (simp [intOf]; try omega)
              · go_wp2
                go_roundw
                case rel => exact ⟨0 + 1, by omega, by omega, by go_num, below_call0 hbr hb2⟩
                case measure => (simp [intOf]; try omega)
          · have hc := hcell 1 _ rfl
            go_wp2
            obtain ⟨wo, rfl⟩ : ∃ wo : World, wo = wr := ⟨_, rfl⟩
            have hbo := Nat.le_trans hlt2 hbr.size
            go_loopw [57] (fun iv_ w2 => ∃ q : Nat, q ≤ (encS s).length ∧ iv_ = .int .i64 q ∧ Below wo.heap.size wo w2) (fun iv_ _ => (encS s).length - (intOf iv_).toNat)
            case atStart => exact ⟨0, Nat.zero_le _, rfl, Below.refl _ _⟩
            case round =>
              obtain ⟨q, hq, rfl, hb2⟩ := hrel
              by_cases hlt : q < (encS s).length
              · have hx := h1.below (hb2.mono hbo)
                have hCC := C2.out q (by omega)
                go_wp2_with (with_reducible refine slH (.tmp 82) (.tmp 83) q Try.sl_u8 (wn rfl) rfl rfl rfl hx rfl (by omega) ?_)
                intro A' hcut
                rw [take_bcs] at hcut
                obtain ⟨ra, rb, rc, hr3⟩ : ∃ ra rb rc, decS ((encS s).take q) = (ra, rb, rc) := ⟨_, _, _, rfl⟩
                rw [hr3] at hCC
                simp only at hCC
                subst hCC
                have HR3 := Lib.hid hr3
                clear hr3 hx
                go_wp2_with fail
                refine (getBytes_any ((encS s).take q) _ _ _ _ _ hcut).mono ?_
                rintro e _ ⟨rfl, rfl⟩
                rw [HR3.out]
                unfold sv
                clear hcut
                go_wp2
                go_roundw
                case rel => exact ⟨q + 1, by omega, by go_num, hb2⟩
                case measure => (simp [intOf]; try omega)
              · go_wp2
                go_roundw
                case rel => exact ⟨1 + 1, by omega, by omega, by go_num, below_call0 hbr hb2⟩
                case measure => (simp [intOf]; try omega)
          · have hc := hcell 2 _ rfl
            go_wp2
            obtain ⟨wo, rfl⟩ : ∃ wo : World, wo = wr := ⟨_, rfl⟩
            have hbo := Nat.le_trans hlt3 hbr.size
            go_loopw [57] (fun iv_ w2 => ∃ q : Nat, q ≤ (encI l).length ∧ iv_ = .int .i64 q ∧ Below wo.heap.size wo w2) (fun iv_ _ => (encI l).length - (intOf iv_).toNat)
            case atStart => exact ⟨0, Nat.zero_le _, rfl, Below.refl _ _⟩
            case round =>
              obtain ⟨q, hq, rfl, hb2⟩ := hrel
              by_cases hlt : q < (encI l).length
              · have hx := h2.below (hb2.mono hbo)
                have hCC := C3.out q (by omega)
                go_wp2_with (with_reducible refine slH (.tmp 92) (.tmp 93) q Try.sl_u8 (wn rfl) rfl rfl rfl hx rfl (by omega) ?_)
                intro A' hcut
                rw [take_bcs] at hcut
                obtain ⟨ra, rb, rc, hr3⟩ : ∃ ra rb rc, decI ((encI l).take q) = (ra, rb, rc) := ⟨_, _, _, rfl⟩
                rw [hr3] at hCC
                simp only at hCC
                subst hCC
                have HR3 := Lib.hid hr3
                clear hr3 hx
                go_wp2_with fail
                refine (getInts_any ((encI l).take q) _ _ _ _ _ hcut (Nat.le_trans hbo hb2.size) (by rw [List.length_take]; omega)).mono ?_
                rintro e w3 hret
                rw [HR3.out] at hret
                obtain ⟨A4, n4, c4, rfl, _, _, hst⟩ := hret.open
                have hb3 := below_call0 hb2 hst
                clear hcut hret hst
                go_wp2
                go_roundw
                case rel => exact ⟨q + 1, by omega, by go_num, hb3⟩
                case measure => (simp [intOf]; try omega)
              · go_wp2
                go_roundw
                case rel => exact ⟨2 + 1, by omega, by omega, by go_num, below_call0 hbr hb2⟩
                case measure => (simp [intOf]; try omega)
          · have hc := hcell 3 _ rfl
            by_cases h500 : (encT x).length ≤ 500
            · skip
              go_wp2
              obtain ⟨wo, rfl⟩ : ∃ wo : World, wo = wr := ⟨_, rfl⟩
              have hbo := Nat.le_trans hlt4 hbr.size
              go_loopw [57] (fun iv_ w2 => ∃ q : Nat, q ≤ (encT x).length ∧ iv_ = .int .i64 q ∧ Below wo.heap.size wo w2) (fun iv_ _ => (encT x).length - (intOf iv_).toNat)
              case atStart => exact ⟨0, Nat.zero_le _, rfl, Below.refl _ _⟩
              case round =>
                obtain ⟨q, hq, rfl, hb2⟩ := hrel
                by_cases hlt : q < (encT x).length
                · have hx := h3.below (hb2.mono hbo)
                  have hCC := C4.out q (by omega)
                  go_wp2_with (with_reducible refine slH (.tmp 102) (.tmp 103) q Try.sl_u8 (wn rfl) rfl rfl rfl hx rfl (by omega) ?_)
                  intro A' hcut
                  rw [take_bcs] at hcut
                  obtain ⟨ra, rb, rc, hr3⟩ : ∃ ra rb rc, decT ((encT x).take q) = (ra, rb, rc) := ⟨_, _, _, rfl⟩
                  rw [hr3] at hCC
                  simp only at hCC
                  subst hCC
                  have HR3 := Lib.hid hr3
                  clear hr3 hx
                  go_wp2_with fail
                  refine (getStrs_any ((encT x).take q) _ _ _ _ _ hcut (Nat.le_trans hbo hb2.size) (by rw [List.length_take]; omega)).mono ?_
                  rintro e w3 hret
                  rw [HR3.out] at hret
                  obtain ⟨A4, n4, c4, rfl, _, _, hst⟩ := hret.open
                  have hb3 := below_call0 hb2 hst
                  clear hcut hret hst
                  go_wp2
                  go_roundw
                  case rel => exact ⟨q + 1, by omega, by go_num, hb3⟩
                  case measure => (simp [intOf]; try omega)
                · go_wp2
                  go_roundw
                  case rel => exact ⟨3 + 1, by omega, by omega, by go_num, below_call0 hbr hb2⟩
                  case measure => (simp [intOf]; try omega)
            · skip
              go_wp2
              obtain ⟨wo, rfl⟩ : ∃ wo : World, wo = wr := ⟨_, rfl⟩
              have hbo := Nat.le_trans hlt4 hbr.size
              go_loopw [57] (fun iv_ w2 => ∃ q : Nat, q ≤ 500 ∧ iv_ = .int .i64 q ∧ Below wo.heap.size wo w2) (fun iv_ _ => 500 - (intOf iv_).toNat)
              case atStart => exact ⟨0, Nat.zero_le _, rfl, Below.refl _ _⟩
              case round =>
                obtain ⟨q, hq, rfl, hb2⟩ := hrel
                by_cases hlt : q < 500
                · have hx := h3.below (hb2.mono hbo)
                  have hCC := C4.out q (by omega)
                  go_wp2_with (with_reducible refine slH (.tmp 102) (.tmp 103) q Try.sl_u8 (wn rfl) rfl rfl rfl hx rfl (by omega) ?_)
                  intro A' hcut
                  rw [take_bcs] at hcut
                  obtain ⟨ra, rb, rc, hr3⟩ : ∃ ra rb rc, decT ((encT x).take q) = (ra, rb, rc) := ⟨_, _, _, rfl⟩
                  rw [hr3] at hCC
                  simp only at hCC
                  subst hCC
                  have HR3 := Lib.hid hr3
                  clear hr3 hx
                  go_wp2_with fail
                  refine (getStrs_any ((encT x).take q) _ _ _ _ _ hcut (Nat.le_trans hbo hb2.size) (by rw [List.length_take]; omega)).mono ?_
                  rintro e w3 hret
                  rw [HR3.out] at hret
                  obtain ⟨A4, n4, c4, rfl, _, _, hst⟩ := hret.open
                  have hb3 := below_call0 hb2 hst
                  clear hcut hret hst
                  go_wp2
                  go_roundw
                  case rel => exact ⟨q + 1, by omega, by go_num, hb3⟩
                  case measure => (simp [intOf]; try omega)
                · go_wp2
                  go_roundw
                  case rel => exact ⟨3 + 1, by omega, by omega, by go_num, below_call0 hbr hb2⟩
                  case measure => (simp [intOf]; try omega)
          · have hc := hcell 4 _ rfl
            go_wp2
            obtain ⟨wo, rfl⟩ : ∃ wo : World, wo = wr := ⟨_, rfl⟩
            have hbo := Nat.le_trans hlt5 hbr.size
            go_loopw [57] (fun iv_ w2 => ∃ q : Nat, q ≤ (encD md D).length ∧ iv_ = .int .i64 q ∧ Below wo.heap.size wo w2) (fun iv_ _ => (encD md D).length - (intOf iv_).toNat)
            case atStart => exact ⟨0, Nat.zero_le _, rfl, Below.refl _ _⟩
            case round =>
              obtain ⟨q, hq, rfl, hb2⟩ := hrel
              by_cases hlt : q < (encD md D).length
              · have hx := h4.below (hb2.mono hbo)
                have hCC := C5.out q (by omega)
                go_wp2_with (with_reducible refine slH (.tmp 62) (.tmp 63) q Try.sl_u8 (wn rfl) rfl rfl rfl hx rfl (by omega) ?_)
                intro A' hcut
                rw [take_bcs] at hcut
                obtain ⟨ra, rb, rc, hr3⟩ : ∃ ra rb rc, decD ((encD md D).take q) = (ra, rb, rc) := ⟨_, _, _, rfl⟩
                rw [hr3] at hCC
                simp only at hCC
                subst hCC
                have HR3 := Lib.hid hr3
                clear hr3 hx
                go_wp2_with fail
                refine (getDigs_any ((encD md D).take q) _ _ _ _ _ hcut (Nat.le_trans hbo hb2.size) (by rw [List.length_take]; omega)).mono ?_
                rintro e w3 hret
                rw [HR3.out] at hret
                obtain ⟨A4, n4, c4, rfl, _, _, hst⟩ := hret.open
                have hb3 := below_call0 hb2 hst
                clear hcut hret hst
                go_wp2
                go_roundw
                case rel => exact ⟨q + 1, by omega, by go_num, hb3⟩
                case measure => (simp [intOf]; try omega)
              · go_wp2
                go_roundw
                case rel => exact ⟨4 + 1, by omega, by omega, by go_num, below_call0 hbr hb2⟩
                case measure => (simp [intOf]; try omega)
end Go.Proofs.Ytelphmfdpnmncaa
