/-
  WireCanonical answers true, for every sequence of bytes that can be read.
-/
import Derived.Test.YtelphmfdpnmncaaSanity
import Derived.Deep.Cut
import Derived.Test.YtelphmfdpnmncaaWireCanonClosure
import Derived.Test.YtelphmfdpnmncaaWireCanon
namespace Go.Proofs.Ytelphmfdpnmncaa
open Go.RowKit

set_option maxRecDepth 100000 in
set_option maxHeartbeats 4000000 in
theorem walk_WireCanonical (l : List UInt8) (A : Option Addr) (m c : Nat) (w0 : World) (hr : Rd w0 w0.heap.size 1 A m c (bcs l)) (hm : m ≤ 140737488351232) :
    Calls Try.prog 7 #[.slice A m c] w0 (RetB w0 true) := by
  have hb0 : Below w0.heap.size w0 w0 := Below.refl _ _
  have hlt0 : w0.heap.size ≤ w0.heap.size := Nat.le_refl _
  have hmf : ∀ (fn : Fn) (first cap : Array Value) (w : World), (Instr.makeFunc fn first cap).run Try.prog w = .ok (.func fn first cap) w := fun _ _ _ _ => rfl
  have hll : l.length = m := by have := hr.len; rwa [bcs_length, Nat.mul_one] at this
  obtain ⟨n, i, e, hN⟩ : ∃ n i e, dec l = (n, i, e) := ⟨_, _, _, rfl⟩
  obtain ⟨s, j, f, hS⟩ : ∃ s j f, decS l = (s, j, f) := ⟨_, _, _, rfl⟩
  obtain ⟨L1, k, g, hI⟩ : ∃ L1 k g, decI l = (L1, k, g) := ⟨_, _, _, rfl⟩
  obtain ⟨X, o, r, hT⟩ : ∃ X o r, decT l = (X, o, r) := ⟨_, _, _, rfl⟩
  obtain ⟨D, q, h, hD⟩ : ∃ D q h, decD l = (D, q, h) := ⟨_, _, _, rfl⟩
  obtain ⟨CN, hin⟩ := canon_n hN
  have CS := canon_s hS
  have CI := canon_i hI
  have hiI := decI_i64 hI
  have CT := canon_t hT
  have CD := canon_d hD
  unfold Canon at CN CS CI CT CD
  rw [hll] at CN CS CI CT CD
  have hsl : s.length ≤ m + 10 := by have := CS.2; unfold encS at this; rw [List.length_append] at this; omega
  have hl1 := CI.2
  have hl2 := CT.2
  have hl3 := CD.2
  have CN := Lib.hid CN.1
  have CS := Lib.hid CS.1
  have CI := Lib.hid CI.1
  have CT := Lib.hid CT.1
  have CD := Lib.hid CD.1
  have HN := Lib.hid hN
  have HS := Lib.hid hS
  have HI := Lib.hid hI
  have HT := Lib.hid hT
  have HD := Lib.hid hD
  clear hN hS hI hT hD
  by_cases hbig : 2000 < m
  · skip
    go_enter Try.func7, Try.ntmps7
    go_upto_region 1 with (fail)
    have hst : Below w0.heap.size w0 (w0.alloc (.cells #[.slice A m c] 28)) := (Below.refl _ _).alloc (Nat.le_refl _) _
    have hbx : Rd (w0.alloc (.cells #[.slice A m c] 28)) (w0.alloc (.cells #[.slice A m c] 28)).heap.size 1 (some ⟨w0.heap.size, 0, none⟩) 1 1 [.slice A m c] := (show Rd (w0.alloc (.cells #[.slice A m c] 28)) (w0.heap.size + 1) 1 (some ⟨w0.heap.size, 0, none⟩) 1 1 [.slice A m c] from ⟨rfl, by omega, by decide, fun _ => ⟨_, 0, rfl, by omega, cells_new w0 [.slice A m c] _⟩⟩).more (by simp)
    generalize (w0.alloc (.cells #[.slice A m c] 28)) = w1 at hst hbx ⊢
    have hb1 := below_call0 hb0 hst
    have hr := hr.below (hst.mono hlt0)
    have hlt0 := Nat.le_trans hlt0 hst.size
    have hlt1 : w1.heap.size ≤ w1.heap.size := Nat.le_refl _
    clear hst hb0
    have hcb := rd_box hbx
    go_wp2_with fail
    refine (sanity_any _).mono ?_
    rintro e w2 ⟨rfl, hst⟩
    have hb2 := below_call0 hb1 hst
    have hr := hr.below (hst.mono hlt0)
    have hbx := hbx.below (hst.mono hlt1)
    have hlt0 := Nat.le_trans hlt0 hst.size
    have hlt1 := Nat.le_trans hlt1 hst.size
    have hlt2 : w2.heap.size ≤ w2.heap.size := Nat.le_refl _
    clear hst hb1
    go_wp2_with fail
    go_ret
    exact ⟨by first | rfl | (simp; done) | (simp; omega), hb2⟩
  · skip
    go_enter Try.func7, Try.ntmps7
    go_upto_region 1 with (fail)
    have hst : Below w0.heap.size w0 (w0.alloc (.cells #[.slice A m c] 28)) := (Below.refl _ _).alloc (Nat.le_refl _) _
    have hbx : Rd (w0.alloc (.cells #[.slice A m c] 28)) (w0.alloc (.cells #[.slice A m c] 28)).heap.size 1 (some ⟨w0.heap.size, 0, none⟩) 1 1 [.slice A m c] := (show Rd (w0.alloc (.cells #[.slice A m c] 28)) (w0.heap.size + 1) 1 (some ⟨w0.heap.size, 0, none⟩) 1 1 [.slice A m c] from ⟨rfl, by omega, by decide, fun _ => ⟨_, 0, rfl, by omega, cells_new w0 [.slice A m c] _⟩⟩).more (by simp)
    generalize (w0.alloc (.cells #[.slice A m c] 28)) = w1 at hst hbx ⊢
    have hb1 := below_call0 hb0 hst
    have hr := hr.below (hst.mono hlt0)
    have hlt0 := Nat.le_trans hlt0 hst.size
    have hlt1 : w1.heap.size ≤ w1.heap.size := Nat.le_refl _
    clear hst hb0
    have hcb := rd_box hbx
    go_wp2_with fail
    refine (getInt_any l _ _ _ _ _ hr).mono ?_
    rintro e _ ⟨rfl, rfl⟩
    rw [HN.out]
    go_wp2_with fail
    refine (getBytes_any l _ _ _ _ _ hr).mono ?_
    rintro e _ ⟨rfl, rfl⟩
    rw [HS.out]
    unfold sv
    go_wp2_with fail
    refine (getInts_any l _ _ _ _ _ hr hlt0 (by omega)).mono ?_
    rintro e w2 hret
    rw [HI.out] at hret
    obtain ⟨A2, n2, c2, rfl, _, hi, hst⟩ := hret.open
    have hb2 := below_call0 hb1 hst
    clear hret
    have hr := hr.below (hst.mono hlt0)
    have hbx := hbx.below (hst.mono hlt1)
    have hlt0 := Nat.le_trans hlt0 hst.size
    have hlt1 := Nat.le_trans hlt1 hst.size
    have hlt2 : w2.heap.size ≤ w2.heap.size := Nat.le_refl _
    clear hst hb1
    clear hcb
    have hcb := rd_box hbx
    go_wp2_with fail
    refine (getStrs_any l _ _ _ _ _ hr hlt0 (by omega)).mono ?_
    rintro e w3 hret
    rw [HT.out] at hret
    obtain ⟨A3, n3, c3, rfl, _, ht, hst⟩ := hret.open
    have hb3 := below_call0 hb2 hst
    clear hret
    have hr := hr.below (hst.mono hlt0)
    have hbx := hbx.below (hst.mono hlt1)
    have hi := hi.below (hst.mono hlt2)
    have hlt0 := Nat.le_trans hlt0 hst.size
    have hlt1 := Nat.le_trans hlt1 hst.size
    have hlt2 := Nat.le_trans hlt2 hst.size
    have hlt3 : w3.heap.size ≤ w3.heap.size := Nat.le_refl _
    clear hst hb2
    clear hcb
    have hcb := rd_box hbx
    go_wp2_with fail
    refine (getDigs_any l _ _ _ _ _ hr hlt0 (by omega)).mono ?_
    rintro e w4 hret
    rw [HD.out] at hret
    obtain ⟨A4, n4, c4, rfl, _, hd, hst⟩ := hret.open
    have hb4 := below_call0 hb3 hst
    clear hret
    have hr := hr.below (hst.mono hlt0)
    have hbx := hbx.below (hst.mono hlt1)
    have hi := hi.below (hst.mono hlt2)
    have ht := ht.below (hst.mono hlt3)
    have hlt0 := Nat.le_trans hlt0 hst.size
    have hlt1 := Nat.le_trans hlt1 hst.size
    have hlt2 := Nat.le_trans hlt2 hst.size
    have hlt3 := Nat.le_trans hlt3 hst.size
    have hlt4 : w4.heap.size ≤ w4.heap.size := Nat.le_refl _
    clear hst hb3
    clear hcb
    have hcb := rd_box hbx
    obtain rfl : D.length / 16 = n4 := by have hdl : D.length = n4 * 16 := (by have := hd.len; rwa [bcs_length] at this); omega
    go_wp2_with fail
    refine (sanity_any _).mono ?_
    rintro e w5 ⟨rfl, hst⟩
    have hb5 := below_call0 hb4 hst
    have hr := hr.below (hst.mono hlt0)
    have hbx := hbx.below (hst.mono hlt1)
    have hi := hi.below (hst.mono hlt2)
    have ht := ht.below (hst.mono hlt3)
    have hd := hd.below (hst.mono hlt4)
    have hlt0 := Nat.le_trans hlt0 hst.size
    have hlt1 := Nat.le_trans hlt1 hst.size
    have hlt2 := Nat.le_trans hlt2 hst.size
    have hlt3 := Nat.le_trans hlt3 hst.size
    have hlt4 := Nat.le_trans hlt4 hst.size
    have hlt5 : w5.heap.size ≤ w5.heap.size := Nat.le_refl _
    clear hst hb4
    clear hcb
    have hcb := rd_box hbx
    go_wp2_with fail
    refine (int_any n _ hin.1 hin.2).mono ?_
    rintro e w6 hret
    obtain ⟨A6, c6, rfl, _, he, hst⟩ := hret.open
    have hb6 := below_call0 hb5 hst
    clear hret
    have hr := hr.below (hst.mono hlt0)
    have hbx := hbx.below (hst.mono hlt1)
    have hi := hi.below (hst.mono hlt2)
    have ht := ht.below (hst.mono hlt3)
    have hd := hd.below (hst.mono hlt4)
    have hlt0 := Nat.le_trans hlt0 hst.size
    have hlt1 := Nat.le_trans hlt1 hst.size
    have hlt2 := Nat.le_trans hlt2 hst.size
    have hlt3 := Nat.le_trans hlt3 hst.size
    have hlt4 := Nat.le_trans hlt4 hst.size
    have hlt6 : w6.heap.size ≤ w6.heap.size := Nat.le_refl _
    clear hst hb5
    clear hlt5
    clear hcb
    have hcb := rd_box hbx
    go_wp2_with fail
    refine (is_true _ l _ _ _ _ _ _ _ _ _ _ _ _ he hr hcb CN.out).mono ?_
    rintro e _ ⟨rfl, rfl⟩
    clear he
    go_wp2_with fail
    refine (bytes_any s _ (by omega)).mono ?_
    rintro e w7 hret
    obtain ⟨A7, c7, rfl, _, he, hst⟩ := hret.open
    have hb7 := below_call0 hb6 hst
    clear hret
    have hr := hr.below (hst.mono hlt0)
    have hbx := hbx.below (hst.mono hlt1)
    have hi := hi.below (hst.mono hlt2)
    have ht := ht.below (hst.mono hlt3)
    have hd := hd.below (hst.mono hlt4)
    have hlt0 := Nat.le_trans hlt0 hst.size
    have hlt1 := Nat.le_trans hlt1 hst.size
    have hlt2 := Nat.le_trans hlt2 hst.size
    have hlt3 := Nat.le_trans hlt3 hst.size
    have hlt4 := Nat.le_trans hlt4 hst.size
    have hlt7 : w7.heap.size ≤ w7.heap.size := Nat.le_refl _
    clear hst hb6
    clear hlt6
    clear hcb
    have hcb := rd_box hbx
    go_wp2_with fail
    refine (is_true _ l _ _ _ _ _ _ _ _ _ _ _ _ he hr hcb CS.out).mono ?_
    rintro e _ ⟨rfl, rfl⟩
    clear he
    go_wp2_with fail
    refine (ints_any L1 _ _ _ _ _ hi hlt2 hiI (by omega)).mono ?_
    rintro e w8 hret
    obtain ⟨A8, c8, rfl, _, he, hst⟩ := hret.open
    have hb8 := below_call0 hb7 hst
    clear hret
    have hr := hr.below (hst.mono hlt0)
    have hbx := hbx.below (hst.mono hlt1)
    have hi := hi.below (hst.mono hlt2)
    have ht := ht.below (hst.mono hlt3)
    have hd := hd.below (hst.mono hlt4)
    have hlt0 := Nat.le_trans hlt0 hst.size
    have hlt1 := Nat.le_trans hlt1 hst.size
    have hlt2 := Nat.le_trans hlt2 hst.size
    have hlt3 := Nat.le_trans hlt3 hst.size
    have hlt4 := Nat.le_trans hlt4 hst.size
    have hlt8 : w8.heap.size ≤ w8.heap.size := Nat.le_refl _
    clear hst hb7
    clear hlt7
    clear hcb
    have hcb := rd_box hbx
    go_wp2_with fail
    refine (is_true _ l _ _ _ _ _ _ _ _ _ _ _ _ he hr hcb CI.out).mono ?_
    rintro e _ ⟨rfl, rfl⟩
    clear he
    clear hi
    go_wp2_with fail
    refine (strs_any X _ _ _ _ _ ht hlt3 (by omega)).mono ?_
    rintro e w9 hret
    obtain ⟨A9, c9, rfl, _, he, hst⟩ := hret.open
    have hb9 := below_call0 hb8 hst
    clear hret
    have hr := hr.below (hst.mono hlt0)
    have hbx := hbx.below (hst.mono hlt1)
    have ht := ht.below (hst.mono hlt3)
    have hd := hd.below (hst.mono hlt4)
    have hlt0 := Nat.le_trans hlt0 hst.size
    have hlt1 := Nat.le_trans hlt1 hst.size
    have hlt3 := Nat.le_trans hlt3 hst.size
    have hlt4 := Nat.le_trans hlt4 hst.size
    have hlt9 : w9.heap.size ≤ w9.heap.size := Nat.le_refl _
    clear hst hb8
    clear hlt8
    clear hcb
    have hcb := rd_box hbx
    go_wp2_with fail
    refine (is_true _ l _ _ _ _ _ _ _ _ _ _ _ _ he hr hcb CT.out).mono ?_
    rintro e _ ⟨rfl, rfl⟩
    clear he
    clear ht
    go_wp2_with fail
    refine (digs_any D _ _ _ _ _ hd hlt4 (by omega)).mono ?_
    rintro e w10 hret
    obtain ⟨A10, c10, rfl, _, he, hst⟩ := hret.open
    have hb10 := below_call0 hb9 hst
    clear hret
    have hr := hr.below (hst.mono hlt0)
    have hbx := hbx.below (hst.mono hlt1)
    have hd := hd.below (hst.mono hlt4)
    have hlt0 := Nat.le_trans hlt0 hst.size
    have hlt1 := Nat.le_trans hlt1 hst.size
    have hlt4 := Nat.le_trans hlt4 hst.size
    have hlt10 : w10.heap.size ≤ w10.heap.size := Nat.le_refl _
    clear hst hb9
    clear hlt9
    clear hcb
    have hcb := rd_box hbx
    go_wp2_with fail
    refine (is_true _ l _ _ _ _ _ _ _ _ _ _ _ _ he hr hcb CD.out).mono ?_
    rintro e _ ⟨rfl, rfl⟩
    clear he
    clear hd
    go_wp2_with fail
    go_ret
    exact ⟨by first | rfl | (simp; done) | (simp; omega), hb10⟩
end Go.Proofs.Ytelphmfdpnmncaa
