/-
 MH: several texts in one. No statement is proved here.
-/
import Derived.Test.YtgjgjimgomhbmaaGreatDoorMG
import Derived.Test.YtgjgjimgomhbmaaGreatDoorMB
import Derived.Laws.OwnMore
import Derived.Laws.EntriesVeiled
import Derived.Test.YtgjgjimgomhbmaaGreatDoorMC
set_option maxRecDepth 100000
set_option maxHeartbeats 4000000
set_option linter.unusedVariables false
set_option linter.unusedSimpArgs false
namespace Go.Proofs.YtgjgjimgomhbmaaGreatDoor
open Go.RowKit
theorem new_row (w : World) (cs : List Value) (t : TypeId) (n : Nat) (hs : cs.length = n) (hn : n ≤ 65536) :
 Rd (w.alloc (.cells cs.toArray t)) (w.alloc (.cells cs.toArray t)).heap.size 1 (some ⟨w.heap.size, 0, none⟩) n n cs ∧ Below w.heap.size w (w.alloc (.cells cs.toArray t)) :=
 ⟨⟨by omega, Nat.le_refl _, by unfold maxLen; omega, fun _ => ⟨w.heap.size, 0, rfl, by simp, cells_new w cs t⟩⟩, (Below.refl _ _).alloc (Nat.le_refl _) _⟩
theorem macD_len (k t : List UInt8) : (mac k t).length = 32 := sha_len _
theorem startD_len (seed : List UInt8) (i j : Int) : (startD seed i j).length = 16 := by
 unfold startD; rw [List.length_take, macD_len]; rfl
theorem enc2_64 {i j : Int} (hi : isI64 i) (hj : isI64 j) : ∀ x ∈ [i, j], isI64 x := by
 intro x hx
 simp only [List.mem_cons, List.not_mem_nil, or_false] at hx
 rcases hx with rfl | rfl
 ·exact hi
 ·exact hj
theorem encI2_le (i j : Int) : (encI [i, j]).length ≤ 1000 := Nat.le_trans (encI_leSg _) (by simp)
theorem start_any (seed : List UInt8) (i j : Int) (w : World) (ht : Tabs w) (hi : isI64 i) (hj : isI64 j) (hs : seed.length ≤ 100000000) :
 Calls Tryz.prog 70 #[sv seed, .int .i64 i, .int .i64 j] w fun e w' => e = .returned (.agg (bcs (startD seed i j)).toArray) ∧ Below w.heap.size w w' := by
 have HL := Lib.hid (show (bcs (startD seed i j)).length = 16 by rw [bcs_length]; exact startD_len _ _ _)
 have hg : w.heap.size ≤ w.heap.size := Nat.le_refl _
 have h64 := Lib.hid (enc2_64 hi hj)
 have hlen := encI2_le i j
 unfold sv
 go_enter Tryz.func70, Tryz.ntmps70
 go_wp2_with (with_reducible refine alArr (z := zerosB 16) Tryz.ag_b16 (wn rfl) rfl ?_)
 intro w1 h6 bw1
 have hb := bw1
 clear bw1
 go_wp2_with fail
 obtain ⟨hrd, bw2⟩ := new_row w1 [.int .i64 i, .int .i64 j] 3 2 rfl (by omega)
 generalize w1.alloc (.cells [.int .i64 i, .int .i64 j].toArray 3) = w2 at *
 replace h6 := h6.below bw2 h6.lt
 replace hb := hb.trans (bw2.mono hb.size)
 clear bw2
 refine (ints_any [i, j] _ 2 2 _ w2 hrd (Nat.le_refl _) h64.out (by omega)).mono ?_
 rintro e w3 hret
 obtain ⟨Aw3, cw3, rfl, _, hrd3, bw3⟩ := hret.open
 clear hret
 replace h6 := h6.below bw3 h6.lt
 replace hb := hb.trans (bw3.mono hb.size)
 clear bw3
 clear hrd
 go_wp2_with (with_reducible refine convStr (.tmp 11) (encI [i, j]) Tryz.sl_u8.und Tryz.und_u8 Tryz.und_str (wn rfl) rfl rfl hrd3 ?_)
 clear hrd3
 go_wp2_with fail
 refine (mac_any seed (encI [i, j]) w3 (ht.below hb ht.size) hs (by omega)).mono ?_
 rintro e w4 ⟨rfl, bw4⟩
 unfold sv
 replace h6 := h6.below bw4 h6.lt
 replace hb := hb.trans (bw4.mono hb.size)
 clear bw4
 go_wp2_with fail
 refine (sgDigest_any (mac seed (encI [i, j])) w4 (by rw [macD_len]; omega)).mono ?_
 rintro e w5 ⟨rfl, bw5⟩
 replace h6 := h6.below bw5 h6.lt
 replace hb := hb.trans (bw5.mono hb.size)
 clear bw5
 go_wp2_with (with_reducible refine stArr (cs := bcs (startD seed i j)) (.tmp 6) (.tmp 14) Tryz.ag_b16 (wn rfl) rfl rfl rfl h6 (zerosB_len _) HL.out (bcs_one _) ?_)
 intro w6 h6 hkeep hbel
 replace hb := hb.trans (hbel _ hg)
 clear hkeep hbel
 go_wp2_with fail
 refine bodyPost_ret (v := (.agg (bcs (startD seed i j)).toArray)) ?_ rfl ⟨rfl, hb⟩
 exact res_cell1 _ Tryz.results70 Tryz.ag_b16 _ rfl HL.out (fun j u hu => by rw [Nat.zero_add]; exact h6.cell hu)
theorem refStart_any (seed : List UInt8) (i j : Int) (w : World) (ht : TabsR w) (hi : isI64 i) (hj : isI64 j) (hs : seed.length ≤ 100000000) :
 Calls Tryz.prog 77 #[sv seed, .int .i64 i, .int .i64 j] w fun e w' => e = .returned (.agg (bcs (startD seed i j)).toArray) ∧ Below w.heap.size w w' := by
 have HL := Lib.hid (show (bcs (startD seed i j)).length = 16 by rw [bcs_length]; exact startD_len _ _ _)
 have hg : w.heap.size ≤ w.heap.size := Nat.le_refl _
 have h64 := Lib.hid (enc2_64 hi hj)
 have hlen := encI2_le i j
 unfold sv
 go_enter Tryz.func77, Tryz.ntmps77
 go_wp2_with (with_reducible refine alArr (z := zerosB 16) Tryz.ag_b16 (wn rfl) rfl ?_)
 intro w1 h6 bw1
 have hb := bw1
 clear bw1
 go_wp2_with fail
 obtain ⟨hrd, bw2⟩ := new_row w1 [.int .i64 i, .int .i64 j] 3 2 rfl (by omega)
 generalize w1.alloc (.cells [.int .i64 i, .int .i64 j].toArray 3) = w2 at *
 replace h6 := h6.below bw2 h6.lt
 replace hb := hb.trans (bw2.mono hb.size)
 clear bw2
 refine (refInts_any [i, j] _ 2 2 _ w2 hrd (Nat.le_refl _) h64.out (by omega)).mono ?_
 rintro e w3 hret
 obtain ⟨Aw3, cw3, rfl, _, hrd3, bw3⟩ := hret.open
 clear hret
 replace h6 := h6.below bw3 h6.lt
 replace hb := hb.trans (bw3.mono hb.size)
 clear bw3
 clear hrd
 go_wp2_with (with_reducible refine convStr (.tmp 11) (encI [i, j]) Tryz.sl_u8.und Tryz.und_u8 Tryz.und_str (wn rfl) rfl rfl hrd3 ?_)
 clear hrd3
 go_wp2_with fail
 refine (refMac_any seed (encI [i, j]) w3 (ht.below hb ht.size) hs (by omega)).mono ?_
 rintro e w4 ⟨rfl, bw4⟩
 unfold sv
 replace h6 := h6.below bw4 h6.lt
 replace hb := hb.trans (bw4.mono hb.size)
 clear bw4
 go_wp2_with (with_reducible refine slStrH (.tmp 13) (.const (.int .i64 16)) (mac seed (encI [i, j])) 16 (wn rfl) rfl rfl rfl rfl (by rw [macD_len]; omega) Tryz.und_str ?_)
 go_wp2_with fail
 refine (refDig_any ((mac seed (encI [i, j])).take 16) w4 (by rw [List.length_take, macD_len]; omega)).mono ?_
 rintro e w5 ⟨rfl, bw5⟩
 replace h6 := h6.below bw5 h6.lt
 replace hb := hb.trans (bw5.mono hb.size)
 clear bw5
 rw [List.take_take, Nat.min_self]
 go_wp2_with (with_reducible refine stArr (cs := bcs (startD seed i j)) (.tmp 6) (.tmp 15) Tryz.ag_b16 (wn rfl) rfl rfl rfl h6 (zerosB_len _) HL.out (bcs_one _) ?_)
 intro w6 h6 hkeep hbel
 replace hb := hb.trans (hbel _ hg)
 clear hkeep hbel
 go_wp2_with fail
 refine bodyPost_ret (v := (.agg (bcs (startD seed i j)).toArray)) ?_ rfl ⟨rfl, hb⟩
 exact res_cell1 _ Tryz.results77 Tryz.ag_b16 _ rfl HL.out (fun j u hu => by rw [Nat.zero_add]; exact h6.cell hu)
theorem message_any (p : List UInt8) (i : Int) (m : List UInt8) (w : World) (ht : Tabs w) (hp : p.length = 16) (hi : isI64 i) (hm : m.length ≤ 100000000) :
 Calls Tryz.prog 68 #[.agg (bcs p).toArray, .int .i64 i, sv m] w fun e w' => e = .returned (.agg (bcs (messageD p i m)).toArray) ∧ Below w.heap.size w w' := by
 have HP := Lib.hid (show (bcs p).length = 16 by rw [bcs_length]; exact hp)
 have HL := Lib.hid (show (bcs (messageD p i m)).length = 16 by rw [bcs_length]; exact ofDig_len _ _)
 have hg : w.heap.size ≤ w.heap.size := Nat.le_refl _
 have HPL := Lib.hid hp
 have hen := enc_len i
 have hin : (inputOf 6 [p, enc i, m]).length ≤ 1000000000 := input3_le 6 _ _ _ (by omega) (by omega) hm
 have hsv : ∀ l : List UInt8, Value.string ⟨l.toArray⟩ = sv l := fun _ => rfl
 have HSV := Lib.hid hsv
 clear hp hsv
 unfold isI64 at hi
 unfold sv
 go_enter Tryz.func68, Tryz.ntmps68
 go_wp2_with (with_reducible refine bxArr (cs := bcs p) (.tmp 0) (wn rfl) rfl rfl ?_)
 intro w1 h3 bw1
 have hb := bw1
 clear bw1
 have l3 := h3.lt
 have l3s : w.heap.size < w1.heap.size := h3.lt
 go_wp2_with (with_reducible refine alArr (z := zerosB 16) Tryz.ag_b16 (wn rfl) rfl ?_)
 intro w2 h6 bw2
 replace h3 := h3.below bw2 h3.lt
 replace hb := hb.trans (bw2.mono hb.size)
 clear bw2
 have hg6 : w.heap.size ≤ w1.heap.size := by omega
 generalize hgen : w1.heap.size = g6 at *
 clear hgen
 go_wp2_with (with_reducible refine ldArr (.tmp 3) Tryz.ag_b16 (wn rfl) rfl rfl HP.out h3 ?_)
 go_wp2_with fail
 refine (sgText_any p w2 HPL.out).mono ?_
 rintro e w3 ⟨rfl, bw3⟩
 unfold sv
 replace h3 := h3.below bw3 h3.lt
 replace h6 := h6.below bw3 h6.lt
 replace hb := hb.trans (bw3.mono hb.size)
 clear bw3
 clear h3
 go_wp2_with fail
 refine (int_any i w3 hi.1 hi.2).mono ?_
 rintro e w4 hret
 obtain ⟨Aw4, cw4, rfl, _, hrd3, bw4⟩ := hret.open
 clear hret
 replace h6 := h6.below bw4 h6.lt
 replace hb := hb.trans (bw4.mono hb.size)
 clear bw4
 go_wp2_with (with_reducible refine convStr (.tmp 10) (enc i) Tryz.sl_u8.und Tryz.und_u8 Tryz.und_str (wn rfl) rfl rfl hrd3 ?_)
 clear hrd3
 go_wp2_with fail
 obtain ⟨hrd4, bw5⟩ := new_row w4 [.string ⟨p.toArray⟩, .string ⟨(enc i).toArray⟩, .string ⟨m.toArray⟩] 9 3 rfl (by omega)
 generalize w4.alloc (.cells [.string ⟨p.toArray⟩, .string ⟨(enc i).toArray⟩, .string ⟨m.toArray⟩].toArray 9) = w5 at *
 replace h6 := h6.below bw5 h6.lt
 replace hb := hb.trans (bw5.mono hb.size)
 clear bw5
 refine (of_any 6 [p, enc i, m] _ 3 3 _ w5 (ht.below hb ht.size) hrd4 (Nat.le_refl _) hin (by simp)).mono ?_
 rintro e w6 ⟨rfl, bw6⟩
 replace h6 := h6.below bw6 h6.lt
 replace hb := hb.trans (bw6.mono hb.size)
 clear bw6
 clear hrd4
 go_wp2_with (with_reducible refine stArr (cs := bcs (messageD p i m)) (.tmp 6) (.tmp 14) Tryz.ag_b16 (wn rfl) rfl rfl rfl h6 (zerosB_len _) HL.out (bcs_one _) ?_)
 intro w7 h6 hkeep hbel
 replace hb := hb.trans (hbel _ (by omega))
 clear hkeep hbel
 go_wp2_with fail
 refine bodyPost_ret (v := (.agg (bcs (messageD p i m)).toArray)) ?_ rfl ⟨rfl, hb⟩
 exact res_cell1 _ Tryz.results68 Tryz.ag_b16 _ rfl HL.out (fun j u hu => by rw [Nat.zero_add]; exact h6.cell hu)
theorem refMessage_any (p : List UInt8) (i : Int) (m : List UInt8) (w : World) (ht : TabsR w) (hp : p.length = 16) (hi : isI64 i) (hm : m.length ≤ 100000000) :
 Calls Tryz.prog 75 #[.agg (bcs p).toArray, .int .i64 i, sv m] w fun e w' => e = .returned (.agg (bcs (messageD p i m)).toArray) ∧ Below w.heap.size w w' := by
 have HP := Lib.hid (show (bcs p).length = 16 by rw [bcs_length]; exact hp)
 have HL := Lib.hid (show (bcs (messageD p i m)).length = 16 by rw [bcs_length]; exact ofDig_len _ _)
 have hg : w.heap.size ≤ w.heap.size := Nat.le_refl _
 have HPL := Lib.hid hp
 have hen := enc_len i
 have hin : (inputOf 6 [p, enc i, m]).length ≤ 1000000000 := input3_le 6 _ _ _ (by omega) (by omega) hm
 have hsv : ∀ l : List UInt8, Value.string ⟨l.toArray⟩ = sv l := fun _ => rfl
 have HSV := Lib.hid hsv
 clear hp hsv
 unfold isI64 at hi
 unfold sv
 go_enter Tryz.func75, Tryz.ntmps75
 go_wp2_with (with_reducible refine bxArr (cs := bcs p) (.tmp 0) (wn rfl) rfl rfl ?_)
 intro w1 h3 bw1
 have hb := bw1
 clear bw1
 have l3 := h3.lt
 have l3s : w.heap.size < w1.heap.size := h3.lt
 go_wp2_with (with_reducible refine alArr (z := zerosB 16) Tryz.ag_b16 (wn rfl) rfl ?_)
 intro w2 h6 bw2
 replace h3 := h3.below bw2 h3.lt
 replace hb := hb.trans (bw2.mono hb.size)
 clear bw2
 have hg6 : w.heap.size ≤ w1.heap.size := by omega
 generalize hgen : w1.heap.size = g6 at *
 clear hgen
 go_wp2_with (with_reducible refine ldArr (.tmp 3) Tryz.ag_b16 (wn rfl) rfl rfl HP.out h3 ?_)
 go_wp2_with fail
 refine (text_any p w2 HPL.out).mono ?_
 rintro e w3 ⟨rfl, bw3⟩
 unfold sv
 replace h3 := h3.below bw3 h3.lt
 replace h6 := h6.below bw3 h6.lt
 replace hb := hb.trans (bw3.mono hb.size)
 clear bw3
 clear h3
 go_wp2_with fail
 refine (refInt_any i w3 hi.1 hi.2).mono ?_
 rintro e w4 hret
 obtain ⟨Aw4, cw4, rfl, _, hrd3, bw4⟩ := hret.open
 clear hret
 replace h6 := h6.below bw4 h6.lt
 replace hb := hb.trans (bw4.mono hb.size)
 clear bw4
 go_wp2_with (with_reducible refine convStr (.tmp 10) (enc i) Tryz.sl_u8.und Tryz.und_u8 Tryz.und_str (wn rfl) rfl rfl hrd3 ?_)
 clear hrd3
 go_wp2_with fail
 obtain ⟨hrd4, bw5⟩ := new_row w4 [.string ⟨p.toArray⟩, .string ⟨(enc i).toArray⟩, .string ⟨m.toArray⟩] 9 3 rfl (by omega)
 generalize w4.alloc (.cells [.string ⟨p.toArray⟩, .string ⟨(enc i).toArray⟩, .string ⟨m.toArray⟩].toArray 9) = w5 at *
 replace h6 := h6.below bw5 h6.lt
 replace hb := hb.trans (bw5.mono hb.size)
 clear bw5
 refine (refOf_any 6 [p, enc i, m] _ 3 3 _ w5 (ht.below hb ht.size) hrd4 (Nat.le_refl _) hin (by simp)).mono ?_
 rintro e w6 ⟨rfl, bw6⟩
 replace h6 := h6.below bw6 h6.lt
 replace hb := hb.trans (bw6.mono hb.size)
 clear bw6
 clear hrd4
 go_wp2_with (with_reducible refine stArr (cs := bcs (messageD p i m)) (.tmp 6) (.tmp 14) Tryz.ag_b16 (wn rfl) rfl rfl rfl h6 (zerosB_len _) HL.out (bcs_one _) ?_)
 intro w7 h6 hkeep hbel
 replace hb := hb.trans (hbel _ (by omega))
 clear hkeep hbel
 go_wp2_with fail
 refine bodyPost_ret (v := (.agg (bcs (messageD p i m)).toArray)) ?_ rfl ⟨rfl, hb⟩
 exact res_cell1 _ Tryz.results75 Tryz.ag_b16 _ rfl HL.out (fun j u hu => by rw [Nat.zero_add]; exact h6.cell hu)
theorem refLeaf_any (D : List UInt8) (A : Option Addr) (n c B : Nat) (w : World) (ht : TabsR w) (hr : Rd w B 16 A n c (bcs D)) (hB : B ≤ w.heap.size) (hn : (encD n D).length ≤ 100000000) :
 Calls Tryz.prog 101 #[.slice A n c] w fun e w' => e = .returned (.agg (bcs (ofDig 4 [encD n D])).toArray) ∧ Below w.heap.size w w' := by
 have HL := Lib.hid (show (bcs (ofDig 4 [encD n D])).length = 16 by rw [bcs_length]; exact ofDig_len _ _)
 have hg : w.heap.size ≤ w.heap.size := Nat.le_refl _
 have hin : (inputOf 4 [encD n D]).length ≤ 1000000000 := inputB_le 4 _ hn
 go_enter Tryz.func101, Tryz.ntmps101
 go_wp2_with (with_reducible refine alArr (z := zerosB 16) Tryz.ag_b16 (wn rfl) rfl ?_)
 intro w1 h2 bw1
 replace hr := hr.below (bw1.mono (by omega))
 have hb := bw1
 clear bw1
 have hsz := hb.size
 go_wp2_with fail
 refine (refDigs_any D A n c B w1 hr (by omega) (by omega)).mono ?_
 rintro e w2 hret
 obtain ⟨Aw2, cw2, rfl, _, hrd3, bw2⟩ := hret.open
 clear hret
 replace h2 := h2.below bw2 h2.lt
 replace hr := hr.below (bw2.mono (by omega))
 replace hb := hb.trans (bw2.mono hb.size)
 clear bw2
 clear hr
 go_wp2_with (with_reducible refine convStr (.tmp 4) (encD n D) Tryz.sl_u8.und Tryz.und_u8 Tryz.und_str (wn rfl) rfl rfl hrd3 ?_)
 clear hrd3
 go_wp2_with fail
 obtain ⟨hrd4, bw3⟩ := new_row w2 [.string ⟨(encD n D).toArray⟩] 9 1 rfl (by omega)
 generalize w2.alloc (.cells [.string ⟨(encD n D).toArray⟩].toArray 9) = w3 at *
 replace h2 := h2.below bw3 h2.lt
 replace hb := hb.trans (bw3.mono hb.size)
 clear bw3
 refine (refOf_any 4 [encD n D] _ 1 1 _ w3 (ht.below hb ht.size) hrd4 (Nat.le_refl _) hin (by simp)).mono ?_
 rintro e w4 ⟨rfl, bw4⟩
 replace h2 := h2.below bw4 h2.lt
 replace hb := hb.trans (bw4.mono hb.size)
 clear bw4
 clear hrd4
 go_wp2_with (with_reducible refine stArr (cs := bcs (ofDig 4 [encD n D])) (.tmp 2) (.tmp 7) Tryz.ag_b16 (wn rfl) rfl rfl rfl h2 (zerosB_len _) HL.out (bcs_one _) ?_)
 intro w5 h2 hkeep hbel
 replace hb := hb.trans (hbel _ hg)
 clear hkeep hbel
 go_wp2_with fail
 refine bodyPost_ret (v := (.agg (bcs (ofDig 4 [encD n D])).toArray)) ?_ rfl ⟨rfl, hb⟩
 exact res_cell1 _ Tryz.results101 Tryz.ag_b16 _ rfl HL.out (fun j u hu => by rw [Nat.zero_add]; exact h2.cell hu)
def GJoin (lv n : Int) (da db : List UInt8) (ix_ : Nat) (v : Value) (w : World) : Prop :=
 match ix_ with
 | 2 => Reads 2 (([lv, n]).map iv) v w
 | 3 => Reads (encI [lv, n]).length (bcs (encI [lv, n])) v w
 | 4 => v = sv (encI [lv, n])
 | 5 => v = .agg (bcs da).toArray
 | 6 => v = sv da
 | 7 => v = .agg (bcs db).toArray
 | 8 => v = sv db
 | 9 => Reads 3 (([encI [lv, n], da, db]).map sv) v w
 | 10 => v = .agg (bcs (joinD lv n da db)).toArray
 | _ => True
theorem join_any (lv n : Int) (da db : List UInt8) (w : World) (ht : Tabs w) (hl : isI64 lv) (hn : isI64 n) (ha : da.length = 16) (hbl : db.length = 16) :
 Calls Tryz.prog 86 #[.int .i64 lv, .int .i64 n, .agg (bcs da).toArray, .agg (bcs db).toArray] w fun e w' => e = .returned (.agg (bcs (joinD lv n da db)).toArray) ∧ Below w.heap.size w w' := by
 have HA := Lib.hid (show (bcs da).length = 16 by rw [bcs_length]; exact ha)
 have HB := Lib.hid (show (bcs db).length = 16 by rw [bcs_length]; exact hbl)
 have HL := Lib.hid (show (bcs (joinD lv n da db)).length = 16 by rw [bcs_length]; exact ofDig_len _ _)
 have HAL := Lib.hid ha
 have HBL := Lib.hid hbl
 have h64 := Lib.hid (enc2_64 hl hn)
 have hlen := encI2_le lv n
 have hin : (inputOf 5 [encI [lv, n], da, db]).length ≤ 1000000000 := input3_le 5 _ _ _ (by omega) (by omega) (by omega)
 clear ha hbl
 go_enter Tryz.func86, Tryz.ntmps86
 go_wp2_with (with_reducible refine bxArr (cs := bcs da) (.tmp 2) (wn rfl) rfl rfl ?_)
 intro w1 h6 bw1
 have hb := bw1
 clear bw1
 have l6 : w.heap.size < w1.heap.size := h6.lt
 go_wp2_with (with_reducible refine bxArr (cs := bcs db) (.tmp 3) (wn rfl) rfl rfl ?_)
 intro w2 h7 bw2
 replace h6 := h6.below bw2 h6.lt
 replace hb := hb.trans (bw2.mono hb.size)
 clear bw2
 have l7 : w1.heap.size < w2.heap.size := h7.lt
 generalize hgen : w1.heap.size = g7 at *
 clear hgen
 go_wp2_with (with_reducible refine alArr (z := zerosB 16) Tryz.ag_b16 (wn rfl) rfl ?_)
 intro w3 h8 bw3
 replace h6 := h6.below bw3 h6.lt
 replace h7 := h7.below bw3 h7.lt
 replace hb := hb.trans (bw3.mono hb.size)
 clear bw3
 have hg8 : w.heap.size ≤ w2.heap.size := by omega
 generalize hgen : w2.heap.size = g8 at *
 clear hgen
 go_wp2_with fail
 refine aStart kr_ ?_
 replace h6 := h6.drew
 replace h7 := h7.drew
 replace h8 := h8.drew
 replace hb := hb.drew
 generalize w3.drew = wd at *
 refine aTake (i := 0) (v := .int .i64 lv) rfl kr_ (wn rfl) (fun _ _ _ h => h) (fun w => by kernel_rfl) ?_
 refine aTake (i := 1) (v := .int .i64 n) rfl kr_ (wn rfl) (fun _ _ _ h => h) (fun w => by kernel_rfl) ?_
 refine rgFloat [(2, 11), (3, 12), (4, 13), (5, 14), (6, 15), (7, 16), (8, 17), (9, 18), (10, 19)] (GJoin lv n da db) _ 1 rfl kr_ ?mono ?step ?fin
 case mono =>
  intro p hp v w w' h hE
  simp only [List.mem_cons, List.not_mem_nil, or_false] at hp
  rcases hp with rfl | rfl | rfl | rfl | rfl | rfl | rfl | rfl | rfl
  ·exact Reads.ext h hE
  ·exact Reads.ext h hE
  ·exact h
  ·exact h
  ·exact h
  ·exact h
  ·exact h
  ·exact Reads.ext h hE
  ·exact h
 case step =>
  intro p hp
  simp only [List.mem_cons, List.not_mem_nil, or_false] at hp
  rcases hp with rfl | rfl | rfl | rfl | rfl | rfl | rfl | rfl | rfl
  ·refine ⟨_, rfl, rfl, fun a w' hF hE hG => ?_⟩
   have hx9 : a.eval (.tmp 9) = iv (lv) := (hF.eval 9 kr_).trans kr_
   have hx10 : a.eval (.tmp 10) = iv (n) := (hF.eval 10 kr_).trans kr_
   refine bsRow (([lv, n]).map iv) Tryz.sl_intSg (wn rfl) rfl (by rw [Array.toList_map]; show [(0, a.eval (.tmp 9)), (1, a.eval (.tmp 10))] = _; rw [hx9, hx10]; rfl) rfl (by omega) (by omega) (iv_cells _) ?_
   intro A5 w5 hrd hb5
   exact ⟨_, rfl, hb5, A5, 2, _, rfl, Nat.le_refl _, hrd⟩
  ·refine ⟨_, rfl, rfl, fun a w' hF hE hG => ?_⟩
   obtain ⟨A5, c5, B5, q1, q2, hrd⟩ : Reads 2 (([lv, n]).map iv) (a.tmps.getD 11 undef) w' := hG (2, 11) (by simp) kr_
   refine callOp 46 [.slice A5 2 c5] [] [] kr_ (wn rfl) rfl rfl (by rw [← q1]; rfl) ?_
   refine (ints_any [lv, n] A5 2 c5 B5 w' hrd q2 h64.out (by omega)).mono ?_
   rintro e w2 hret
   obtain ⟨A6, c6, rfl, _, hrd2, hb2⟩ := hret.open
   exact ⟨_, rfl, ⟨_, rfl, hb2, A6, c6, _, rfl, Nat.le_refl _, hrd2⟩⟩
  ·refine ⟨_, rfl, rfl, fun a w' hF hE hG => ?_⟩
   obtain ⟨A5, c5, B5, q1, q2, hrd⟩ : Reads (encI [lv, n]).length (bcs (encI [lv, n])) (a.tmps.getD 12 undef) w' := hG (3, 12) (by simp) kr_
   refine convStr (.tmp 12) (encI [lv, n]) Tryz.sl_u8.und Tryz.und_u8 Tryz.und_str (wn rfl) rfl q1 hrd ?_
   exact ⟨_, rfl, Below.refl _ _, rfl⟩
  ·refine ⟨_, rfl, rfl, fun a w' hF hE hG => ?_⟩
   refine ldArr (b := w.heap.size) (.tmp 6) Tryz.ag_b16 (wn rfl) rfl ((hF.eval 6 kr_).trans kr_) HA.out (h6.below hE h6.lt) ?_
   exact ⟨_, rfl, Below.refl _ _, rfl⟩
  ·refine ⟨_, rfl, rfl, fun a w' hF hE hG => ?_⟩
   have hx : a.tmps.getD 14 undef = .agg (bcs da).toArray := hG (5, 14) (by simp) kr_
   refine callOp 110 [.agg (bcs da).toArray] [] [] kr_ (wn rfl) rfl rfl (by rw [← hx]; rfl) ?_
   refine (sgText_any da w' HAL.out).mono ?_
   rintro e w2 ⟨rfl, hb2⟩
   exact ⟨_, rfl, ⟨_, rfl, hb2, rfl⟩⟩
  ·refine ⟨_, rfl, rfl, fun a w' hF hE hG => ?_⟩
   refine ldArr (b := g7) (.tmp 7) Tryz.ag_b16 (wn rfl) rfl ((hF.eval 7 kr_).trans kr_) HB.out (h7.below hE h7.lt) ?_
   exact ⟨_, rfl, Below.refl _ _, rfl⟩
  ·refine ⟨_, rfl, rfl, fun a w' hF hE hG => ?_⟩
   have hx : a.tmps.getD 16 undef = .agg (bcs db).toArray := hG (7, 16) (by simp) kr_
   refine callOp 110 [.agg (bcs db).toArray] [] [] kr_ (wn rfl) rfl rfl (by rw [← hx]; rfl) ?_
   refine (sgText_any db w' HBL.out).mono ?_
   rintro e w2 ⟨rfl, hb2⟩
   exact ⟨_, rfl, ⟨_, rfl, hb2, rfl⟩⟩
  ·refine ⟨_, rfl, rfl, fun a w' hF hE hG => ?_⟩
   have hx13 : a.tmps.getD 13 undef = sv (encI [lv, n]) := hG (4, 13) (by simp) kr_
   have hx15 : a.tmps.getD 15 undef = sv (da) := hG (6, 15) (by simp) kr_
   have hx17 : a.tmps.getD 17 undef = sv (db) := hG (8, 17) (by simp) kr_
   refine bsRow (([encI [lv, n], da, db]).map sv) Tryz.sl_strSg (wn rfl) rfl (by rw [Array.toList_map]; show [(0, a.tmps.getD 13 undef), (1, a.tmps.getD 15 undef), (2, a.tmps.getD 17 undef)] = _; rw [hx13, hx15, hx17]; rfl) rfl (by omega) (by omega) (sv_cells _) ?_
   intro A5 w5 hrd hb5
   exact ⟨_, rfl, hb5, A5, 3, _, rfl, Nat.le_refl _, hrd⟩
  ·refine ⟨_, rfl, rfl, fun a w' hF hE hG => ?_⟩
   obtain ⟨A5, c5, B5, q1, q2, hrd⟩ : Reads 3 (([encI [lv, n], da, db]).map sv) (a.tmps.getD 18 undef) w' := hG (9, 18) (by simp) kr_
   refine callOp 62 [.int .i64 5, .slice A5 3 c5] [] [] kr_ (wn rfl) rfl rfl (by rw [← q1]; rfl) ?_
   refine (of_any 5 [encI [lv, n], da, db] A5 3 c5 B5 w' (ht.below (hb.trans (hE.mono hb.size)) ht.size) hrd q2 hin (by simp)).mono ?_
   rintro e w2 ⟨rfl, hb2⟩
   exact ⟨_, rfl, ⟨_, rfl, hb2, rfl⟩⟩
 case fin =>
  intro a wf hF hE hG
  have qf : a.tmps.getD 19 undef = .agg (bcs (joinD lv n da db)).toArray := hG (10, 19) (by simp)
  replace h8 := h8.below hE h8.lt
  have hszf := hb.size
  replace hb := hb.trans (hE.mono hb.size)
  rw [hF.eq]
  simp only [putsX]
  rw [qf]
  generalize a.tmps.getD 11 undef = x11
  generalize a.tmps.getD 12 undef = x12
  generalize a.tmps.getD 13 undef = x13
  generalize a.tmps.getD 14 undef = x14
  generalize a.tmps.getD 15 undef = x15
  generalize a.tmps.getD 16 undef = x16
  generalize a.tmps.getD 17 undef = x17
  generalize a.tmps.getD 18 undef = x18
  clear hG hF hE qf
  refine aNext (i := 11) kr_ rfl ?_
  refine stArr (b := g8) (cs := bcs (joinD lv n da db)) (.tmp 8) (.tmp 19) Tryz.ag_b16 (wn rfl) rfl kr_ kr_ h8 (zerosB_len _) HL.out (bcs_one _) ?_
  intro w4 h8 hkeep hbel
  replace hb := hb.trans (hbel _ hg8)
  refine aDone kr_ ?_
  simp only [Act.put, List.setIfInBounds_toArray, List.set_cons_succ, List.set_cons_zero]
  go_wp2_with fail
  refine bodyPost_ret (v := .agg (bcs (joinD lv n da db)).toArray) ?_ rfl ⟨rfl, hb⟩
  exact res_cell1 _ Tryz.results86 Tryz.ag_b16 _ rfl HL.out (fun j u hu => by rw [Nat.zero_add]; exact h8.cell hu)
def GNode (lv n : Int) (da db : List UInt8) (ix_ : Nat) (v : Value) (w : World) : Prop :=
 match ix_ with
 | 2 => Reads 2 (([lv, n]).map iv) v w
 | 3 => Reads (encI [lv, n]).length (bcs (encI [lv, n])) v w
 | 4 => v = sv (encI [lv, n])
 | 5 => v = .agg (bcs da).toArray
 | 6 => v = sv da
 | 7 => v = .agg (bcs db).toArray
 | 8 => v = sv db
 | 9 => Reads 3 (([encI [lv, n], da, db]).map sv) v w
 | 10 => v = .agg (bcs (joinD lv n da db)).toArray
 | _ => True
theorem refNode_any (lv n : Int) (da db : List UInt8) (w : World) (ht : TabsR w) (hl : isI64 lv) (hn : isI64 n) (ha : da.length = 16) (hbl : db.length = 16) :
 Calls Tryz.prog 100 #[.int .i64 lv, .int .i64 n, .agg (bcs da).toArray, .agg (bcs db).toArray] w fun e w' => e = .returned (.agg (bcs (joinD lv n da db)).toArray) ∧ Below w.heap.size w w' := by
 have HA := Lib.hid (show (bcs da).length = 16 by rw [bcs_length]; exact ha)
 have HB := Lib.hid (show (bcs db).length = 16 by rw [bcs_length]; exact hbl)
 have HL := Lib.hid (show (bcs (joinD lv n da db)).length = 16 by rw [bcs_length]; exact ofDig_len _ _)
 have HAL := Lib.hid ha
 have HBL := Lib.hid hbl
 have h64 := Lib.hid (enc2_64 hl hn)
 have hlen := encI2_le lv n
 have hin : (inputOf 5 [encI [lv, n], da, db]).length ≤ 1000000000 := input3_le 5 _ _ _ (by omega) (by omega) (by omega)
 clear ha hbl
 go_enter Tryz.func100, Tryz.ntmps100
 go_wp2_with (with_reducible refine bxArr (cs := bcs da) (.tmp 2) (wn rfl) rfl rfl ?_)
 intro w1 h6 bw1
 have hb := bw1
 clear bw1
 have l6 : w.heap.size < w1.heap.size := h6.lt
 go_wp2_with (with_reducible refine bxArr (cs := bcs db) (.tmp 3) (wn rfl) rfl rfl ?_)
 intro w2 h7 bw2
 replace h6 := h6.below bw2 h6.lt
 replace hb := hb.trans (bw2.mono hb.size)
 clear bw2
 have l7 : w1.heap.size < w2.heap.size := h7.lt
 generalize hgen : w1.heap.size = g7 at *
 clear hgen
 go_wp2_with (with_reducible refine alArr (z := zerosB 16) Tryz.ag_b16 (wn rfl) rfl ?_)
 intro w3 h8 bw3
 replace h6 := h6.below bw3 h6.lt
 replace h7 := h7.below bw3 h7.lt
 replace hb := hb.trans (bw3.mono hb.size)
 clear bw3
 have hg8 : w.heap.size ≤ w2.heap.size := by omega
 generalize hgen : w2.heap.size = g8 at *
 clear hgen
 go_wp2_with fail
 refine aStart kr_ ?_
 replace h6 := h6.drew
 replace h7 := h7.drew
 replace h8 := h8.drew
 replace hb := hb.drew
 generalize w3.drew = wd at *
 refine aTake (i := 0) (v := .int .i64 lv) rfl kr_ (wn rfl) (fun _ _ _ h => h) (fun w => by kernel_rfl) ?_
 refine aTake (i := 1) (v := .int .i64 n) rfl kr_ (wn rfl) (fun _ _ _ h => h) (fun w => by kernel_rfl) ?_
 refine rgFloat [(2, 11), (3, 12), (4, 13), (5, 14), (6, 15), (7, 16), (8, 17), (9, 18), (10, 19)] (GNode lv n da db) _ 1 rfl kr_ ?mono ?step ?fin
 case mono =>
  intro p hp v w w' h hE
  simp only [List.mem_cons, List.not_mem_nil, or_false] at hp
  rcases hp with rfl | rfl | rfl | rfl | rfl | rfl | rfl | rfl | rfl
  ·exact Reads.ext h hE
  ·exact Reads.ext h hE
  ·exact h
  ·exact h
  ·exact h
  ·exact h
  ·exact h
  ·exact Reads.ext h hE
  ·exact h
 case step =>
  intro p hp
  simp only [List.mem_cons, List.not_mem_nil, or_false] at hp
  rcases hp with rfl | rfl | rfl | rfl | rfl | rfl | rfl | rfl | rfl
  ·refine ⟨_, rfl, rfl, fun a w' hF hE hG => ?_⟩
   have hx9 : a.eval (.tmp 9) = iv (lv) := (hF.eval 9 kr_).trans kr_
   have hx10 : a.eval (.tmp 10) = iv (n) := (hF.eval 10 kr_).trans kr_
   refine bsRow (([lv, n]).map iv) Tryz.sl_intSg (wn rfl) rfl (by rw [Array.toList_map]; show [(0, a.eval (.tmp 9)), (1, a.eval (.tmp 10))] = _; rw [hx9, hx10]; rfl) rfl (by omega) (by omega) (iv_cells _) ?_
   intro A5 w5 hrd hb5
   exact ⟨_, rfl, hb5, A5, 2, _, rfl, Nat.le_refl _, hrd⟩
  ·refine ⟨_, rfl, rfl, fun a w' hF hE hG => ?_⟩
   obtain ⟨A5, c5, B5, q1, q2, hrd⟩ : Reads 2 (([lv, n]).map iv) (a.tmps.getD 11 undef) w' := hG (2, 11) (by simp) kr_
   refine callOp 71 [.slice A5 2 c5] [] [] kr_ (wn rfl) rfl rfl (by rw [← q1]; rfl) ?_
   refine (refInts_any [lv, n] A5 2 c5 B5 w' hrd q2 h64.out (by omega)).mono ?_
   rintro e w2 hret
   obtain ⟨A6, c6, rfl, _, hrd2, hb2⟩ := hret.open
   exact ⟨_, rfl, ⟨_, rfl, hb2, A6, c6, _, rfl, Nat.le_refl _, hrd2⟩⟩
  ·refine ⟨_, rfl, rfl, fun a w' hF hE hG => ?_⟩
   obtain ⟨A5, c5, B5, q1, q2, hrd⟩ : Reads (encI [lv, n]).length (bcs (encI [lv, n])) (a.tmps.getD 12 undef) w' := hG (3, 12) (by simp) kr_
   refine convStr (.tmp 12) (encI [lv, n]) Tryz.sl_u8.und Tryz.und_u8 Tryz.und_str (wn rfl) rfl q1 hrd ?_
   exact ⟨_, rfl, Below.refl _ _, rfl⟩
  ·refine ⟨_, rfl, rfl, fun a w' hF hE hG => ?_⟩
   refine ldArr (b := w.heap.size) (.tmp 6) Tryz.ag_b16 (wn rfl) rfl ((hF.eval 6 kr_).trans kr_) HA.out (h6.below hE h6.lt) ?_
   exact ⟨_, rfl, Below.refl _ _, rfl⟩
  ·refine ⟨_, rfl, rfl, fun a w' hF hE hG => ?_⟩
   have hx : a.tmps.getD 14 undef = .agg (bcs da).toArray := hG (5, 14) (by simp) kr_
   refine callOp 78 [.agg (bcs da).toArray] [] [] kr_ (wn rfl) rfl rfl (by rw [← hx]; rfl) ?_
   refine (text_any da w' HAL.out).mono ?_
   rintro e w2 ⟨rfl, hb2⟩
   exact ⟨_, rfl, ⟨_, rfl, hb2, rfl⟩⟩
  ·refine ⟨_, rfl, rfl, fun a w' hF hE hG => ?_⟩
   refine ldArr (b := g7) (.tmp 7) Tryz.ag_b16 (wn rfl) rfl ((hF.eval 7 kr_).trans kr_) HB.out (h7.below hE h7.lt) ?_
   exact ⟨_, rfl, Below.refl _ _, rfl⟩
  ·refine ⟨_, rfl, rfl, fun a w' hF hE hG => ?_⟩
   have hx : a.tmps.getD 16 undef = .agg (bcs db).toArray := hG (7, 16) (by simp) kr_
   refine callOp 78 [.agg (bcs db).toArray] [] [] kr_ (wn rfl) rfl rfl (by rw [← hx]; rfl) ?_
   refine (text_any db w' HBL.out).mono ?_
   rintro e w2 ⟨rfl, hb2⟩
   exact ⟨_, rfl, ⟨_, rfl, hb2, rfl⟩⟩
  ·refine ⟨_, rfl, rfl, fun a w' hF hE hG => ?_⟩
   have hx13 : a.tmps.getD 13 undef = sv (encI [lv, n]) := hG (4, 13) (by simp) kr_
   have hx15 : a.tmps.getD 15 undef = sv (da) := hG (6, 15) (by simp) kr_
   have hx17 : a.tmps.getD 17 undef = sv (db) := hG (8, 17) (by simp) kr_
   refine bsRow (([encI [lv, n], da, db]).map sv) Tryz.sl_strSg (wn rfl) rfl (by rw [Array.toList_map]; show [(0, a.tmps.getD 13 undef), (1, a.tmps.getD 15 undef), (2, a.tmps.getD 17 undef)] = _; rw [hx13, hx15, hx17]; rfl) rfl (by omega) (by omega) (sv_cells _) ?_
   intro A5 w5 hrd hb5
   exact ⟨_, rfl, hb5, A5, 3, _, rfl, Nat.le_refl _, hrd⟩
  ·refine ⟨_, rfl, rfl, fun a w' hF hE hG => ?_⟩
   obtain ⟨A5, c5, B5, q1, q2, hrd⟩ : Reads 3 (([encI [lv, n], da, db]).map sv) (a.tmps.getD 18 undef) w' := hG (9, 18) (by simp) kr_
   refine callOp 63 [.int .i64 5, .slice A5 3 c5] [] [] kr_ (wn rfl) rfl rfl (by rw [← q1]; rfl) ?_
   refine (refOf_any 5 [encI [lv, n], da, db] A5 3 c5 B5 w' (ht.below (hb.trans (hE.mono hb.size)) ht.size) hrd q2 hin (by simp)).mono ?_
   rintro e w2 ⟨rfl, hb2⟩
   exact ⟨_, rfl, ⟨_, rfl, hb2, rfl⟩⟩
 case fin =>
  intro a wf hF hE hG
  have qf : a.tmps.getD 19 undef = .agg (bcs (joinD lv n da db)).toArray := hG (10, 19) (by simp)
  replace h8 := h8.below hE h8.lt
  have hszf := hb.size
  replace hb := hb.trans (hE.mono hb.size)
  rw [hF.eq]
  simp only [putsX]
  rw [qf]
  generalize a.tmps.getD 11 undef = x11
  generalize a.tmps.getD 12 undef = x12
  generalize a.tmps.getD 13 undef = x13
  generalize a.tmps.getD 14 undef = x14
  generalize a.tmps.getD 15 undef = x15
  generalize a.tmps.getD 16 undef = x16
  generalize a.tmps.getD 17 undef = x17
  generalize a.tmps.getD 18 undef = x18
  clear hG hF hE qf
  refine aNext (i := 11) kr_ rfl ?_
  refine stArr (b := g8) (cs := bcs (joinD lv n da db)) (.tmp 8) (.tmp 19) Tryz.ag_b16 (wn rfl) rfl kr_ kr_ h8 (zerosB_len _) HL.out (bcs_one _) ?_
  intro w4 h8 hkeep hbel
  replace hb := hb.trans (hbel _ hg8)
  refine aDone kr_ ?_
  simp only [Act.put, List.setIfInBounds_toArray, List.set_cons_succ, List.set_cons_zero]
  go_wp2_with fail
  refine bodyPost_ret (v := .agg (bcs (joinD lv n da db)).toArray) ?_ rfl ⟨rfl, hb⟩
  exact res_cell1 _ Tryz.results100 Tryz.ag_b16 _ rfl HL.out (fun j u hu => by rw [Nat.zero_add]; exact h8.cell hu)
def GRClimb (i j K : Int) (D : List UInt8) (ix_ : Nat) (v : Value) (w : World) : Prop :=
 match ix_ with
 | 3 => Reads 3 (([i, j, K]).map iv) v w
 | 4 => Reads (encI [i, j, K]).length (bcs (encI [i, j, K])) v w
 | 5 => v = sv (encI [i, j, K])
 | 6 => v = .agg (bcs D).toArray
 | 7 => v = sv D
 | 8 => Reads 2 (([encI [i, j, K], D]).map sv) v w
 | 9 => v = .agg (bcs (ofDig 4 [encI [i, j, K], D])).toArray
 | _ => True
theorem refClimb_any (i j : Int) (d : List UInt8) (a n : Nat) (w : World) (ht : TabsR w) (hi : isI64 i) (hj : isI64 j) (hd : d.length = 16) (han : a + n ≤ 1000) :
 Calls Tryz.prog 76 #[.int .i64 i, .int .i64 j, .agg (bcs d).toArray, .int .i64 (a : Int), .int .i64 ((a + n : Nat) : Int)] w fun e w' => e = .returned (.agg (bcs (climbD i j a d n)).toArray) ∧ Below w.heap.size w w' := by
 have hbd : (bcs d).length = 16 := by rw [bcs_length]; exact hd
 have HB := Lib.hid hbd
 clear hbd
 have hg : w.heap.size ≤ w.heap.size := Nat.le_refl _
 go_enter Tryz.func76, Tryz.ntmps76
 go_wp2_with (with_reducible refine bxArr (cs := bcs d) (.tmp 2) (wn rfl) rfl rfl ?_)
 intro w1 h7 hb
 have h7l := h7.lt
 go_wp2_with (with_reducible refine alArr (z := zerosB 16) Tryz.ag_b16 (wn rfl) rfl ?_)
 intro w2 h10 hb2
 have hne : w.heap.size ≠ w1.heap.size := by omega
 replace h7 := h7.below hb2 h7l
 replace hb := hb.trans (hb2.mono hb.size)
 clear hb2
 have hg10 : w.heap.size ≤ w1.heap.size := by omega
 clear h7l
 generalize w1.heap.size = g10 at *
 have h7' : Arr w2 w.heap.size 27 (bcs (climbD i j a d 0)) := h7
 clear h7
 go_wp2_with fail
 go_loopw [11] (fun k_ wr => ∃ (m : Nat) (K : Int), m ≤ n ∧ k_ = .int .i64 K ∧ K = ((a + m + 1 : Nat) : Int) ∧ Arr wr w.heap.size 27 (bcs (climbD i j a d m)) ∧ Arr wr g10 27 (zerosB 16) ∧ Below w.heap.size w wr) (fun k_ _ => a + n + 1 - (intOf k_).toNat)
 case atStart => exact ⟨0, _, by omega, rfl, by omega, h7', h10, hb⟩
 case round =>
  clear h7' h10 hb
  obtain ⟨m, K, hm, rfl, hK, h7, h10, hb⟩ := hrel
  by_cases hlt : m < n
  ·have hnx : ofDig 4 [encI [i, j, K], climbD i j a d m] = climbD i j a d (m + 1) := by rw [hK]; rfl
   have HNX := Lib.hid hnx
   have hD16 := climbD_len i j a hd m
   clear hnx
   generalize climbD i j a d m = D at *
   have HD := Lib.hid hD16
   have HDB := Lib.hid (show (bcs D).length = 16 by rw [bcs_length]; exact hD16)
   have h64 : ∀ x ∈ [i, j, K], isI64 x := by
    intro x hx
    simp only [List.mem_cons, List.not_mem_nil, or_false] at hx
    rcases hx with rfl | rfl | rfl
    ·exact hi
    ·exact hj
    ·unfold isI64; omega
   have hlen : (encI [i, j, K]).length ≤ 70368744177664 := Nat.le_trans (encI_leSg _) (by simp)
   have hin : (inputOf 4 [encI [i, j, K], D]).length ≤ 1000000000 := input2_le 4 _ _ (Nat.le_trans (encI_leSg _) (by simp)) (by omega)
   go_wp2_with fail
   refine aStart kr_ ?_
   replace h7 := h7.drew
   replace h10 := h10.drew
   replace hb := hb.drew
   generalize wr.drew = wd at *
   refine aTake (i := 0) (v := .int .i64 i) rfl kr_ (wn rfl) (fun _ _ _ h => h) (fun w => by kernel_rfl) ?_
   refine aTake (i := 1) (v := .int .i64 j) rfl kr_ (wn rfl) (fun _ _ _ h => h) (fun w => by kernel_rfl) ?_
   refine aTake (i := 2) (v := .int .i64 K) rfl kr_ (wn rfl) (fun _ _ _ h => h) (fun w => by kernel_rfl) ?_
   refine rgFloat [(3, 22), (4, 23), (5, 24), (6, 25), (7, 26), (8, 27), (9, 28)] (GRClimb i j K D) _ 1 rfl kr_ ?mono ?step ?fin
   case mono =>
    intro p hp v w w' h hE
    simp only [List.mem_cons, List.not_mem_nil, or_false] at hp
    rcases hp with rfl | rfl | rfl | rfl | rfl | rfl | rfl
    ·exact Reads.ext h hE
    ·exact Reads.ext h hE
    ·exact h
    ·exact h
    ·exact h
    ·exact Reads.ext h hE
    ·exact h
   case step =>
    intro p hp
    simp only [List.mem_cons, List.not_mem_nil, or_false] at hp
    rcases hp with rfl | rfl | rfl | rfl | rfl | rfl | rfl
    ·refine ⟨_, rfl, rfl, fun a w' hF hE hG => ?_⟩
     have hx19 : a.eval (.tmp 19) = iv (i) := (hF.eval 19 kr_).trans kr_
     have hx20 : a.eval (.tmp 20) = iv (j) := (hF.eval 20 kr_).trans kr_
     have hx21 : a.eval (.tmp 21) = iv (K) := (hF.eval 21 kr_).trans kr_
     refine bsRow (([i, j, K]).map iv) Tryz.sl_intSg (wn rfl) rfl (by rw [Array.toList_map]; show [(0, a.eval (.tmp 19)), (1, a.eval (.tmp 20)), (2, a.eval (.tmp 21))] = _; rw [hx19, hx20, hx21]; rfl) rfl (by omega) (by omega) (iv_cells _) ?_
     intro A5 w5 hrd hb5
     exact ⟨_, rfl, hb5, A5, 3, _, rfl, Nat.le_refl _, hrd⟩
    ·refine ⟨_, rfl, rfl, fun a w' hF hE hG => ?_⟩
     obtain ⟨A5, c5, B5, q1, q2, hrd⟩ : Reads 3 (([i, j, K]).map iv) (a.tmps.getD 22 undef) w' := hG (3, 22) (by simp) kr_
     refine callOp 71 [.slice A5 3 c5] [] [] kr_ (wn rfl) rfl rfl (by rw [← q1]; rfl) ?_
     refine (refInts_any [i, j, K] A5 3 c5 B5 w' hrd q2 h64 hlen).mono ?_
     rintro e w2 hret
     obtain ⟨A6, c6, rfl, _, hrd2, hb2⟩ := hret.open
     exact ⟨_, rfl, ⟨_, rfl, hb2, A6, c6, _, rfl, Nat.le_refl _, hrd2⟩⟩
    ·refine ⟨_, rfl, rfl, fun a w' hF hE hG => ?_⟩
     obtain ⟨A5, c5, B5, q1, q2, hrd⟩ : Reads (encI [i, j, K]).length (bcs (encI [i, j, K])) (a.tmps.getD 23 undef) w' := hG (4, 23) (by simp) kr_
     refine convStr (.tmp 23) (encI [i, j, K]) Tryz.sl_u8.und Tryz.und_u8 Tryz.und_str (wn rfl) rfl q1 hrd ?_
     exact ⟨_, rfl, Below.refl _ _, rfl⟩
    ·refine ⟨_, rfl, rfl, fun a w' hF hE hG => ?_⟩
     refine ldArr (b := w.heap.size) (.tmp 7) Tryz.ag_b16 (wn rfl) rfl ((hF.eval 7 kr_).trans kr_) HDB.out (h7.below hE h7.lt) ?_
     exact ⟨_, rfl, Below.refl _ _, rfl⟩
    ·refine ⟨_, rfl, rfl, fun a w' hF hE hG => ?_⟩
     have hx : a.tmps.getD 25 undef = .agg (bcs D).toArray := hG (6, 25) (by simp) kr_
     refine callOp 78 [.agg (bcs D).toArray] [] [] kr_ (wn rfl) rfl rfl (by rw [← hx]; rfl) ?_
     refine (text_any D w' HD.out).mono ?_
     rintro e w2 ⟨rfl, hb2⟩
     exact ⟨_, rfl, ⟨_, rfl, hb2, rfl⟩⟩
    ·refine ⟨_, rfl, rfl, fun a w' hF hE hG => ?_⟩
     have hx24 : a.tmps.getD 24 undef = sv (encI [i, j, K]) := hG (5, 24) (by simp) kr_
     have hx26 : a.tmps.getD 26 undef = sv (D) := hG (7, 26) (by simp) kr_
     refine bsRow (([encI [i, j, K], D]).map sv) Tryz.sl_strSg (wn rfl) rfl (by rw [Array.toList_map]; show [(0, a.tmps.getD 24 undef), (1, a.tmps.getD 26 undef)] = _; rw [hx24, hx26]; rfl) rfl (by omega) (by omega) (sv_cells _) ?_
     intro A5 w5 hrd hb5
     exact ⟨_, rfl, hb5, A5, 2, _, rfl, Nat.le_refl _, hrd⟩
    ·refine ⟨_, rfl, rfl, fun a w' hF hE hG => ?_⟩
     obtain ⟨A5, c5, B5, q1, q2, hrd⟩ : Reads 2 (([encI [i, j, K], D]).map sv) (a.tmps.getD 27 undef) w' := hG (8, 27) (by simp) kr_
     refine callOp 63 [.int .i64 4, .slice A5 2 c5] [] [] kr_ (wn rfl) rfl rfl (by rw [← q1]; rfl) ?_
     refine (refOf_any 4 [encI [i, j, K], D] A5 2 c5 B5 w' (ht.below (hb.trans (hE.mono hb.size)) ht.size) hrd q2 hin (by simp)).mono ?_
     rintro e w2 ⟨rfl, hb2⟩
     exact ⟨_, rfl, ⟨_, rfl, hb2, rfl⟩⟩
   case fin =>
    intro a wf hF hE hG
    have qf : a.tmps.getD 28 undef = .agg (bcs (ofDig 4 [encI [i, j, K], D])).toArray := hG (9, 28) (by simp)
    replace h7 := h7.below hE h7.lt
    replace h10 := h10.below hE h10.lt
    have hszf := hb.size
    replace hb := hb.trans (hE.mono hb.size)
    rw [hF.eq]
    simp only [putsX]
    rw [qf]
    generalize a.tmps.getD 22 undef = x22
    generalize a.tmps.getD 23 undef = x23
    generalize a.tmps.getD 24 undef = x24
    generalize a.tmps.getD 25 undef = x25
    generalize a.tmps.getD 26 undef = x26
    generalize a.tmps.getD 27 undef = x27
    clear hG hF hE qf
    refine aNext (i := 10) kr_ rfl ?_
    refine stArr (b := w.heap.size) (cs := bcs (ofDig 4 [encI [i, j, K], D])) (.tmp 7) (.tmp 28) Tryz.ag_b16 (wn rfl) rfl kr_ kr_ h7 HDB.out (by rw [bcs_length]; exact ofDig_len _ _) (bcs_one _) ?_
    intro w3 h7 hkeep hbel
    replace h10 := hkeep _ _ _ (Ne.symm hne) h10
    replace hb := hb.trans (hbel _ hg)
    clear hkeep hbel
    rw [HNX.out] at h7
    refine aDone kr_ ?_
    simp only [Act.put, List.setIfInBounds_toArray, List.set_cons_succ, List.set_cons_zero]
    go_wp2_with fail
    go_roundw
    case rel => exact ⟨m + 1, K + 1, by omega, by go_num, by omega, h7, h10, hb⟩
    case measure => (simp [intOf]; try omega)
  ·obtain rfl : m = n := by omega
   have HD := Lib.hid (show (bcs (climbD i j a d m)).length = 16 by rw [bcs_length]; exact climbD_len i j a hd m)
   go_wp2_with (first | (with_reducible refine ldArr (.tmp 7) Tryz.ag_b16 (wn rfl) rfl rfl HD.out h7 ?_) | (with_reducible refine stArr (cs := bcs (climbD i j a d m)) (.tmp 10) (.tmp 29) Tryz.ag_b16 (wn rfl) rfl rfl rfl h10 (zerosB_len _) HD.out (bcs_one _) ?_))
   intro w3 h3 _ hbel
   go_wp2_with fail
   refine bodyPost_ret (v := .agg (bcs (climbD i j a d m)).toArray) ?_ rfl ⟨rfl, hb.trans (hbel _ hg10)⟩
   exact res_cell1 _ Tryz.results76 Tryz.ag_b16 _ rfl HD.out (fun j u hu => by rw [Nat.zero_add]; exact h3.cell hu)
theorem dgCells_three {d : List UInt8} (h : d.length = 16) (hs : chk d ≤ 480) : (((dgCells d 16).set 32 (.int .i64 ((chk d / 256 : Nat) : Int))).set 33 (.int .i64 ((chk d / 16 % 16 : Nat) : Int))).set 34 (.int .i64 ((chk d % 16 : Nat) : Int)) = ivs (digitsD d) := by
 rw [← dgCells_all h, show chk d / 256 % 16 = chk d / 256 by omega]
 rw [List.set_comm _ _ (show (33 : Nat) ≠ 34 by omega), List.set_comm _ _ (show (32 : Nat) ≠ 34 by omega), List.set_comm _ _ (show (32 : Nat) ≠ 33 by omega)]
theorem refDigits_any (d : List UInt8) (w : World) (hd : d.length = 16) : Calls Tryz.prog 74 #[.agg (bcs d).toArray] w fun e w' => e = .returned (.agg (ivs (digitsD d)).toArray) ∧ Below w.heap.size w w' := by
 have HB := Lib.hid (show (bcs d).length = 16 by rw [bcs_length]; exact hd)
 have hg : w.heap.size ≤ w.heap.size := Nat.le_refl _
 go_enter Tryz.func74, Tryz.ntmps74
 go_wp2_with (with_reducible refine bxArr (cs := bcs d) (.tmp 0) (wn rfl) rfl rfl ?_)
 intro w1 h1 hb
 have n1 := h1.lt
 go_wp2_with (with_reducible refine alArr (z := zerosI 35) Tryz.ag_i35 (wn rfl) rfl ?_)
 intro w2 h2 hb2
 have e12 : w.heap.size < w1.heap.size := n1
 replace h1 := h1.below hb2 n1
 replace hb := hb.trans (hb2.mono hb.size)
 clear hb2 n1
 generalize w1.heap.size = g2 at *
 have n2 := h2.lt
 go_wp2_with (with_reducible refine alArr (z := zerosI 35) Tryz.ag_i35 (wn rfl) rfl ?_)
 intro w3 h3 hb3
 replace h1 := h1.below hb3 h1.lt
 replace h2 := h2.below hb3 h2.lt
 replace hb := hb.trans (hb3.mono hb.size)
 clear hb3
 generalize w2.heap.size = g3 at *
 have h3' : Arr w3 g3 99 (dgCells d 0) := h3
 clear h3
 go_wp2_with fail
 go_loopw [4, 5] (fun v4 v9 wr => ∃ i : Nat, i ≤ 16 ∧ v9 = .int .i64 i ∧ v4 = .int .i64 ((dgSum d i : Nat) : Int) ∧ Arr wr w.heap.size 27 (bcs d) ∧ Arr wr g3 99 (dgCells d i) ∧ Arr wr g2 99 (zerosI 35) ∧ Below w.heap.size w wr) (fun _ v9 _ => 16 - (intOf v9).toNat)
 case atStart => exact ⟨0, by omega, rfl, rfl, h1, h3', h2, hb⟩
 case round =>
  clear h3' h2 h1 hb
  obtain ⟨i, hi, rfl, rfl, h1, h3, h2, hb⟩ := hrel
  by_cases hlt : i < 16
  ·obtain ⟨b, hbi⟩ : ∃ b, d[i]? = some b := ⟨_, List.getElem?_eq_getElem (show i < d.length by omega)⟩
   have hn := dgCells_next hbi hlt
   have hsn := dgSum_next hbi
   have hdl := dgSum_room hbi hlt
   have hs := dgSum_le d i (by omega)
   have c0 := h3.cell (dgCells_at d i (2 * i) (by omega) (by omega) (by omega))
   have c1 := h3.cell (dgCells_at d i (2 * i + 1) (by omega) (by omega) (by omega))
   have cb := h1.cell (bcs_get hbi)
   have f0 := h3.thaw (2 * i)
   have f1 := h3.thaw (2 * i + 1)
   have hbn := b.toNat_lt
   have HN := Lib.hid hn
   have HSN := Lib.hid hsn
   have HBC' := Lib.hid hbi
   have ne1 : w.heap.size ≠ g3 := by omega
   clear hn hsn hbi
   go_wp2_with fail
   have h3n := (h3.set (2 * i) (.int .i64 ((b.toNat / 16 : Nat) : Int))).set (2 * i + 1) (.int .i64 ((b.toNat % 16 : Nat) : Int))
   rw [HN.out] at h3n
   have h1n := (h1.other (b' := g3) (by omega) (2 * i) (.int .i64 ((b.toNat / 16 : Nat) : Int))).other (b' := g3) (by omega) (2 * i + 1) (.int .i64 ((b.toNat % 16 : Nat) : Int))
   have h2n := (h2.other (b' := g3) (by omega) (2 * i) (.int .i64 ((b.toNat / 16 : Nat) : Int))).other (b' := g3) (by omega) (2 * i + 1) (.int .i64 ((b.toNat % 16 : Nat) : Int))
   have hbn2 := (hb.setCell (p := ⟨g3, 2 * i, none⟩) (by show w.heap.size ≤ g3; omega) (.int .i64 ((b.toNat / 16 : Nat) : Int))).setCell (p := ⟨g3, 2 * i + 1, none⟩) (by show w.heap.size ≤ g3; omega) (.int .i64 ((b.toNat % 16 : Nat) : Int))
   have d0 := h3n.cell (dgCells_old (i := i) HBC'.out hlt).1
   have d1 := h3n.cell (dgCells_old (i := i) HBC'.out hlt).2
   simp only [Int.natCast_ediv, Int.natCast_emod, Int.cast_ofNat_Int] at h3n h2n h1n hbn2 d0 d1
   clear c0 c1 f0 f1 h3 h2 hb h1 cb
   generalize (wr.setCell ⟨g3, 2 * i, none⟩ (.int .i64 ((b.toNat : Int) / 16))).setCell ⟨g3, 2 * i + 1, none⟩ (.int .i64 ((b.toNat : Int) % 16)) = w6 at *
   have hx : 0 ≤ (b.toNat : Int) / 16 ∧ (b.toNat : Int) / 16 ≤ 15 := by omega
   have hy : 0 ≤ (b.toNat : Int) % 16 ∧ (b.toNat : Int) % 16 ≤ 15 := by omega
   obtain ⟨hx0, hx1⟩ := hx
   obtain ⟨hy0, hy1⟩ := hy
   generalize hX : (b.toNat : Int) / 16 = X at *
   generalize hY : (b.toNat : Int) % 16 = Y at *
   have HX := Lib.hid hX
   have HY := Lib.hid hY
   clear hX hY
   have k0 : (0 : Int) ≤ 2 * (i : Int) := by omega
   have k1 : 2 * (i : Int) < 35 := by omega
   have k2 : (0 : Int) ≤ 2 * (i : Int) + 1 := by omega
   have k3 : 2 * (i : Int) + 1 < 35 := by omega
   have t0 : (2 * (i : Int)).toNat = 2 * i := by omega
   have t1 : (2 * (i : Int) + 1).toNat = 2 * i + 1 := by omega
   go_quiet (fail)
   go_wp2
   go_roundw
   case rel =>
    have hsn := HSN.out
    have h1 := HX.out
    have h2' := HY.out
    have hdn := hdl
    refine ⟨i + 1, by omega, by go_num, ?_, h1n.drewN nq, h3n.drewN nq, h2n.drewN nq, below_drewN' hbn2 nq⟩
    congr 1
    omega
   case measure => simp [intOf]; omega
  ·obtain rfl : i = 16 := by omega
   have hall := dgSum_all hd
   have hs := dgSum_le d 16 (by omega)
   rw [hall] at hs
   have hcells := dgCells_three hd hs
   have c2 := h3.cell (dgCells_at d 16 32 (by omega) (by omega) (by omega))
   have c3 := h3.cell (dgCells_at d 16 33 (by omega) (by omega) (by omega))
   have c4 := h3.cell (dgCells_at d 16 34 (by omega) (by omega) (by omega))
   have f2 := h3.thaw 32
   have f3 := h3.thaw 33
   have f4 := h3.thaw 34
   rw [hall]
   have HA := Lib.hid hall
   have HC := Lib.hid hcells
   clear hall hcells
   go_upto_region 12 with (fail)
   have h3n := ((h3.set 32 (.int .i64 ((chk d / 256 : Nat) : Int))).set 33 (.int .i64 ((chk d / 16 % 16 : Nat) : Int))).set 34 (.int .i64 ((chk d % 16 : Nat) : Int))
   rw [HC.out] at h3n
   have h2n := ((h2.other (b' := g3) (by omega) 32 (.int .i64 ((chk d / 256 : Nat) : Int))).other (b' := g3) (by omega) 33 (.int .i64 ((chk d / 16 % 16 : Nat) : Int))).other (b' := g3) (by omega) 34 (.int .i64 ((chk d % 16 : Nat) : Int))
   have hbn := ((hb.setCell (p := ⟨g3, 32, none⟩) (by show w.heap.size ≤ g3; omega) (.int .i64 ((chk d / 256 : Nat) : Int))).setCell (p := ⟨g3, 33, none⟩) (by show w.heap.size ≤ g3; omega) (.int .i64 ((chk d / 16 % 16 : Nat) : Int))).setCell (p := ⟨g3, 34, none⟩) (by show w.heap.size ≤ g3; omega) (.int .i64 ((chk d % 16 : Nat) : Int))
   simp only [Int.natCast_ediv, Int.natCast_emod, Int.cast_ofNat_Int] at h3n h2n hbn
   have hl35 : (ivs (digitsD d)).length = 35 := by rw [ivs_len]; exact digitsD_len hd
   have HL := Lib.hid hl35
   clear hl35 c2 c3 c4 f2 f3 f4 h1 h2 h3 hb
   generalize ((wr.setCell ⟨g3, 32, none⟩ (.int .i64 ((chk d : Int) / 256))).setCell ⟨g3, 33, none⟩ (.int .i64 ((chk d : Int) / 16 % 16))).setCell ⟨g3, 34, none⟩ (.int .i64 ((chk d : Int) % 16)) = w8 at *
   go_wp2_with (first | (with_reducible refine ldArr (.tmp 3) Tryz.ag_i35 (wn rfl) rfl rfl HL.out h3n ?_) | (with_reducible refine stArr (cs := ivs (digitsD d)) (.tmp 2) (.tmp 50) Tryz.ag_i35 (wn rfl) rfl rfl rfl h2n (zerosI_len _) HL.out (ivs_one _) ?_))
   intro w9 h9 _ hbel
   go_wp2_with fail
   refine bodyPost_ret (v := .agg (ivs (digitsD d)).toArray) ?_ rfl ⟨rfl, hbn.trans (hbel _ (by omega))⟩
   exact res_cell1 _ Tryz.results74 Tryz.ag_i35 _ rfl HL.out (fun j u hu => by rw [Nat.zero_add]; exact h9.cell hu)
theorem refCount_any (h : Int) (w : World) : Calls Tryz.prog 53 #[.int .i64 h] w fun e w' => e = .returned (.int .i64 (countD h : Int)) ∧ w' = w := by
 by_cases h1 : h < 0
 ·have hc : countD h = 0 := by unfold countD; rw [if_pos (Or.inl h1)]
  have HC := Lib.hid hc
  clear hc
  go_enter Tryz.func53, Tryz.ntmps53
  go_wp2_with fail
  go_ret
  rw [HC.out]
  exact ⟨rfl, rfl⟩
 ·by_cases h2 : 6 < h
  ·have hc : countD h = 0 := by unfold countD; rw [if_pos (Or.inr h2)]
   have HC := Lib.hid hc
   clear hc
   go_enter Tryz.func53, Tryz.ntmps53
   go_wp2_with fail
   go_ret
   rw [HC.out]
   exact ⟨rfl, rfl⟩
  ·obtain ⟨k, rfl⟩ : ∃ k : Nat, h = (k : Int) := ⟨h.toNat, by omega⟩
   have hk : k ≤ 6 := by omega
   have hc : countD (k : Int) = 2 ^ k := by unfold countD; rw [if_neg (by omega), Int.toNat_natCast]
   have HC := Lib.hid hc
   clear hc
   go_enter Tryz.func53, Tryz.ntmps53
   go_wp2_with fail
   go_loop [3, 4] (fun n i => ∃ j : Nat, j ≤ k ∧ i = .int .i64 j ∧ n = .int .i64 ((2 ^ j : Nat) : Int)) (fun _ i => k - (intOf i).toNat)
   case atStart => exact ⟨0, by omega, rfl, rfl⟩
   case round =>
    obtain ⟨j, hj, rfl, rfl⟩ := hrel
    by_cases hlt : j < k
    ·have hp : 2 ^ j ≤ 64 := Nat.le_trans (Nat.pow_le_pow_right (by omega) (show j ≤ 6 by omega)) (by decide)
     have hn : 2 * 2 ^ j = 2 ^ (j + 1) := by rw [Nat.pow_succ, Nat.mul_comm]
     have HN := Lib.hid hn
     clear hn
     generalize 2 ^ j = q at *
     go_wp2_with fail
     go_round
     case rel => exact ⟨j + 1, by omega, by go_num, by rw [← HN.out]; go_num⟩
     case measure => simp [intOf]; omega
    ·obtain rfl : j = k := by omega
     go_wp2_with fail
     go_ret
     rw [HC.out]
     exact ⟨rfl, rfl⟩
theorem ret_i64 {a b : Int} (h : a = b) : Ending.returned (.int .i64 a) = .returned (.int .i64 b) := by rw [h]
theorem countD_le (h : Int) : countD h ≤ 64 := by
 unfold countD
 split
 ·omega
 ·rename_i hc
  exact Nat.le_trans (Nat.pow_le_pow_right (by omega) (show h.toNat ≤ 6 by omega)) (by decide)
theorem countD_pos {h i : Int} (h0 : 0 ≤ i) (h1 : i < (countD h : Int)) : 0 ≤ h ∧ h ≤ 6 := by
 unfold countD at h1
 split at h1
 ·omega
 ·rename_i hc
  omega
theorem size_any (h i : Int) (w : World) : Calls Tryz.prog 81 #[.int .i64 h, .int .i64 i] w fun e w' => e = .returned (.int .i64 (sizeD h i : Int)) ∧ Below w.heap.size w w' := by
 by_cases h1 : i < 0
 ·have HC := Lib.hid (show sizeD h i = 0 by unfold sizeD; rw [if_pos (Or.inl h1)])
  go_enter Tryz.func81, Tryz.ntmps81
  go_wp2_with fail
  go_ret
  rw [HC.out]
  exact ⟨rfl, Below.refl _ _⟩
 ·have hcl := countD_le h
  by_cases h2 : (countD h : Int) ≤ i
  ·have HC := Lib.hid (show sizeD h i = 0 by unfold sizeD; rw [if_pos (Or.inr h2)])
   have hd1 : decide ((countD h : Int) ≤ i) = true := decide_eq_true h2
   go_enter Tryz.func81, Tryz.ntmps81
   go_wp2_with fail
   refine (count_any h w).mono ?_
   rintro e w1 ⟨rfl, hb⟩
   generalize countD h = c at *
   go_wp2_with fail
   go_ret
   rw [HC.out]
   exact ⟨rfl, hb⟩
  ·have hp := countD_pos (h := h) (i := i) (by omega) (by omega)
   have HC := Lib.hid (show sizeD h i = (enc i).length + 16 * (35 + h.toNat) by unfold sizeD; rw [if_neg (by omega)])
   have hd1 : decide ((countD h : Int) ≤ i) = false := decide_eq_false h2
   obtain ⟨hp0, hp6⟩ := hp
   have hen := enc_len i
   go_enter Tryz.func81, Tryz.ntmps81
   go_wp2_with fail
   refine (count_any h w).mono ?_
   rintro e w1 ⟨rfl, hb⟩
   generalize countD h = c at *
   go_wp2_with fail
   refine (int_any i w1 (by omega) (by omega)).mono ?_
   rintro e w2 hret
   obtain ⟨A2, c2, rfl, _, _, hb2⟩ := hret.open
   clear hret
   go_wp2_with fail
   go_ret
   refine ⟨?_, hb.trans (hb2.mono hb.size)⟩
   rw [HC.out]
   exact ret_i64 (by omega)
theorem refSize_any (h i : Int) (w : World) : Calls Tryz.prog 90 #[.int .i64 h, .int .i64 i] w fun e w' => e = .returned (.int .i64 (sizeD h i : Int)) ∧ Below w.heap.size w w' := by
 by_cases h1 : i < 0
 ·have HC := Lib.hid (show sizeD h i = 0 by unfold sizeD; rw [if_pos (Or.inl h1)])
  go_enter Tryz.func90, Tryz.ntmps90
  go_wp2_with fail
  go_ret
  rw [HC.out]
  exact ⟨rfl, Below.refl _ _⟩
 ·have hcl := countD_le h
  by_cases h2 : (countD h : Int) ≤ i
  ·have HC := Lib.hid (show sizeD h i = 0 by unfold sizeD; rw [if_pos (Or.inr h2)])
   have hd1 : decide ((countD h : Int) ≤ i) = true := decide_eq_true h2
   go_enter Tryz.func90, Tryz.ntmps90
   go_wp2_with fail
   refine (refCount_any h w).mono ?_
   rintro e w1 ⟨rfl, rfl⟩
   generalize countD h = c at *
   go_wp2_with fail
   go_ret
   rw [HC.out]
   exact ⟨rfl, Below.refl _ _⟩
  ·have hp := countD_pos (h := h) (i := i) (by omega) (by omega)
   have HC := Lib.hid (show sizeD h i = (enc i).length + 16 * (35 + h.toNat) by unfold sizeD; rw [if_neg (by omega)])
   have hd1 : decide ((countD h : Int) ≤ i) = false := decide_eq_false h2
   obtain ⟨hp0, hp6⟩ := hp
   have hen := enc_len i
   go_enter Tryz.func90, Tryz.ntmps90
   go_wp2_with fail
   refine (refCount_any h w).mono ?_
   rintro e w1 ⟨rfl, rfl⟩
   generalize countD h = c at *
   go_wp2_with fail
   refine (refInt_any i w1 (by omega) (by omega)).mono ?_
   rintro e w2 hret
   obtain ⟨A2, c2, rfl, _, _, hb2⟩ := hret.open
   clear hret
   go_wp2_with fail
   go_ret
   refine ⟨?_, hb2⟩
   rw [HC.out]
   exact ret_i64 (by omega)
theorem Tryz.sl_digSg : SlTy Tryz.prog 23 27 (.agg digZero) 16 16 := ⟨by kernel_rfl, by kernel_rfl, by simp [digZero, Value.cells], by decide⟩
theorem rd_aggNSg (w : World) (cs : List Value) (t : TypeId) (size n : Nat) (hs : cs.length = n * size) (h : n ≤ maxLen) : Rd (w.alloc (.cells cs.toArray t)) (w.heap.size + 1) size (some ⟨w.heap.size, 0, none⟩) n n cs := by
 refine ⟨hs, Nat.le_refl _, h, fun _ => ⟨w.heap.size, 0, rfl, by omega, cells_new w cs t⟩⟩
theorem range_map_next (D : Nat → List UInt8) (k : Nat) : ((List.range (k + 1)).map D).flatten = ((List.range k).map D).flatten ++ D k := by
 rw [List.range_succ, List.map_append, List.flatten_append]
 simp
theorem range_map_len' (D : Nat → List UInt8) : ∀ k, (∀ j, j < k → (D j).length = 16) → (((List.range k).map D).flatten).length = k * 16
 | 0, _ => rfl
 | k + 1, hD => by rw [range_map_next, List.length_append, hD k (by omega), range_map_len' D k fun j hj => hD j (by omega)]; omega
theorem range_map_len (D : Nat → List UInt8) (hD : ∀ j, (D j).length = 16) (k : Nat) : (((List.range k).map D).flatten).length = k * 16 := range_map_len' D k fun j _ => hD j
theorem encD_leSg (n : Nat) (D : List UInt8) : (encD n D).length ≤ 10 + D.length := by
 unfold encD
 rw [List.length_append]
 have := enc_len n
 omega
theorem leaf_any (f : FuncId) (caps : List Value) (D : Nat → List UInt8) (w : World) (ht : Tabs w) (hf : callable Tryz.prog f = true) (hD : ∀ j, j < 35 → (D j).length = 16)
 (H : ∀ (j : Nat) (w' : World), j < 35 → Ext w w' → Calls Tryz.prog f (.int .i64 (j : Int) :: caps).toArray w' fun e w'' => e = .returned (.agg (bcs (D j)).toArray) ∧ Below w'.heap.size w' w'') :
 Calls Tryz.prog 84 #[.func (.func f) #[] caps.toArray] w fun e w' => e = .returned (.agg (bcs (leafD ((List.range 35).map D))).toArray) ∧ Below w.heap.size w w' := by
 have HL := Lib.hid (show (bcs (leafD ((List.range 35).map D))).length = 16 by rw [bcs_length]; exact ofDig_len _ _)
 have HH := Lib.hid H
 have HDD := Lib.hid hD
 have hll : (encD 35 ((List.range 35).map D).flatten).length ≤ 1000 := Nat.le_trans (encD_leSg _ _) (by rw [range_map_len' D 35 hD]; omega)
 have hlf : leafD ((List.range 35).map D) = ofDig 4 [encD 35 ((List.range 35).map D).flatten] := by unfold leafD; rw [List.length_map, List.length_range]
 have HLF := Lib.hid hlf
 clear H hD hlf
 go_enter Tryz.func84, Tryz.ntmps84
 go_wp2_with (with_reducible refine alArr (z := zerosB 16) Tryz.ag_b16 (wn rfl) rfl ?_)
 intro w1 h2 hb
 go_wp2_with fail
 go_loopw [3, 5] (fun v3 v5 wr => ∃ k : Nat, k ≤ 35 ∧ v5 = .int .i64 k ∧ wr.ownsRow w1.heap.size 27 16 v3 k (bcs ((List.range k).map D).flatten) ∧ Below w1.heap.size w1 wr) (fun _ v5 _ => 35 - (intOf v5).toNat)
 case atStart => exact ⟨0, by omega, rfl, World.ownsRow_nil _ _ _ _, Below.refl _ _⟩
 case round =>
  obtain ⟨k, hk, rfl, hown, hbw⟩ := hrel
  by_cases hlt : k < 35
  ·have hE : Ext w wr := hb.trans (hbw.mono hb.size)
   have hc := HH.out k wr hlt hE
   have hd16 : (bcs (D k)).length = 16 := by rw [bcs_length]; exact HDD.out k hlt
   have HT := Lib.hid (range_map_next D k)
   have H16 := Lib.hid hd16
   have HC := Lib.hid hc
   clear hc hd16
   generalize D k = Dk at *
   go_wp2_with (with_reducible refine callOp f [.int .i64 (k : Int)] [] caps hf (wn rfl) rfl rfl rfl ?_)
   refine HC.out.mono ?_
   rintro e w2 ⟨rfl, hb2⟩
   refine ⟨_, rfl, ?_⟩
   have hownw := ownsRow_below hown hb2 (Nat.le_refl _)
   replace hbw := hbw.trans (hb2.mono hbw.size)
   clear hown hb2 hE
   go_wp2_with (first | (with_reducible refine bsAgg1 (.tmp 11) Tryz.sl_digSg (wn rfl) rfl rfl (by rw [List.size_toArray]; exact H16.out) (by decide) ?_) | (at_builtin; with_reducible refine appR _ _ Tryz.sl_digSg (wn rfl) rfl rfl rfl (hownw.alloc _) (rd_aggNSg _ (bcs Dk) _ 16 1 H16.out (by decide)) (bcs_one Dk) (hbw.alloc hbw.size _) (Nat.le_refl _) (by omega) (by omega) ?_))
   intro v' w' h3 h4 _
   clear hownw hbw
   go_wp2_with fail
   go_roundw
   case rel => exact ⟨k + 1, by omega, by go_num, by rw [HT.out, bcs_append]; exact h3, h4⟩
   case measure => (simp [intOf]; try omega)
  ·obtain rfl : k = 35 := by omega
   obtain ⟨A, c, rfl, hrd⟩ := Rd.of_own hown
   clear hown
   replace h2 := h2.below hbw h2.lt
   replace hb := hb.trans (hbw.mono hb.size)
   clear hbw
   generalize ((List.range 35).map D).flatten = L at *
   go_wp2_with fail
   refine (digs_any L A 35 c _ wr hrd (Nat.le_refl _) (by omega)).mono ?_
   rintro e w2 hret
   obtain ⟨A2, c2, rfl, _, hrd2, hb2⟩ := hret.open
   clear hret hrd
   replace h2 := h2.below hb2 h2.lt
   replace hb := hb.trans (hb2.mono hb.size)
   clear hb2
   go_wp2_with (with_reducible refine convStr (.tmp 16) (encD 35 L) Tryz.sl_u8.und Tryz.und_u8 Tryz.und_str (wn rfl) rfl rfl hrd2 ?_)
   obtain ⟨hrd4, b4⟩ := new_row w2 [.string ⟨(encD 35 L).toArray⟩] 9 1 rfl (by omega)
   generalize w2.alloc (.cells [.string ⟨(encD 35 L).toArray⟩].toArray 9) = w4 at *
   replace h2 := h2.below b4 h2.lt
   replace hb := hb.trans (b4.mono hb.size)
   clear b4 hrd2
   refine (of_any 4 [encD 35 L] _ 1 1 _ w4 (ht.below hb ht.size) hrd4 (Nat.le_refl _) (inputB_le 4 _ (by omega)) (by simp)).mono ?_
   rintro e w5 ⟨rfl, hb5⟩
   replace h2 := h2.below hb5 h2.lt
   replace hb := hb.trans (hb5.mono hb.size)
   rw [← HLF.out]
   clear hb5 hrd4
   go_wp2_with (with_reducible refine stArr (cs := bcs (leafD ((List.range 35).map D))) (.tmp 2) (.tmp 19) Tryz.ag_b16 (wn rfl) rfl rfl rfl h2 (zerosB_len _) HL.out (bcs_one _) ?_)
   intro w6 h2 _ hbel
   go_wp2_with fail
   refine bodyPost_ret (v := .agg (bcs (leafD ((List.range 35).map D))).toArray) ?_ rfl ⟨rfl, hb.trans (hbel _ (Nat.le_refl _))⟩
   exact res_cell1 _ Tryz.results84 Tryz.ag_b16 _ rfl HL.out (fun j u hu => by rw [Nat.zero_add]; exact h2.cell hu)
theorem climb15 (i j : Int) (d : List UInt8) (w : World) (ht : Tabs w) (hi : isI64 i) (hj : isI64 j) (hd : d.length = 16) :
 Calls Tryz.prog 69 #[.int .i64 i, .int .i64 j, .agg (bcs d).toArray, .int .i64 0, .int .i64 15] w fun e w' => e = .returned (.agg (bcs (climbD i j 0 d 15)).toArray) ∧ Below w.heap.size w w' :=
 climb_any i j d 0 15 w ht hi hj hd (by omega)
theorem refClimb15 (i j : Int) (d : List UInt8) (w : World) (ht : TabsR w) (hi : isI64 i) (hj : isI64 j) (hd : d.length = 16) :
 Calls Tryz.prog 76 #[.int .i64 i, .int .i64 j, .agg (bcs d).toArray, .int .i64 0, .int .i64 15] w fun e w' => e = .returned (.agg (bcs (climbD i j 0 d 15)).toArray) ∧ Below w.heap.size w w' :=
 refClimb_any i j d 0 15 w ht hi hj hd (by omega)
theorem isI64_nat {n : Nat} (h : n ≤ 1000000) : isI64 (n : Int) := by unfold isI64; omega
theorem refValue0 (seed : List UInt8) (n : Nat) (w : World) (ht : TabsR w) (hs : seed.length ≤ 100000000) (hn : n ≤ 1000000) :
 Calls Tryz.prog 54 #[sv seed, .int .i64 0, .int .i64 (n : Int)] w fun e w' => e = .returned (.agg (bcs (valueD seed 0 n)).toArray) ∧ Below w.heap.size w w' := by
 have HL := Lib.hid (show (bcs (valueD seed 0 n)).length = 16 by rw [bcs_length]; exact valueD_len _ _ _)
 obtain ⟨D, hDe⟩ : ∃ D, D = chainD seed n 15 := ⟨_, rfl⟩
 have hD : ∀ j, (D j).length = 16 := fun j => by rw [hDe]; exact chainD_len seed n 15 j
 have HE := Lib.hid (show ∀ k : Nat, climbD n k 0 (startD seed n k) 15 = D k from fun k => by rw [hDe]; rfl)
 have hll : (encD 35 ((List.range 35).map D).flatten).length ≤ 1000 := Nat.le_trans (encD_leSg _ _) (by rw [range_map_len _ hD]; omega)
 have hlf : ofDig 4 [encD 35 ((List.range 35).map D).flatten] = valueD seed 0 n := by rw [hDe]; unfold valueD leafD; rw [List.length_map, List.length_range]
 have HLF := Lib.hid hlf
 have HDD := Lib.hid hD
 have hi64 := isI64_nat hn
 clear hlf hD hDe
 unfold sv
 go_enter Tryz.func54, Tryz.ntmps54
 go_wp2_with (with_reducible refine alArr (z := zerosB 16) Tryz.ag_b16 (wn rfl) rfl ?_)
 intro w1 h2 hb
 go_wp2_with fail
 go_loopw [7, 8] (fun v3 v5 wr => ∃ k : Nat, k ≤ 35 ∧ v5 = .int .i64 k ∧ wr.ownsRow w1.heap.size 27 16 v3 k (bcs ((List.range k).map D).flatten) ∧ Below w1.heap.size w1 wr) (fun _ v5 _ => 35 - (intOf v5).toNat)
 case atStart => exact ⟨0, by omega, rfl, World.ownsRow_nil _ _ _ _, Below.refl _ _⟩
 case round =>
  obtain ⟨k, hk, rfl, hown, hbw⟩ := hrel
  by_cases hlt : k < 35
  ·have hE : Below w.heap.size w wr := hb.trans (hbw.mono hb.size)
   have hk64 := isI64_nat (show k ≤ 1000000 by omega)
   go_wp2_with fail
   refine (refStart_any seed n k wr (ht.below hE ht.size) hi64 hk64 hs).mono ?_
   rintro e w2 ⟨rfl, hb2⟩
   have hownw := ownsRow_below hown hb2 (Nat.le_refl _)
   replace hbw := hbw.trans (hb2.mono hbw.size)
   replace hE := hE.trans (hb2.mono hE.size)
   clear hown hb2
   go_wp2_with fail
   refine (refClimb15 n k (startD seed n k) w2 (ht.below hE ht.size) hi64 hk64 (startD_len _ _ _)).mono ?_
   rintro e w3 ⟨rfl, hb3⟩
   rw [HE.out]
   have hd16 : (bcs (D k)).length = 16 := by rw [bcs_length]; exact HDD.out k
   have HT := Lib.hid (range_map_next D k)
   have H16 := Lib.hid hd16
   clear hd16
   replace hownw := ownsRow_below hownw hb3 (Nat.le_refl _)
   replace hbw := hbw.trans (hb3.mono hbw.size)
   clear hb3 hE
   go_wp2_with (first | (with_reducible refine bsAgg1 (.tmp 38) Tryz.sl_digSg (wn rfl) rfl rfl (by rw [List.size_toArray]; exact H16.out) (by decide) ?_) | (at_builtin; with_reducible refine appR _ _ Tryz.sl_digSg (wn rfl) rfl rfl rfl (hownw.alloc _) (rd_aggNSg _ (bcs (D k)) _ 16 1 H16.out (by decide)) (bcs_one (D k)) (hbw.alloc hbw.size _) (Nat.le_refl _) (by omega) (by omega) ?_))
   intro v' w' h3 h4 _
   clear hownw hbw
   go_wp2_with fail
   go_roundw
   case rel => exact ⟨k + 1, by omega, by go_num, by rw [HT.out, bcs_append]; exact h3, h4⟩
   case measure => (simp [intOf]; try omega)
  ·obtain rfl : k = 35 := by omega
   obtain ⟨A, c, rfl, hrd⟩ := Rd.of_own hown
   clear hown
   replace h2 := h2.below hbw h2.lt
   replace hb := hb.trans (hbw.mono hb.size)
   clear hbw
   go_wp2_with fail
   refine (refLeaf_any _ A 35 c _ wr (ht.below hb ht.size) hrd (Nat.le_refl _) (by omega)).mono ?_
   rintro e w5 ⟨rfl, hb5⟩
   replace h2 := h2.below hb5 h2.lt
   replace hb := hb.trans (hb5.mono hb.size)
   rw [HLF.out]
   clear hb5 hrd
   go_wp2_with (with_reducible refine stArr (cs := bcs (valueD seed 0 n)) (.tmp 6) (.tmp 42) Tryz.ag_b16 (wn rfl) rfl rfl rfl h2 (zerosB_len _) HL.out (bcs_one _) ?_)
   intro w6 h2 _ hbel
   go_wp2_with fail
   refine bodyPost_ret (v := .agg (bcs (valueD seed 0 n)).toArray) ?_ rfl ⟨rfl, hb.trans (hbel _ (Nat.le_refl _))⟩
   exact res_cell1 _ Tryz.results54 Tryz.ag_b16 _ rfl HL.out (fun j u hu => by rw [Nat.zero_add]; exact h2.cell hu)
theorem refValue_any (seed : List UInt8) (hs : seed.length ≤ 100000000) : ∀ (l n : Nat) (w : World), TabsR w → l ≤ 6 → (n + 1) * 2 ^ l ≤ 100000 →
 Calls Tryz.prog 54 #[sv seed, .int .i64 (l : Int), .int .i64 (n : Int)] w fun e w' => e = .returned (.agg (bcs (valueD seed l n)).toArray) ∧ Below w.heap.size w w'
 | 0, n, w, ht, _, hn => refValue0 seed n w ht hs (by omega)
 | l + 1, n, w, ht, hl, hn => by
  have hp : 2 ^ (l + 1) = 2 * 2 ^ l := by rw [Nat.pow_succ, Nat.mul_comm]
  have hpp : 0 < 2 ^ l := two_pow_pos l
  have hn1 : (2 * n + 1) * 2 ^ l ≤ 100000 := by
   rw [hp] at hn
   have : (n + 1) * (2 * 2 ^ l) = (2 * n + 1) * 2 ^ l + 2 ^ l := by rw [← Nat.mul_assoc, Nat.add_mul, Nat.add_mul]; rw [show n * 2 = 2 * n by omega]; simp [Nat.add_mul]; omega
   omega
  have hn2 : (2 * n + 1 + 1) * 2 ^ l ≤ 100000 := by
   rw [hp] at hn
   have : (n + 1) * (2 * 2 ^ l) = (2 * n + 1 + 1) * 2 ^ l := by rw [← Nat.mul_assoc, show (n + 1) * 2 = 2 * n + 1 + 1 by omega]
   omega
  have hnle : n ≤ 100000 := by
   have h1 : (n + 1) * 1 ≤ (n + 1) * 2 ^ (l + 1) := Nat.mul_le_mul_left _ (two_pow_pos _)
   omega
  have ih1 := fun w' h => refValue_any seed hs l (2 * n) w' h (by omega) hn1
  have ih2 := fun w' h => refValue_any seed hs l (2 * n + 1) w' h (by omega) hn2
  have HI1 := Lib.hid ih1
  have HI2 := Lib.hid ih2
  have HL := Lib.hid (show (bcs (valueD seed (l + 1) n)).length = 16 by rw [bcs_length]; exact valueD_len _ _ _)
  clear hp hn hn1 hn2 ih1 ih2 hpp
  unfold sv
  go_enter Tryz.func54, Tryz.ntmps54
  go_wp2_with (with_reducible refine alArr (z := zerosB 16) Tryz.ag_b16 (wn rfl) rfl ?_)
  intro w1 h2 hb
  go_wp2_with fail
  have hc1 := HI1.out w1 (ht.below hb ht.size)
  refine hc1.mono ?_
  rintro e w2 ⟨rfl, hb2⟩
  replace h2 := h2.below hb2 h2.lt
  replace hb := hb.trans (hb2.mono hb.size)
  clear hb2 hc1
  go_wp2_with fail
  have hc1 := HI2.out w2 (ht.below hb ht.size)
  refine hc1.mono ?_
  rintro e w3 ⟨rfl, hb2⟩
  replace h2 := h2.below hb2 h2.lt
  replace hb := hb.trans (hb2.mono hb.size)
  clear hb2 hc1
  go_wp2_with fail
  refine (refNode_any ((l + 1 : Nat) : Int) (n : Int) (valueD seed l (2 * n)) (valueD seed l (2 * n + 1)) w3 (ht.below hb ht.size) (isI64_nat (by omega)) (isI64_nat (by omega)) (valueD_len _ _ _) (valueD_len _ _ _)).mono ?_
  rintro e w4 ⟨rfl, hb2⟩
  replace h2 := h2.below hb2 h2.lt
  replace hb := hb.trans (hb2.mono hb.size)
  rw [show joinD ((l + 1 : Nat) : Int) (n : Int) (valueD seed l (2 * n)) (valueD seed l (2 * n + 1)) = valueD seed (l + 1) n from rfl]
  clear hb2
  go_wp2_with (with_reducible refine stArr (cs := bcs (valueD seed (l + 1) n)) (.tmp 6) (.tmp 26) Tryz.ag_b16 (wn rfl) rfl rfl rfl h2 (zerosB_len _) HL.out (bcs_one _) ?_)
  intro w6 h2 _ hbel
  go_wp2_with fail
  refine bodyPost_ret (v := .agg (bcs (valueD seed (l + 1) n)).toArray) ?_ rfl ⟨rfl, hb.trans (hbel _ (Nat.le_refl _))⟩
  exact res_cell1 _ Tryz.results54 Tryz.ag_b16 _ rfl HL.out (fun j u hu => by rw [Nat.zero_add]; exact h2.cell hu)
section
variable {P : Program} {w : World} {ops : Array Oper} {rest : List Oper} {o : Oper} {a : Act} {Q : Exit → Act → World → Prop}
theorem ldOneSg {ty : TypeId} {p : Addr} {v : Value} (x : Operand) (hu : ((P.underlying ty).map fun d => match d with | .struct _ | .array _ _ => true | _ => false) = some false) (hgd : Region.wanted o (yielded ops a.tmps) = true)
 (ho : o.op = .load ty x) (hx : a.eval x = .pointer (some p)) (hc : w.cell? p = some v) (hk : wpList P ops Q rest (a.put o.dst v) w) : wpList P ops Q (o :: rest) a w := by
 refine opVal (v := v) hgd ?_ hk
 obtain ⟨d, hd, h2⟩ := Option.map_eq_some_iff.1 hu
 have ha : (isAgg ty).run P w = .ok false w := by
  unfold isAgg
  rw [Sem.run_bind, run_underlying hd w]
  cases d <;> simp_all
 have hl : (Instr.loadAt ty (.pointer (some p))).run P w = .ok v w := by
  simp [Instr.loadAt, Instr.sureAddr, loadVar, ha, hc]
 unfold execOp
 simp only [ho, hx, Sem.run_bind, Sem.run_pure, hl, Result.andThen_ok]
theorem iaRowSg {t e : TypeId} {z : Value} {size bytes b off n c : Nat} {kk : IntKind} {K : Int} (x y : Operand) (k : Nat) (T : SlTy P t e z size bytes) (hgd : Region.wanted o (yielded ops a.tmps) = true)
 (ho : o.op = .indexAddr t x y) (hx : a.eval x = .slice (some ⟨b, off, none⟩) n c) (hy : a.eval y = .int kk K) (hK : K = (k : Int)) (hk : k < n)
 (h : wpList P ops Q rest (a.put o.dst (.pointer (some ⟨b, off + k * size, none⟩))) w) : wpList P ops Q (o :: rest) a w := by
 subst hK
 obtain ⟨i, hi, hz0, hz1, hz2⟩ := info_parts T.inf
 refine opVal (v := .pointer (some ⟨b, off + k * size, none⟩)) hgd ?_ h
 have ht : P.underlying t = some (.slice (P.elem t)) := by rw [T.und]; simp [Program.elem, T.und]
 have he : P.elem t = e := by have := T.und; rw [this] at ht; injection ht with ht; injection ht with ht; exact ht.symm
 have hr := run_indexAt_slice (P := P) w t ⟨b, off, none⟩ n c kk (k : Int) ht
 rw [if_pos ⟨by omega, by omega⟩, he, Int.toNat_natCast] at hr
 unfold execOp
 simp only [ho, hx, hy, Sem.run_bind, Sem.run_pure]
 rw [hr]
 simp [sizeOf, typeInfo, hi, hz1, add_off]
theorem iaRunSg {w : World} {o : Oper} {a : Act} {t e : TypeId} {b off n s : Nat} {kk : IntKind} {K : Int} (x y : Operand) (k : Nat) (hu : P.underlying t = some (.array n e)) (he : (P.info? e).map (·.size) = some s)
 (ho : o.op = .indexAddr t x y) (hx : a.eval x = .pointer (some ⟨b, off, none⟩)) (hy : a.eval y = .int kk K) (hK : K = (k : Int)) (hk : k < n) : (execOp a.eval o).run P w = .ok (.value (.pointer (some ⟨b, off + k * s, none⟩))) w := by
 subst hK
 obtain ⟨j, hj, hs⟩ := Option.map_eq_some_iff.1 he
 have hl : P.arrayLen t = n := by simp [Program.arrayLen, hu]
 have hel : P.elem t = e := by simp [Program.elem, hu]
 have ht : P.underlying t = some (.array (P.arrayLen t) (P.elem t)) := by rw [hl, hel]; exact hu
 have hr := run_indexAt_array (P := P) w t ⟨b, off, none⟩ kk (k : Int) ht
 rw [hl, if_pos ⟨by omega, by omega⟩, hel, Int.toNat_natCast] at hr
 unfold execOp
 simp only [ho, hx, hy, Sem.run_bind, Sem.run_pure]
 rw [hr]
 simp [sizeOf, typeInfo, hj, hs, add_off]
end
theorem iaRowRunSg {P : Program} {w : World} {o : Oper} {a : Act} {t e : TypeId} {z : Value} {size bytes b off n c : Nat} {kk : IntKind} {K : Int} (x y : Operand) (k : Nat) (T : SlTy P t e z size bytes)
 (ho : o.op = .indexAddr t x y) (hx : a.eval x = .slice (some ⟨b, off, none⟩) n c) (hy : a.eval y = .int kk K) (hK : K = (k : Int)) (hk : k < n) : (execOp a.eval o).run P w = .ok (.value (.pointer (some ⟨b, off + k * size, none⟩))) w := by
 subst hK
 obtain ⟨i, hi, hz0, hz1, hz2⟩ := info_parts T.inf
 have ht : P.underlying t = some (.slice (P.elem t)) := by rw [T.und]; simp [Program.elem, T.und]
 have he : P.elem t = e := by have := T.und; rw [this] at ht; injection ht with ht; injection ht with ht; exact ht.symm
 have hr := run_indexAt_slice (P := P) w t ⟨b, off, none⟩ n c kk (k : Int) ht
 rw [if_pos ⟨by omega, by omega⟩, he, Int.toNat_natCast] at hr
 unfold execOp
 simp only [ho, hx, hy, Sem.run_bind, Sem.run_pure]
 rw [hr]
 simp [sizeOf, typeInfo, hi, hz1, add_off]
theorem rd_elemSg {w : World} {B b off n c k : Nat} {L : List UInt8} (h : Rd w B 16 (some ⟨b, off, none⟩) n c (bcs L)) (hk : k < n) : ∀ j u, (bcs ((L.drop (k * 16)).take 16))[j]? = some u → w.cell? ⟨b, off + k * 16 + j, none⟩ = some u := by
 obtain ⟨b', off', e1, _, hc⟩ := h.cells (by omega)
 injection e1 with e1
 injection e1 with e1 e2
 subst e1; subst e2
 intro j u hu
 have hl := h.len
 rw [bcs_length] at hl
 have hj := (List.getElem?_eq_some_iff.1 hu).1
 rw [bcs_length, List.length_take, List.length_drop] at hj
 rw [Nat.add_assoc]
 refine hc (k * 16 + j) u ?_
 rw [← hu]
 unfold bcs
 rw [List.getElem?_map, List.getElem?_map, List.getElem?_take, List.getElem?_drop, if_pos (by omega)]
theorem own_of_arrSg {w : World} {b n size base : Nat} {t : TypeId} {cur : List Value} (h : Arr w b t cur) (hl : cur.length = n * size) (hb : base ≤ b) (hn : n ≤ maxLen) : w.ownsRow base t size (.slice (some ⟨b, 0, none⟩) n n) n cur :=
 ⟨hl, Or.inr ⟨b, n, cur.toArray, rfl, hb, h, Nat.le_refl _, hn, by simpa using hl, by simp; exact List.take_of_length_le (by omega)⟩⟩
theorem own_neSg {w : World} {base base' size size' n n' : Nat} {e e' : TypeId} {v v' : Value} {xs xs' : List Value} (h : w.ownsRow base e size v n xs) (h' : w.ownsRow base' e' size' v' n' xs') (hne : e ≠ e') : v.ownBlock = none ∨ v.ownBlock ≠ v'.ownBlock := by
 rcases h.2 with ⟨rfl, _⟩ | ⟨g, cap, cur, rfl, _, hh, _⟩
 ·exact Or.inl rfl
 ·right
  rcases h'.2 with ⟨rfl, _⟩ | ⟨g', cap', cur', rfl, _, hh', _⟩
  ·simp [Value.ownBlock]
  ·intro he
   have : g = g' := by simpa [Value.ownBlock] using he
   subst this
   rw [hh] at hh'
   injection hh' with hh'
   injection hh' with _ ht
   exact hne ht
theorem own_arr_neSg {w : World} {base size n b : Nat} {e t : TypeId} {v : Value} {xs cur : List Value} (h : w.ownsRow base e size v n xs) (h' : Arr w b t cur) (hne : e ≠ t) : ∀ g, v.ownBlock = some g → g ≠ b := by
 rcases h.2 with ⟨rfl, _⟩ | ⟨g', cap, cur', rfl, _, hh, _⟩
 ·intro g hg; simp [Value.ownBlock] at hg
 ·intro g hg he
  have : g' = g := by simpa [Value.ownBlock] using hg
  subst this
  subst he
  unfold Arr at h'
  rw [hh] at h'
  injection h' with h'
  injection h' with _ ht
  exact hne ht
theorem own_rowSg {w w' : World} {base size n b : Nat} {e t : TypeId} {v : Value} {xs cur : List Value} (h : w.ownsRow base e size v n xs) (h' : Arr w b t cur) (hne : e ≠ t) (hg : w.grownBy w' (some b)) : w'.ownsRow base e size v n xs := by
 have hn := own_arr_neSg h h' hne
 refine h.kept hg ?_
 cases hv : v.ownBlock with
 | none => exact Or.inl rfl
 | some g => exact Or.inr (fun e2 => hn g hv (by injection e2))
theorem own_lt_belowSg {w w' : World} {base size n B : Nat} {e : TypeId} {v : Value} {xs : List Value} (h : w.ownsRow base e size v n xs) (hb : Below B w w') (hlt : ∀ k, v.ownBlock = some k → k < B) : w'.ownsRow base e size v n xs := by
 refine ⟨h.1, ?_⟩
 rcases h.2 with h2 | ⟨g, cap, cur, rfl, h3, h4, h5⟩
 ·exact Or.inl h2
 ·exact Or.inr ⟨g, cap, cur, rfl, h3, (hb.block g (hlt g rfl)).trans h4, h5⟩
theorem Tryz.und_intSg : Tryz.prog.underlying 3 = some (.int .i64) := by kernel_rfl
theorem Tryz.one_intSg : (Tryz.prog.info? 3).map (·.size) = some 1 := by kernel_rfl
theorem spl_oneSg (cur : List Value) (i : Nat) (u : Value) (h : i < cur.length) : spl cur i [u] = cur.set i u := by
 unfold spl
 apply List.ext_getElem?
 intro j
 rw [List.getElem?_set]
 have hl : (cur.take i).length = i := by rw [List.length_take]; omega
 by_cases h1 : j < i
 ·rw [List.append_assoc, List.getElem?_append_left (by omega), List.getElem?_take, if_pos h1, if_neg (by omega)]
 ·by_cases h2 : j = i
  ·subst h2
   rw [List.append_assoc, List.getElem?_append_right (by omega), hl, Nat.sub_self, if_pos rfl, if_pos h]
   rfl
  ·rw [List.getElem?_append_right (by rw [List.length_append]; simp; omega), if_neg (by omega), List.length_append, hl, List.getElem?_drop]
   congr 1
   simp
   omega
theorem stOneSg {P : Program} {w : World} {ops : Array Oper} {rest : List Oper} {o : Oper} {a : Act} {Q : Exit → Act → World → Prop} {g i : Nat} {t ty : TypeId} {cur : List Value} {u : Value} (x y : Operand) (he : (P.info? ty).map (·.size) = some 1) (hgd : Region.wanted o (yielded ops a.tmps) = true) (ho : o.op = .store ty x y)
 (hx : a.eval x = .pointer (some ⟨g, i, none⟩)) (hy : a.eval y = u) (hu : u.cells = #[u]) (h1 : u.oneCell' = true) (hA : Arr w g t cur) (hi : i < cur.length)
 (h : ∀ w', Arr w' g t (cur.set i u) → (∀ b' t' c', b' ≠ g → Arr w b' t' c' → Arr w' b' t' c') → (∀ B, B ≤ g → Below B w w') → w.grownBy w' (some g) → wpList P ops Q rest (a.put o.dst undef) w') : wpList P ops Q (o :: rest) a w := by
 obtain ⟨j, hj, hs⟩ := Option.map_eq_some_iff.1 he
 have hst := run_storeCells_spl (P := P) hA (off := i) [u] (by simp; omega) (by intro v hv; simp at hv; subst hv; exact h1)
 rw [spl_oneSg cur i u hi] at hst
 have hrun : (storeVar ty ⟨g, i, none⟩ u).run P w = .ok () (w.setRow g (cur.set i u).toArray) := by
  simp only [storeVar, sizeOf, typeInfo]
  simp [hj, hs, hu]
  simpa using hst
 refine wpList_want hgd fun K hK => ?_
 unfold Oper.wp execOp
 simp only [ho, hx, hy, Instr.storeAt, Instr.sureAddr, Sem.run_bind, Sem.run_pure, Result.andThen_ok, hrun]
 refine hK _ _ (h _ (hA.setRow _) (fun b' t' c' hne hA' => hA'.setRow_other (fun e => hne e.symm) _) (fun B hB => below_setRow w hB _) ⟨rfl, rfl, rfl, by simp [World.setRow], fun k hk hne => ?_⟩)
 unfold World.setRow
 have : g ≠ k := fun e => hne (by rw [e])
 simp [Array.getElem?_modify, this]
def GTreeClo (seed : List UInt8) (i j : Nat) (ix_ : Nat) (v : Value) (_w : World) : Prop :=
 match ix_ with
 | 0 => v = .int .i64 (i : Int)
 | 2 => v = sv seed
 | 3 => v = .int .i64 (i : Int)
 | 5 => v = .agg (bcs (startD seed i j)).toArray
 | 6 => v = .agg (bcs (chainD seed i 15 j)).toArray
 | _ => True
theorem treeClo_any (seed : List UInt8) (i j gi gs : Nat) (w : World) (ht : Tabs w) (hs : seed.length ≤ 100000000) (hi : i ≤ 1000000) (hj : j ≤ 1000000) (hi1 : Arr w gi 3 [.int .i64 (i : Int)]) (hs1 : Arr w gs 9 [sv seed]) :
 Calls Tryz.prog 109 #[.int .i64 (j : Int), .pointer (some ⟨gi, 0, none⟩), .pointer (some ⟨gs, 0, none⟩)] w fun e w' => e = .returned (.agg (bcs (chainD seed i 15 j)).toArray) ∧ Below w.heap.size w w' := by
 have HL := Lib.hid (show (bcs (chainD seed i 15 j)).length = 16 by rw [bcs_length]; exact chainD_len _ _ _ _)
 have HCL : Hid (∀ w', Tabs w' → Calls Tryz.prog 69 #[.int .i64 (i : Int), .int .i64 (j : Int), .agg (bcs (startD seed i j)).toArray, .int .i64 0, .int .i64 15] w' fun e w'' => e = .returned (.agg (bcs (chainD seed i 15 j)).toArray) ∧ Below w'.heap.size w' w'') := Lib.hid (fun w' h => climb15 i j (startD seed i j) w' h (isI64_nat hi) (isI64_nat hj) (startD_len _ _ _))
 have hi64 := isI64_nat hi
 have hj64 := isI64_nat hj
 have hg : w.heap.size ≤ w.heap.size := Nat.le_refl _
 go_enter Tryz.func109, Tryz.ntmps109
 go_wp2_with (with_reducible refine alArr (z := zerosB 16) Tryz.ag_b16 (wn rfl) rfl ?_)
 intro w1 h4 bw1
 replace hi1 := hi1.below bw1 hi1.lt
 replace hs1 := hs1.below bw1 hs1.lt
 have hb := bw1
 clear bw1
 go_wp2_with fail
 refine aStart kr_ ?_
 replace hi1 := hi1.drew
 replace hs1 := hs1.drew
 replace h4 := h4.drew
 replace hb := hb.drew
 generalize w1.drew = wd at *
 refine aTake (i := 1) (v := .int .i64 (j : Int)) rfl kr_ (wn rfl) (fun _ _ _ h => h) (fun w => by kernel_rfl) ?_
 refine aTake (i := 4) (v := .int .i64 (j : Int)) rfl kr_ (wn rfl) (fun _ _ _ h => h) (fun w => by kernel_rfl) ?_
 refine rgFloat [(0, 5), (2, 7), (3, 8), (5, 10), (6, 11)] (GTreeClo seed i j) _ 1 rfl kr_ ?mono ?step ?fin
 case mono =>
  intro p hp v w w' h hE
  simp only [List.mem_cons, List.not_mem_nil, or_false] at hp
  rcases hp with rfl | rfl | rfl | rfl | rfl
  ·exact h
  ·exact h
  ·exact h
  ·exact h
  ·exact h
 case step =>
  intro p hp
  simp only [List.mem_cons, List.not_mem_nil, or_false] at hp
  rcases hp with rfl | rfl | rfl | rfl | rfl
  ·refine ⟨_, rfl, rfl, fun a w' hF hE hG => ?_⟩
   refine ldOneSg (p := ⟨gi, 0, none⟩) (.tmp 1) kr_ (wn rfl) rfl ((hF.eval 1 kr_).trans kr_) ((hi1.below hE hi1.lt).cell (i := 0) rfl) ?_
   exact ⟨_, rfl, Below.refl _ _, rfl⟩
  ·refine ⟨_, rfl, rfl, fun a w' hF hE hG => ?_⟩
   refine ldOneSg (p := ⟨gs, 0, none⟩) (.tmp 2) kr_ (wn rfl) rfl ((hF.eval 2 kr_).trans kr_) ((hs1.below hE hs1.lt).cell (i := 0) rfl) ?_
   exact ⟨_, rfl, Below.refl _ _, rfl⟩
  ·refine ⟨_, rfl, rfl, fun a w' hF hE hG => ?_⟩
   refine ldOneSg (p := ⟨gi, 0, none⟩) (.tmp 1) kr_ (wn rfl) rfl ((hF.eval 1 kr_).trans kr_) ((hi1.below hE hi1.lt).cell (i := 0) rfl) ?_
   exact ⟨_, rfl, Below.refl _ _, rfl⟩
  ·refine ⟨_, rfl, rfl, fun a w' hF hE hG => ?_⟩
   have hx7 : a.tmps.getD 7 undef = sv seed := hG (2, 7) (by simp) kr_
   have hx8 : a.tmps.getD 8 undef = .int .i64 (i : Int) := hG (3, 8) (by simp) kr_
   refine callOp 70 [sv seed, .int .i64 (i : Int), .int .i64 (j : Int)] [] [] kr_ (wn rfl) rfl rfl (by show [a.tmps.getD 7 undef, a.tmps.getD 8 undef, a.eval (.tmp 9)] = _; rw [hx7, hx8, hF.eval 9 kr_]; first | done | kernel_rfl) ?_
   refine (start_any seed i j w' (ht.below (hb.trans (hE.mono hb.size)) ht.size) hi64 hj64 hs).mono ?_
   rintro e w2 ⟨rfl, hb2⟩
   exact ⟨_, rfl, ⟨_, rfl, hb2, rfl⟩⟩
  ·refine ⟨_, rfl, rfl, fun a w' hF hE hG => ?_⟩
   have hx5 : a.tmps.getD 5 undef = .int .i64 (i : Int) := hG (0, 5) (by simp) kr_
   have hx10 : a.tmps.getD 10 undef = .agg (bcs (startD seed i j)).toArray := hG (5, 10) (by simp) kr_
   refine callOp 69 [.int .i64 (i : Int), .int .i64 (j : Int), .agg (bcs (startD seed i j)).toArray, .int .i64 0, .int .i64 15] [] [] kr_ (wn rfl) rfl rfl (by show [a.tmps.getD 5 undef, a.eval (.tmp 6), a.tmps.getD 10 undef, a.eval (.const (.int .i64 0)), a.eval (.const (.int .i64 15))] = _; rw [hx5, hF.eval 6 kr_, hx10]; first | done | kernel_rfl) ?_
   refine (HCL.out w' (ht.below (hb.trans (hE.mono hb.size)) ht.size)).mono ?_
   rintro e w2 ⟨rfl, hb2⟩
   exact ⟨_, rfl, ⟨_, rfl, hb2, rfl⟩⟩
 case fin =>
  intro a wf hF hE hG
  have qf : a.tmps.getD 11 undef = .agg (bcs (chainD seed i 15 j)).toArray := hG (6, 11) (by simp)
  replace h4 := h4.below hE h4.lt
  have hszf := hb.size
  replace hb := hb.trans (hE.mono hb.size)
  rw [hF.eq]
  simp only [putsX]
  rw [qf]
  generalize a.tmps.getD 5 undef = x5
  generalize a.tmps.getD 7 undef = x7
  generalize a.tmps.getD 8 undef = x8
  generalize a.tmps.getD 10 undef = x10
  clear hG hF hE qf
  refine aNext (i := 7) kr_ rfl ?_
  refine stArr (b := w.heap.size) (cs := bcs (chainD seed i 15 j)) (.tmp 4) (.tmp 11) Tryz.ag_b16 (wn rfl) rfl kr_ kr_ h4 (zerosB_len _) HL.out (bcs_one _) ?_
  intro w4 h4 hkeep hbel
  replace hb := hb.trans (hbel _ hg)
  refine aDone kr_ ?_
  simp only [Act.put, List.setIfInBounds_toArray, List.set_cons_succ, List.set_cons_zero]
  go_wp2_with fail
  refine bodyPost_ret (v := .agg (bcs (chainD seed i 15 j)).toArray) ?_ rfl ⟨rfl, hb⟩
  exact res_cell1 _ Tryz.results109 Tryz.ag_b16 _ rfl HL.out (fun j u hu => by rw [Nat.zero_add]; exact h4.cell hu)
theorem at_any (sig : List UInt8) (U k gt gu : Nat) (w : World) (h1 : Arr w gt 9 [sv sig]) (h2 : Arr w gu 3 [.int .i64 (U : Int)]) (hl : sig.length ≤ 1000000) (hk : U + k * 16 + 16 ≤ sig.length) :
 Calls Tryz.prog 82 #[.int .i64 (k : Int), .pointer (some ⟨gt, 0, none⟩), .pointer (some ⟨gu, 0, none⟩)] w fun e w' => e = .returned (.agg (bcs (part (sig.drop U) k)).toArray) ∧ Below w.heap.size w w' := by
 have hp : (sig.drop (U + k * 16)).take 16 = part (sig.drop U) k := by unfold part; rw [List.drop_drop, Nat.mul_comm 16 k]
 have hpl : 16 ≤ (sig.drop (U + k * 16)).length := by rw [List.length_drop]; omega
 have HL := Lib.hid (show (bcs (part (sig.drop U) k)).length = 16 by rw [bcs_length, ← hp, List.length_take]; omega)
 have HP := Lib.hid hp
 have HPL := Lib.hid hpl
 have hg : w.heap.size ≤ w.heap.size := Nat.le_refl _
 clear hp hpl
 go_enter Tryz.func82, Tryz.ntmps82
 go_wp2_with (with_reducible refine alArr (z := zerosB 16) Tryz.ag_b16 (wn rfl) rfl ?_)
 intro w1 h4 bw1
 replace h1 := h1.below bw1 h1.lt
 replace h2 := h2.below bw1 h2.lt
 have hb := bw1
 clear bw1
 have c1 : w1.cell? ⟨gt, 0, none⟩ = some (.string ⟨sig.toArray⟩) := h1.cell (i := 0) rfl
 have c2 : w1.cell? ⟨gu, 0, none⟩ = some (.int .i64 (U : Int)) := h2.cell (i := 0) rfl
 go_wp2_with (with_reducible refine slStrL (.tmp 5) (.tmp 9) sig (U + k * 16) (wn rfl) rfl rfl rfl (by omega) (by omega) Tryz.und_str ?_)
 clear c1 c2
 go_wp2_with fail
 refine (sgDigest_any (sig.drop (U + k * 16)) w1 HPL.out).mono ?_
 rintro e w2 ⟨rfl, bw2⟩
 replace h1 := h1.below bw2 h1.lt
 replace h2 := h2.below bw2 h2.lt
 replace h4 := h4.below bw2 h4.lt
 replace hb := hb.trans (bw2.mono hb.size)
 clear bw2
 rw [HP.out]
 clear h1 h2
 go_wp2_with (with_reducible refine stArr (cs := bcs (part (sig.drop U) k)) (.tmp 4) (.tmp 11) Tryz.ag_b16 (wn rfl) rfl rfl rfl h4 (zerosB_len _) HL.out (bcs_one _) ?_)
 intro w3 h4 hkeep hbel
 replace hb := hb.trans (hbel _ hg)
 clear hkeep hbel
 go_wp2_with fail
 refine bodyPost_ret (v := (.agg (bcs (part (sig.drop U) k)).toArray)) ?_ rfl ⟨rfl, hb⟩
 exact res_cell1 _ Tryz.results82 Tryz.ag_b16 _ rfl HL.out (fun j u hu => by rw [Nat.zero_add]; exact h4.cell hu)
theorem digits_get (D : List UInt8) (h : D.length = 16) (j : Nat) (hj : j < 35) : (ivs (digitsD D))[j]? = some (.int .i64 ((digAt D j : Nat) : Int)) := by
 have hlt : j < (digitsD D).length := by rw [digitsD_len h]; exact hj
 unfold ivs digAt
 rw [List.getElem?_map, List.getElem?_eq_getElem hlt]
 rfl
theorem climbTo (i j : Int) (d : List UInt8) (a : Nat) (w : World) (ht : Tabs w) (hi : isI64 i) (hj : isI64 j) (hd : d.length = 16) (ha : a ≤ 15) :
 Calls Tryz.prog 69 #[.int .i64 i, .int .i64 j, .agg (bcs d).toArray, .int .i64 (a : Int), .int .i64 15] w fun e w' => e = .returned (.agg (bcs (climbD i j a d (15 - a))).toArray) ∧ Below w.heap.size w w' := by
 have := climb_any i j d a (15 - a) w ht hi hj hd (by omega)
 rwa [show ((a + (15 - a) : Nat) : Int) = 15 by omega] at this
theorem refClimbTo (i j : Int) (d : List UInt8) (a : Nat) (w : World) (ht : TabsR w) (hi : isI64 i) (hj : isI64 j) (hd : d.length = 16) (ha : a ≤ 15) :
 Calls Tryz.prog 76 #[.int .i64 i, .int .i64 j, .agg (bcs d).toArray, .int .i64 (a : Int), .int .i64 15] w fun e w' => e = .returned (.agg (bcs (climbD i j a d (15 - a))).toArray) ∧ Below w.heap.size w w' := by
 have := refClimb_any i j d a (15 - a) w ht hi hj hd (by omega)
 rwa [show ((a + (15 - a) : Nat) : Int) = 15 by omega] at this
theorem part_len {r : List UInt8} {k : Nat} (h : k * 16 + 16 ≤ r.length) : (part r k).length = 16 := by
 unfold part
 rw [List.length_take, List.length_drop]
 omega
def endD (i : Nat) (D r : List UInt8) (j : Nat) : List UInt8 := climbD i j (digAt D j) (part r j) (15 - digAt D j)
theorem endD_len {i j : Nat} {D r : List UInt8} (h : j * 16 + 16 ≤ r.length) : (endD i D r j).length = 16 := climbD_len _ _ _ (part_len h) _
def GVerClo (D r : List UInt8) (i j gt gu : Nat) (ix_ : Nat) (v : Value) (_w : World) : Prop :=
 match ix_ with
 | 0 => v = .int .i64 (i : Int)
 | 2 => v = .func (.func 82) #[] #[.pointer (some ⟨gt, 0, none⟩), .pointer (some ⟨gu, 0, none⟩)]
 | 4 => v = .agg (bcs (part r j)).toArray
 | 7 => v = .int .i64 ((digAt D j : Nat) : Int)
 | 8 => v = .agg (bcs (endD i D r j)).toArray
 | _ => True
theorem verClo_any (sig D : List UInt8) (U i j gi ga gd gt gu : Nat) (w : World) (ht : Tabs w) (hi : i ≤ 1000000) (hj : j < 35) (hD : D.length = 16) (hl : sig.length ≤ 1000000) (hk : U + j * 16 + 16 ≤ sig.length)
 (h1 : Arr w gi 3 [.int .i64 (i : Int)]) (h2 : Arr w ga 109 [.func (.func 82) #[] #[.pointer (some ⟨gt, 0, none⟩), .pointer (some ⟨gu, 0, none⟩)]]) (h3 : Arr w gd 99 (ivs (digitsD D)))
 (h4 : Arr w gt 9 [sv sig]) (h5 : Arr w gu 3 [.int .i64 (U : Int)]) :
 Calls Tryz.prog 85 #[.int .i64 (j : Int), .pointer (some ⟨gi, 0, none⟩), .pointer (some ⟨ga, 0, none⟩), .pointer (some ⟨gd, 0, none⟩)] w fun e w' => e = .returned (.agg (bcs (endD i D (sig.drop U) j)).toArray) ∧ Below w.heap.size w w' := by
 have hrl : j * 16 + 16 ≤ (sig.drop U).length := by rw [List.length_drop]; omega
 have HCL : Hid (∀ w', Tabs w' → Calls Tryz.prog 69 #[.int .i64 (i : Int), .int .i64 (j : Int), .agg (bcs (part (sig.drop U) j)).toArray, .int .i64 ((digAt D j : Nat) : Int), .int .i64 15] w' fun e w'' => e = .returned (.agg (bcs (endD i D (sig.drop U) j)).toArray) ∧ Below w'.heap.size w' w'') := Lib.hid (fun w' h => climbTo i j (part (sig.drop U) j) (digAt D j) w' h (isI64_nat hi) (isI64_nat (by omega)) (part_len hrl) (digAt_le _ _))
 have HAT := Lib.hid (fun w' (a : Arr w' gt 9 [sv sig]) (b : Arr w' gu 3 [.int .i64 (U : Int)]) => at_any sig U j gt gu w' a b hl hk)
 have HL := Lib.hid (show (bcs (endD i D (sig.drop U) j)).length = 16 by rw [bcs_length]; exact endD_len hrl)
 have HDG := Lib.hid (show (ivs (digitsD D))[0 + j * 1]? = some (.int .i64 ((digAt D j : Nat) : Int)) by rw [Nat.zero_add, Nat.mul_one]; exact digits_get D hD j hj)
 have hg : w.heap.size ≤ w.heap.size := Nat.le_refl _
 clear hrl
 generalize sig.drop U = r at *
 go_enter Tryz.func85, Tryz.ntmps85
 go_wp2_with (with_reducible refine alArr (z := zerosB 16) Tryz.ag_b16 (wn rfl) rfl ?_)
 intro w1 h6 bw1
 replace h1 := h1.below bw1 h1.lt
 replace h2 := h2.below bw1 h2.lt
 replace h3 := h3.below bw1 h3.lt
 replace h4 := h4.below bw1 h4.lt
 replace h5 := h5.below bw1 h5.lt
 have hb := bw1
 clear bw1
 go_wp2_with fail
 refine aStart kr_ ?_
 replace h1 := h1.drew
 replace h2 := h2.drew
 replace h3 := h3.drew
 replace h4 := h4.drew
 replace h5 := h5.drew
 replace h6 := h6.drew
 replace hb := hb.drew
 generalize w1.drew = wd at *
 refine aTake (i := 1) (v := .int .i64 (j : Int)) rfl kr_ (wn rfl) (fun _ _ _ h => h) (fun w => by kernel_rfl) ?_
 refine aTake (i := 3) (v := .int .i64 (j : Int)) rfl kr_ (wn rfl) (fun _ _ _ h => h) (fun w => by kernel_rfl) ?_
 refine aTake (i := 5) (v := .int .i64 (j : Int)) rfl kr_ (wn rfl) (fun _ _ _ h => h) (fun w => by kernel_rfl) ?_
 refine aTake (i := 6) (v := .pointer (some ⟨gd, 0 + j * 1, none⟩)) rfl kr_ (wn rfl) (fun _ _ _ h => h) (fun w => iaRunSg (kk := .i64) (.tmp 3) (.tmp 11) j Tryz.arr_i35 kr_ rfl kr_ kr_ rfl hj) ?_
 refine rgFloat [(0, 6), (2, 8), (4, 10), (7, 13), (8, 14)] (GVerClo D r i j gt gu) _ 1 rfl kr_ ?mono ?step ?fin
 case mono =>
  intro p hp v w w' h hE
  simp only [List.mem_cons, List.not_mem_nil, or_false] at hp
  rcases hp with rfl | rfl | rfl | rfl | rfl
  ·exact h
  ·exact h
  ·exact h
  ·exact h
  ·exact h
 case step =>
  intro p hp
  simp only [List.mem_cons, List.not_mem_nil, or_false] at hp
  rcases hp with rfl | rfl | rfl | rfl | rfl
  ·refine ⟨_, rfl, rfl, fun a w' hF hE hG => ?_⟩
   refine ldOneSg (p := ⟨gi, 0, none⟩) (.tmp 1) kr_ (wn rfl) rfl ((hF.eval 1 kr_).trans kr_) ((h1.below hE h1.lt).cell (i := 0) rfl) ?_
   exact ⟨_, rfl, Below.refl _ _, rfl⟩
  ·refine ⟨_, rfl, rfl, fun a w' hF hE hG => ?_⟩
   refine ldOneSg (p := ⟨ga, 0, none⟩) (.tmp 2) kr_ (wn rfl) rfl ((hF.eval 2 kr_).trans kr_) ((h2.below hE h2.lt).cell (i := 0) rfl) ?_
   exact ⟨_, rfl, Below.refl _ _, rfl⟩
  ·refine ⟨_, rfl, rfl, fun a w' hF hE hG => ?_⟩
   refine callOp 82 [.int .i64 (j : Int)] [] [.pointer (some ⟨gt, 0, none⟩), .pointer (some ⟨gu, 0, none⟩)] kr_ (wn rfl) rfl (show a.tmps.getD 8 undef = _ from hG (2, 8) (by simp) kr_) (by show [a.eval (.tmp 9)] = _; rw [hF.eval 9 kr_]; first | done | kernel_rfl) ?_
   refine (HAT.out w' (h4.below hE h4.lt) (h5.below hE h5.lt)).mono ?_
   rintro e w2 ⟨rfl, hb2⟩
   exact ⟨_, rfl, ⟨_, rfl, hb2, rfl⟩⟩
  ·refine ⟨_, rfl, rfl, fun a w' hF hE hG => ?_⟩
   refine ldOneSg (p := ⟨gd, 0 + j * 1, none⟩) (.tmp 12) kr_ (wn rfl) rfl ((hF.eval 12 kr_).trans kr_) ((h3.below hE h3.lt).cell (i := 0 + j * 1) HDG.out) ?_
   exact ⟨_, rfl, Below.refl _ _, rfl⟩
  ·refine ⟨_, rfl, rfl, fun a w' hF hE hG => ?_⟩
   have hx6 : a.tmps.getD 6 undef = .int .i64 (i : Int) := hG (0, 6) (by simp) kr_
   have hx10 : a.tmps.getD 10 undef = .agg (bcs (part r j)).toArray := hG (4, 10) (by simp) kr_
   have hx13 : a.tmps.getD 13 undef = .int .i64 ((digAt D j : Nat) : Int) := hG (7, 13) (by simp) kr_
   refine callOp 69 [.int .i64 (i : Int), .int .i64 (j : Int), .agg (bcs (part r j)).toArray, .int .i64 ((digAt D j : Nat) : Int), .int .i64 15] [] [] kr_ (wn rfl) rfl rfl (by show [a.tmps.getD 6 undef, a.eval (.tmp 7), a.tmps.getD 10 undef, a.tmps.getD 13 undef, a.eval (.const (.int .i64 15))] = _; rw [hx6, hF.eval 7 kr_, hx10, hx13]; first | done | kernel_rfl) ?_
   refine (HCL.out w' (ht.below (hb.trans (hE.mono hb.size)) ht.size)).mono ?_
   rintro e w2 ⟨rfl, hb2⟩
   exact ⟨_, rfl, ⟨_, rfl, hb2, rfl⟩⟩
 case fin =>
  intro a wf hF hE hG
  have qf : a.tmps.getD 14 undef = .agg (bcs (endD i D r j)).toArray := hG (8, 14) (by simp)
  replace h6 := h6.below hE h6.lt
  have hszf := hb.size
  replace hb := hb.trans (hE.mono hb.size)
  rw [hF.eq]
  simp only [putsX]
  rw [qf]
  generalize a.tmps.getD 6 undef = x6
  generalize a.tmps.getD 8 undef = x8
  generalize a.tmps.getD 10 undef = x10
  generalize a.tmps.getD 13 undef = x13
  clear hG hF hE qf
  refine aNext (i := 9) kr_ rfl ?_
  refine stArr (b := w.heap.size) (cs := bcs (endD i D r j)) (.tmp 5) (.tmp 14) Tryz.ag_b16 (wn rfl) rfl kr_ kr_ h6 (zerosB_len _) HL.out (bcs_one _) ?_
  intro w4 h6 hkeep hbel
  replace hb := hb.trans (hbel _ hg)
  refine aDone kr_ ?_
  simp only [Act.put, List.setIfInBounds_toArray, List.set_cons_succ, List.set_cons_zero]
  go_wp2_with fail
  refine bodyPost_ret (v := .agg (bcs (endD i D r j)).toArray) ?_ rfl ⟨rfl, hb⟩
  exact res_cell1 _ Tryz.results85 Tryz.ag_b16 _ rfl HL.out (fun j u hu => by rw [Nat.zero_add]; exact h6.cell hu)
theorem Tryz.sl_digs : SlTy Tryz.prog 96 23 (.slice none 0 0) 1 24 := ⟨by kernel_rfl, by kernel_rfl, rfl, by decide⟩
def levD (seed : List UInt8) (l m : Nat) : List UInt8 := ((List.range m).map (valueD seed l)).flatten
theorem levD_next (seed : List UInt8) (l m : Nat) : levD seed l (m + 1) = levD seed l m ++ valueD seed l m := range_map_next _ _
theorem levD_len (seed : List UInt8) (l m : Nat) : (levD seed l m).length = m * 16 := range_map_len _ (valueD_len seed l) m
theorem levD_at (seed : List UInt8) (l m k : Nat) (hk : k < m) : ((levD seed l m).drop (k * 16)).take 16 = valueD seed l k := by
 induction m with
 | zero => omega
 | succ m ih =>
  rw [levD_next]
  by_cases h : k < m
  ·rw [List.drop_append_of_le_length (by rw [levD_len]; omega), List.take_append_of_le_length (by rw [List.length_drop, levD_len]; omega)]
   exact ih h
  ·obtain rfl : k = m := by omega
   rw [List.drop_append, List.drop_of_length_le (by rw [levD_len]; omega), levD_len]
   simp
   exact List.take_of_length_le (by rw [valueD_len]; omega)
def TreeRows (seed : List UInt8) (h l base : Nat) (vs : List Value) (w : World) : Prop :=
 ∀ k, k ≤ l → ∃ A c, vs[k]? = some (.slice A (2 ^ (h - k)) c) ∧ w.ownsRow base 27 16 (.slice A (2 ^ (h - k)) c) (2 ^ (h - k)) (bcs (levD seed k (2 ^ (h - k))))
theorem TreeRows.below {seed : List UInt8} {h l base B : Nat} {vs : List Value} {w w' : World} (H : TreeRows seed h l base vs w) (hb : Below B w w') (hs : w.heap.size ≤ B) : TreeRows seed h l base vs w' := by
 intro k hk
 obtain ⟨A, c, h1, h2⟩ := H k hk
 exact ⟨A, c, h1, ownsRow_below h2 hb hs⟩
theorem TreeRows.grown {seed : List UInt8} {h l base base' n : Nat} {v : Value} {xs vs : List Value} {w w' : World} (H : TreeRows seed h l base vs w) (hv : w.ownsRow base' 23 1 v n xs) (hg : w.grownBy w' v.ownBlock) : TreeRows seed h l base vs w' := by
 intro k hk
 obtain ⟨A, c, h1, h2⟩ := H k hk
 exact ⟨A, c, h1, h2.kept hg (own_neSg h2 hv (by decide))⟩
theorem TreeRows.next {seed : List UInt8} {h l base : Nat} {vs : List Value} {A : Option Addr} {c : Nat} {w : World} (H : TreeRows seed h l base vs w) (hl : vs.length = l + 1) (hu : w.ownsRow base 27 16 (.slice A (2 ^ (h - (l + 1))) c) (2 ^ (h - (l + 1))) (bcs (levD seed (l + 1) (2 ^ (h - (l + 1)))))) :
 TreeRows seed h (l + 1) base (vs ++ [.slice A (2 ^ (h - (l + 1))) c]) w := by
 intro k hk
 by_cases h1 : k ≤ l
 ·obtain ⟨A', c', h2, h3⟩ := H k h1
  exact ⟨A', c', by rw [List.getElem?_append_left (by omega)]; exact h2, h3⟩
 ·obtain rfl : k = l + 1 := by omega
  exact ⟨A, c, by rw [List.getElem?_append_right (by omega), hl, Nat.sub_self]; rfl, hu⟩
def RetTree (seed : List UInt8) (h : Nat) (w : World) (e : Ending) (w' : World) : Prop :=
 ∃ v vs, e = .returned v ∧ w'.ownsRow w.heap.size 23 1 v (h + 1) vs ∧ TreeRows seed h h w.heap.size vs w' ∧ Below w.heap.size w w'
def GTree1 (seed : List UInt8) (u : Value) (i : Nat) (ix_ : Nat) (v : Value) (w : World) : Prop :=
 match ix_ with
 | 3 => v = u
 | 5 => v = .agg (bcs (valueD seed 0 i)).toArray
 | 6 => ∃ g, v = .slice (some ⟨g, 0, none⟩) 1 1 ∧ Arr w g 27 (bcs (valueD seed 0 i))
 | _ => True
def GTree2 (seed : List UInt8) (l n m c gA : Nat) (ix_ : Nat) (v : Value) (w : World) : Prop :=
 match ix_ with
 | 7 => v = .slice (some ⟨gA, 0, none⟩) m c
 | 10 => v = .pointer (some ⟨gA, 0 + (2 * n) * 16, none⟩)
 | 11 => v = .agg (bcs (valueD seed l (2 * n))).toArray
 | 15 => v = .slice (some ⟨gA, 0, none⟩) m c
 | 19 => v = .pointer (some ⟨gA, 0 + (2 * n + 1) * 16, none⟩)
 | 20 => v = .agg (bcs (valueD seed l (2 * n + 1))).toArray
 | 21 => v = .agg (bcs (valueD seed (l + 1) n)).toArray
 | 22 => ∃ g, v = .slice (some ⟨g, 0, none⟩) 1 1 ∧ Arr w g 27 (bcs (valueD seed (l + 1) n))
 | _ => True
theorem tree_any (seed : List UInt8) (h : Nat) (w : World) (ht : Tabs w) (hs : seed.length ≤ 100000000) (hh : h ≤ 6) :
 Calls Tryz.prog 65 #[sv seed, .int .i64 (h : Int)] w (RetTree seed h w) := by
 unfold sv
 have hmk : ∀ w : World, (Instr.makeSlice 96 (.int .i64 1) (.int .i64 1)).run Tryz.prog w = .ok (.slice (some ⟨w.heap.size, 0, none⟩) 1 1) (w.alloc (.cells #[.slice none 0 0] 23)) := fun _ => by kernel_rfl
 have hcd := countD_of hh
 have hp64 := two_pow_le hh
 have hp1 := two_pow_pos h
 have HLS := Lib.hid (fun (i : Nat) (g6 : Nat) (hi : i ≤ 1000000) (w' : World) (ht' : Tabs w') (k6 : Arr w' g6 3 [.int .i64 (i : Int)]) (k2 : Arr w' w.heap.size 9 [sv seed]) =>
  leaf_any 109 [.pointer (some ⟨g6, 0, none⟩), .pointer (some ⟨w.heap.size, 0, none⟩)] (chainD seed i 15) w' ht' kr_ (fun j _ => chainD_len seed i 15 j)
   (fun j w'' hj hE => treeClo_any seed i j g6 w.heap.size w'' (ht'.below hE ht'.size) hs hi (by omega) (k6.below hE k6.lt) (k2.below hE k2.lt)))
 go_enter Tryz.func65, Tryz.ntmps65
 go_wp2_with (with_reducible refine bxOne (.tmp 0) (wn rfl) rfl rfl rfl ?_)
 intro w1 h2 hb
 have l2 : w.heap.size < w1.heap.size := h2.lt
 go_wp2_with fail
 have hl := Arr.new w1 23 [.slice none 0 0]
 have bA : Below w1.heap.size w1 (w1.alloc (.cells [.slice none 0 0].toArray 23)) := (Below.refl _ _).alloc (Nat.le_refl _) _
 generalize w1.alloc (.cells [.slice none 0 0].toArray 23) = wA at *
 have ll := hl.lt
 replace h2 := h2.below bA h2.lt
 replace hb := hb.trans (bA.mono hb.size)
 clear bA hmk
 refine (count_any h wA).mono ?_
 rintro e wB ⟨rfl, bB⟩
 rw [hcd]
 replace h2 := h2.below bB h2.lt
 replace hl := hl.below bB ll
 replace hb := hb.trans (bB.mono hb.size)
 clear bB hcd
 generalize w1.heap.size = gl at *
 have llB := hl.lt
 have HM : Hid (2 ^ h = 2 ^ h) := Lib.hid rfl
 obtain ⟨M, hM⟩ : ∃ M, M = 2 ^ h := ⟨_, rfl⟩
 rw [← hM] at hp64 hp1
 replace HM := Lib.hid hM
 rw [← hM]
 clear hM
 go_wp2_with fail
 go_loopw [13] (fun v13 wr => ∃ (i : Nat) (u : Value), i ≤ M ∧ v13 = .int .i64 i ∧ Arr wr w.heap.size 9 [sv seed] ∧ Arr wr gl 23 [u] ∧ wr.ownsRow wB.heap.size 27 16 u i (bcs (levD seed 0 i)) ∧ wB.heap.size ≤ wr.heap.size ∧ Below w.heap.size w wr) (fun v13 _ => M - (intOf v13).toNat)
 case atStart => exact ⟨0, .slice none 0 0, by omega, rfl, h2, hl, World.ownsRow_nil _ _ _ _, Nat.le_refl _, hb⟩
 case round =>
  clear h2 hl hb
  obtain ⟨i, u, hi, rfl, h2, hl, hown, hwB, hb⟩ := hrel
  by_cases hlt : i < M
  ·go_wp2_with fail
   have h6 := Arr.new wr 3 [.int .i64 (i : Int)]
   have b6 : Below wr.heap.size wr (wr.alloc (.cells [.int .i64 (i : Int)].toArray 3)) := (Below.refl _ _).alloc (Nat.le_refl _) _
   generalize wr.alloc (.cells [.int .i64 (i : Int)].toArray 3) = wa at *
   generalize hg6 : wr.heap.size = g6 at *
   replace h2 := h2.below b6 (by rw [← hg6]; exact h2.lt)
   replace hl := hl.below b6 (by rw [← hg6]; exact hl.lt)
   replace hown := ownsRow_below hown b6 (by omega)
   replace hwB := Nat.le_trans hwB (by have := b6.size; omega : g6 ≤ wa.heap.size)
   replace hb := hb.trans (b6.mono (by have := hb.size; omega))
   clear b6 hg6
   refine aStart kr_ ?_
   replace h2 := h2.drew
   replace hl := hl.drew
   replace h6 := h6.drew
   replace hb := hb.drew
   have hown' : wa.drew.ownsRow wB.heap.size 27 16 u i (bcs (levD seed 0 i)) := hown
   have hwB' : wB.heap.size ≤ wa.drew.heap.size := hwB
   clear hown hwB
   generalize wa.drew = wd at *
   have H16 := Lib.hid (show (bcs (valueD seed 0 i)).length = 16 by rw [bcs_length]; exact valueD_len _ _ _)
   have HLEAF : Hid (∀ w', Tabs w' → Arr w' g6 3 [.int .i64 (i : Int)] → Arr w' w.heap.size 9 [sv seed] → Calls Tryz.prog 84 #[.func (.func 109) #[] #[.pointer (some ⟨g6, 0, none⟩), .pointer (some ⟨w.heap.size, 0, none⟩)]] w' fun e w'' => e = .returned (.agg (bcs (valueD seed 0 i)).toArray) ∧ Below w'.heap.size w' w'') := Lib.hid (HLS.out i g6 (by omega))
   refine aTake (i := 0) (v := .slice (some ⟨gl, 0, none⟩) 1 1) rfl kr_ (wn rfl) (fun _ _ _ h => h) (fun w => by kernel_rfl) ?_
   refine aTake (i := 1) (v := .slice (some ⟨gl, 0, none⟩) 1 1) rfl kr_ (wn rfl) (fun _ _ _ h => h) (fun w => by kernel_rfl) ?_
   refine aTake (i := 2) (v := .pointer (some ⟨gl, 0, none⟩)) rfl kr_ (wn rfl) (fun _ _ _ h => h) (fun w => by kernel_rfl) ?_
   refine aTake (i := 4) (v := .func (.func 109) #[] #[.pointer (some ⟨g6, 0, none⟩), .pointer (some ⟨w.heap.size, 0, none⟩)]) rfl kr_ (wn rfl) (fun _ _ _ h => h) (fun w => by kernel_rfl) ?_
   refine rgFloat [(3, 19), (5, 21), (6, 22)] (GTree1 seed u i) _ 3 rfl kr_ ?mono ?step ?fin
   case mono =>
    intro p hp v w w' h hE
    simp only [List.mem_cons, List.not_mem_nil, or_false] at hp
    rcases hp with rfl | rfl | rfl
    ·exact h
    ·exact h
    ·exact (by obtain ⟨g, e1, e2⟩ := h; exact ⟨g, e1, e2.below hE e2.lt⟩)
   case step =>
    intro p hp
    simp only [List.mem_cons, List.not_mem_nil, or_false] at hp
    rcases hp with rfl | rfl | rfl
    ·refine ⟨_, rfl, rfl, fun a w' hF hE hG => ?_⟩
     refine ldOneSg (p := ⟨gl, 0, none⟩) (.tmp 18) kr_ (wn rfl) rfl ((hF.eval 18 kr_).trans kr_) ((hl.below hE hl.lt).cell (i := 0) rfl) ?_
     exact ⟨_, rfl, Below.refl _ _, rfl⟩
    ·refine ⟨_, rfl, rfl, fun a w' hF hE hG => ?_⟩
     refine callOp 84 [.func (.func 109) #[] #[.pointer (some ⟨g6, 0, none⟩), .pointer (some ⟨w.heap.size, 0, none⟩)]] [] [] kr_ (wn rfl) rfl rfl (by show [a.eval (.tmp 20)] = _; rw [hF.eval 20 kr_]; first | done | kernel_rfl) ?_
     refine (HLEAF.out w' (ht.below (hb.trans (hE.mono hb.size)) ht.size) (h6.below hE h6.lt) (h2.below hE h2.lt)).mono ?_
     rintro e w2 ⟨rfl, hb2⟩
     exact ⟨_, rfl, ⟨_, rfl, hb2, rfl⟩⟩
    ·refine ⟨_, rfl, rfl, fun a w' hF hE hG => ?_⟩
     refine bsAgg1 (.tmp 21) Tryz.sl_digSg (wn rfl) rfl (show a.tmps.getD 21 undef = _ from hG (5, 21) (by simp) kr_) (by rw [List.size_toArray]; exact H16.out) (by decide) ?_
     exact ⟨_, rfl, (Below.refl _ _).alloc (Nat.le_refl _) _, _, rfl, Arr.new w' _ _⟩
   case fin =>
    intro a wf hF hE hG
    have q19 : a.tmps.getD 19 undef = u := hG (3, 19) (by simp)
    obtain ⟨g22, q22, h22⟩ := hG (6, 22) (by simp)
    replace h2 := h2.below hE h2.lt
    replace hl := hl.below hE hl.lt
    have hsz := hE.size
    have hownf := ownsRow_below hown' hE (Nat.le_refl _)
    replace hb := hb.trans (hE.mono hb.size)
    rw [hF.eq]
    simp only [putsX]
    rw [q19, q22]
    generalize a.tmps.getD 21 undef = x21
    clear hG hF q19 q22 h6 hown' hE
    have hrd : Rd wf wf.heap.size 16 (some ⟨g22, 0, none⟩) 1 1 (bcs (valueD seed 0 i)) := rd_of_arr h22 (fun _ _ h => h) H16.out (Nat.le_refl _) (by unfold maxLen; omega) h22.lt
    refine aNext (i := 7) kr_ rfl ?_
    refine appR (.tmp 19) (.tmp 22) Tryz.sl_digSg (wn rfl) rfl kr_ kr_ hownf hrd (bcs_one _) (Below.refl wB.heap.size wf) (by omega) (by omega) (by omega) ?_
    intro v' w' h3 h4 h5
    rw [← bcs_append, ← levD_next] at h3
    replace h2 := h2.below h4 (by omega)
    replace hl := hl.below h4 (by omega)
    have hwB2 : wB.heap.size ≤ w'.heap.size := by have := h4.size; omega
    replace hb := hb.trans (h4.mono (by omega))
    clear hownf hrd h4 h5
    refine aTake (i := 8) (v := .pointer (some ⟨gl, 0, none⟩)) rfl kr_ (wn rfl) (fun _ _ _ h => h) (fun w => by kernel_rfl) ?_
    obtain ⟨A', c', rfl, _⟩ := Rd.of_own h3
    refine aNext (i := 9) kr_ rfl ?_
    refine stOneSg (g := gl) (i := 0) (u := .slice A' (i + 1) c') (.tmp 24) (.tmp 23) kr_ (wn rfl) rfl kr_ kr_ rfl rfl hl (by simp) ?_
    intro w5 hl5 hkeep hbel hgr
    have h3' := own_rowSg h3 hl (by decide) hgr
    replace h2 := hkeep _ _ _ (by omega) h2
    replace hb := hb.trans (hbel _ (by omega))
    have hwB3 : wB.heap.size ≤ w5.heap.size := by have := hgr.size; omega
    refine aDone kr_ ?_
    simp only [Act.put, List.setIfInBounds_toArray, List.set_cons_succ, List.set_cons_zero]
    clear hkeep hbel hgr h3 hl hwB2 hwB' h22
    go_wp2_with fail
    go_roundw
    case rel => exact ⟨i + 1, .slice A' (i + 1) c', by omega, by go_num, h2, hl5, h3', hwB3, hb⟩
    case measure => (simp [intOf]; try omega)
  ·obtain rfl : i = M := by omega
   clear hlt
   have hn0 := two_pow_pos h
   obtain ⟨A0, c0, rfl, _⟩ := Rd.of_own hown
   have hT0 : TreeRows seed h 0 w.heap.size [.slice A0 i c0] wr := by
    intro k hk
    obtain rfl : k = 0 := by omega
    have hM := HM.out
    subst hM
    exact ⟨A0, c0, rfl, ownsRow_base hown (by omega)⟩
   have hv0 := own_of_arrSg (base := w.heap.size) (n := 1) (size := 1) hl rfl (by omega) (by unfold maxLen; omega)
   clear hl hown h2
   go_wp2_with fail
   go_loopw [5, 27] (fun v5 v27 wr => ∃ (l : Nat) (vs : List Value), l ≤ h ∧ v27 = .int .i64 l ∧ wr.ownsRow w.heap.size 23 1 v5 (l + 1) vs ∧ TreeRows seed h l w.heap.size vs wr ∧ Below w.heap.size w wr) (fun _ v27 _ => h - (intOf v27).toNat)
   case atStart => exact ⟨0, _, by omega, rfl, hv0, hT0, hb⟩
   case round =>
    clear hv0 hT0 hb
    obtain ⟨l, vs, hl, rfl, hv5, hT, hb⟩ := hrel
    by_cases hlt : l < h
    ·obtain ⟨Al, c, hvl, hol⟩ := hT l (Nat.le_refl _)
     obtain ⟨half, hhalf⟩ : ∃ x, x = 2 ^ (h - (l + 1)) := ⟨_, rfl⟩
     have hm2 : 2 ^ (h - l) = 2 * half := by rw [hhalf, show h - l = (h - (l + 1)) + 1 by omega, Nat.pow_succ, Nat.mul_comm]
     have hh0 : 0 < half := by rw [hhalf]; exact two_pow_pos _
     have hh64 : half ≤ 64 := by rw [hhalf]; exact two_pow_le (by omega)
     rw [hm2] at hvl hol
     obtain ⟨m, hm⟩ : ∃ x, x = 2 * half := ⟨_, rfl⟩
     rw [← hm] at hvl hol
     obtain ⟨gA, cA, eA, _, lA⟩ := hol.form (by omega)
     injection eA with eA _ ecA
     subst eA
     obtain ⟨g5, cap5, rfl, _, l5⟩ := hv5.form (by omega)
     have hcl := (hv5.cellAt l (by omega)).trans hvl
     obtain ⟨A', c', e', hrdl⟩ := Rd.of_own hol
     injection e' with e1 _ e3
     subst e1; subst e3
     have hqm : (m : Int) / 2 = (half : Int) := by omega
     have hm128 : m ≤ 128 := by omega
     have HHALF := Lib.hid hhalf
     have HMM := Lib.hid hm
     have HQM := Lib.hid hqm
     clear ecA hhalf hm2 hm hqm hvl
     obtain ⟨wo, rfl⟩ : ∃ wo : World, wo = wr := ⟨_, rfl⟩
     go_wp2_with fail
     rw [HQM.out]
     go_loopw [8, 36] (fun v8 v36 wr2 => ∃ n : Nat, n ≤ half ∧ v36 = .int .i64 n ∧ wr2.ownsRow wo.heap.size 27 16 v8 n (bcs (levD seed (l + 1) n)) ∧ Below wo.heap.size wo wr2) (fun _ v36 _ => half - (intOf v36).toNat)
     case atStart => exact ⟨0, by omega, rfl, World.ownsRow_nil _ _ _ _, Below.refl _ _⟩
     case round =>
      obtain ⟨n, hn, rfl, hu, hbo⟩ := hrel
      by_cases hln : n < half
      ·have hwl : wo.heap.size ≤ wr.heap.size := hbo.size
       replace hcl := (hbo.cell (p := ⟨g5, l, none⟩) l5).trans hcl
       replace hrdl := hrdl.below hbo
       have hmm : 2 * n + 1 < m := by have := HMM.out; omega
       go_wp2_with fail
       refine aStart kr_ ?_
       replace hcl : wr.drew.cell? ⟨g5, 0 + l * 1, none⟩ = some (.slice (some ⟨gA, 0, none⟩) m c) := by rw [Nat.zero_add, Nat.mul_one]; exact hcl
       replace hrdl : Rd wr.drew wo.heap.size 16 (some ⟨gA, 0, none⟩) m c (bcs (levD seed l m)) := hrdl.drew
       replace hu : wr.drew.ownsRow wo.heap.size 27 16 u8 n (bcs (levD seed (l + 1) n)) := hu
       replace hb : Below w.heap.size w wr.drew := (hb.trans (hbo.mono hb.size)).drew
       replace hbo := hbo.drew
       replace hwl : wo.heap.size ≤ wr.drew.heap.size := hwl
       generalize wr.drew = wd at *
       have H16 := Lib.hid (show (bcs (valueD seed (l + 1) n)).length = 16 by rw [bcs_length]; exact valueD_len _ _ _)
       have HJ : Hid (∀ w', Tabs w' → Calls Tryz.prog 86 #[.int .i64 ((l : Int) + 1), .int .i64 (n : Int), .agg (bcs (valueD seed l (2 * n))).toArray, .agg (bcs (valueD seed l (2 * n + 1))).toArray] w' fun e w'' => e = .returned (.agg (bcs (valueD seed (l + 1) n)).toArray) ∧ Below w'.heap.size w' w'') :=
        Lib.hid (fun w' ht' => join_any ((l : Int) + 1) (n : Int) (valueD seed l (2 * n)) (valueD seed l (2 * n + 1)) w' ht' (isI64_nat (n := l + 1) (by omega)) (isI64_nat (by omega)) (valueD_len _ _ _) (valueD_len _ _ _))
       refine aTake (i := 0) (v := u8) rfl kr_ (wn rfl) (fun _ _ _ h => h) (fun w => by kernel_rfl) ?_
       refine aTake (i := 1) (v := .int .i64 (l : Int)) rfl kr_ (wn rfl) (fun _ _ _ h => h) (fun w => by kernel_rfl) ?_
       refine aTake (i := 2) (v := .int .i64 ((l : Int) + 1)) rfl kr_ (wn rfl) (fun _ _ _ h => h) (fun w => addRun (A := (l : Int)) (B := 1) (.tmp 40) (.const (.int .i64 1)) rfl kr_ rfl rfl (by omega)) ?_
       refine aTake (i := 3) (v := .int .i64 (n : Int)) rfl kr_ (wn rfl) (fun _ _ _ h => h) (fun w => by kernel_rfl) ?_
       refine aTake (i := 4) (v := .slice (some ⟨g5, 0, none⟩) (l + 1) cap5) rfl kr_ (wn rfl) (fun _ _ _ h => h) (fun w => by kernel_rfl) ?_
       refine aTake (i := 5) (v := .int .i64 (l : Int)) rfl kr_ (wn rfl) (fun _ _ _ h => h) (fun w => by kernel_rfl) ?_
       refine aTake (i := 6) (v := .pointer (some ⟨g5, 0 + l * 1, none⟩)) rfl kr_ (wn rfl) (fun _ _ _ h => h) (fun w => iaRowRunSg (kk := .i64) (n := l + 1) (c := cap5) (.tmp 43) (.tmp 44) l Tryz.sl_digs rfl kr_ kr_ rfl (by omega)) ?_
       refine aTake (i := 8) (v := .int .i64 (n : Int)) rfl kr_ (wn rfl) (fun _ _ _ h => h) (fun w => by kernel_rfl) ?_
       refine aTake (i := 9) (v := .int .i64 (2 * (n : Int))) rfl kr_ (wn rfl) (fun _ _ _ h => h) (fun w => mulRun (A := 2) (B := (n : Int)) (.const (.int .i64 2)) (.tmp 47) rfl rfl kr_ rfl (by omega)) ?_
       refine aTake (i := 12) (v := .slice (some ⟨g5, 0, none⟩) (l + 1) cap5) rfl kr_ (wn rfl) (fun _ _ _ h => h) (fun w => by kernel_rfl) ?_
       refine aTake (i := 13) (v := .int .i64 (l : Int)) rfl kr_ (wn rfl) (fun _ _ _ h => h) (fun w => by kernel_rfl) ?_
       refine aTake (i := 14) (v := .pointer (some ⟨g5, 0 + l * 1, none⟩)) rfl kr_ (wn rfl) (fun _ _ _ h => h) (fun w => iaRowRunSg (kk := .i64) (n := l + 1) (c := cap5) (.tmp 51) (.tmp 52) l Tryz.sl_digs rfl kr_ kr_ rfl (by omega)) ?_
       refine aTake (i := 16) (v := .int .i64 (n : Int)) rfl kr_ (wn rfl) (fun _ _ _ h => h) (fun w => by kernel_rfl) ?_
       refine aTake (i := 17) (v := .int .i64 (2 * (n : Int))) rfl kr_ (wn rfl) (fun _ _ _ h => h) (fun w => mulRun (A := 2) (B := (n : Int)) (.const (.int .i64 2)) (.tmp 55) rfl rfl kr_ rfl (by omega)) ?_
       refine aTake (i := 18) (v := .int .i64 (2 * (n : Int) + 1)) rfl kr_ (wn rfl) (fun _ _ _ h => h) (fun w => addRun (A := 2 * (n : Int)) (B := 1) (.tmp 56) (.const (.int .i64 1)) rfl kr_ rfl rfl (by omega)) ?_
       refine rgFloat [(7, 46), (10, 49), (11, 50), (15, 54), (19, 58), (20, 59), (21, 60), (22, 61)] (GTree2 seed l n m c gA) _ 2 rfl kr_ ?mono ?step ?fin
       case mono =>
        intro p hp v w w' h hE
        simp only [List.mem_cons, List.not_mem_nil, or_false] at hp
        rcases hp with rfl | rfl | rfl | rfl | rfl | rfl | rfl | rfl
        ·exact h
        ·exact h
        ·exact h
        ·exact h
        ·exact h
        ·exact h
        ·exact h
        ·exact (by obtain ⟨g, e1, e2⟩ := h; exact ⟨g, e1, e2.below hE e2.lt⟩)
       case step =>
        intro p hp
        simp only [List.mem_cons, List.not_mem_nil, or_false] at hp
        rcases hp with rfl | rfl | rfl | rfl | rfl | rfl | rfl | rfl
        ·refine ⟨_, rfl, rfl, fun a w' hF hE hG => ?_⟩
         refine ldOneSg (p := ⟨g5, 0 + l * 1, none⟩) (.tmp 45) kr_ (wn rfl) rfl ((hF.eval 45 kr_).trans kr_) ((hE.cell (p := ⟨g5, 0 + l * 1, none⟩) (by show g5 < _; omega)).trans hcl) ?_
         exact ⟨_, rfl, Below.refl _ _, rfl⟩
        ·refine ⟨_, rfl, rfl, fun a w' hF hE hG => ?_⟩
         refine iaRowSg (kk := .i64) (b := gA) (off := 0) (n := m) (c := c) (K := 2 * (n : Int)) (.tmp 46) (.tmp 48) (2 * n) Tryz.sl_digSg (wn rfl) rfl (show a.tmps.getD 46 undef = _ from hG (7, 46) (by simp) kr_) ((hF.eval 48 kr_).trans kr_) (by omega) (by omega) ?_
         exact ⟨_, rfl, Below.refl _ _, rfl⟩
        ·refine ⟨_, rfl, rfl, fun a w' hF hE hG => ?_⟩
         refine ldAgg (b := gA) (off := 0 + (2 * n) * 16) (.tmp 49) (bcs (valueD seed l (2 * n))) Tryz.ag_b16 (wn rfl) rfl (show a.tmps.getD 49 undef = _ from hG (10, 49) (by simp) kr_) (by rw [bcs_length]; exact valueD_len _ _ _) (by have := rd_elemSg (k := 2 * n) (hrdl.below (hE.mono hwl)) (by omega); rw [levD_at seed l m (2 * n) (by omega)] at this; exact this) ?_
         exact ⟨_, rfl, Below.refl _ _, rfl⟩
        ·refine ⟨_, rfl, rfl, fun a w' hF hE hG => ?_⟩
         refine ldOneSg (p := ⟨g5, 0 + l * 1, none⟩) (.tmp 53) kr_ (wn rfl) rfl ((hF.eval 53 kr_).trans kr_) ((hE.cell (p := ⟨g5, 0 + l * 1, none⟩) (by show g5 < _; omega)).trans hcl) ?_
         exact ⟨_, rfl, Below.refl _ _, rfl⟩
        ·refine ⟨_, rfl, rfl, fun a w' hF hE hG => ?_⟩
         refine iaRowSg (kk := .i64) (b := gA) (off := 0) (n := m) (c := c) (K := 2 * (n : Int) + 1) (.tmp 54) (.tmp 57) (2 * n + 1) Tryz.sl_digSg (wn rfl) rfl (show a.tmps.getD 54 undef = _ from hG (15, 54) (by simp) kr_) ((hF.eval 57 kr_).trans kr_) (by omega) (by omega) ?_
         exact ⟨_, rfl, Below.refl _ _, rfl⟩
        ·refine ⟨_, rfl, rfl, fun a w' hF hE hG => ?_⟩
         refine ldAgg (b := gA) (off := 0 + (2 * n + 1) * 16) (.tmp 58) (bcs (valueD seed l (2 * n + 1))) Tryz.ag_b16 (wn rfl) rfl (show a.tmps.getD 58 undef = _ from hG (19, 58) (by simp) kr_) (by rw [bcs_length]; exact valueD_len _ _ _) (by have := rd_elemSg (k := 2 * n + 1) (hrdl.below (hE.mono hwl)) (by omega); rw [levD_at seed l m (2 * n + 1) (by omega)] at this; exact this) ?_
         exact ⟨_, rfl, Below.refl _ _, rfl⟩
        ·refine ⟨_, rfl, rfl, fun a w' hF hE hG => ?_⟩
         have hx50 : a.tmps.getD 50 undef = .agg (bcs (valueD seed l (2 * n))).toArray := hG (11, 50) (by simp) kr_
         have hx59 : a.tmps.getD 59 undef = .agg (bcs (valueD seed l (2 * n + 1))).toArray := hG (20, 59) (by simp) kr_
         refine callOp 86 [.int .i64 ((l : Int) + 1), .int .i64 (n : Int), .agg (bcs (valueD seed l (2 * n))).toArray, .agg (bcs (valueD seed l (2 * n + 1))).toArray] [] [] kr_ (wn rfl) rfl rfl (by show [a.eval (.tmp 41), a.eval (.tmp 42), a.tmps.getD 50 undef, a.tmps.getD 59 undef] = _; rw [hF.eval 41 kr_, hF.eval 42 kr_, hx50, hx59]; first | done | kernel_rfl) ?_
         refine (HJ.out w' (ht.below (hb.trans (hE.mono hb.size)) ht.size)).mono ?_
         rintro e w2 ⟨rfl, hb2⟩
         exact ⟨_, rfl, ⟨_, rfl, hb2, rfl⟩⟩
        ·refine ⟨_, rfl, rfl, fun a w' hF hE hG => ?_⟩
         refine bsAgg1 (.tmp 60) Tryz.sl_digSg (wn rfl) rfl (show a.tmps.getD 60 undef = _ from hG (21, 60) (by simp) kr_) (by rw [List.size_toArray]; exact H16.out) (by decide) ?_
         exact ⟨_, rfl, (Below.refl _ _).alloc (Nat.le_refl _) _, _, rfl, Arr.new w' _ _⟩
       case fin =>
        intro a wf hF hE hG
        obtain ⟨g61, q61, h61⟩ := hG (22, 61) (by simp)
        have hsz := hE.size
        have huf := ownsRow_below hu hE (Nat.le_refl _)
        replace hbo := hbo.trans (hE.mono hbo.size)
        rw [hF.eq]
        simp only [putsX]
        rw [q61]
        generalize a.tmps.getD 46 undef = x46
        generalize a.tmps.getD 49 undef = x49
        generalize a.tmps.getD 50 undef = x50
        generalize a.tmps.getD 54 undef = x54
        generalize a.tmps.getD 58 undef = x58
        generalize a.tmps.getD 59 undef = x59
        generalize a.tmps.getD 60 undef = x60
        clear hG hF q61 hu hE
        have hrd : Rd wf wf.heap.size 16 (some ⟨g61, 0, none⟩) 1 1 (bcs (valueD seed (l + 1) n)) := rd_of_arr h61 (fun _ _ h => h) H16.out (Nat.le_refl _) (by unfold maxLen; omega) h61.lt
        refine aNext (i := 23) kr_ rfl ?_
        refine appR (.tmp 39) (.tmp 61) Tryz.sl_digSg (wn rfl) rfl kr_ kr_ huf hrd (bcs_one _) hbo (Nat.le_refl _) (by omega) (by omega) ?_
        intro v' w' h3 h4 _
        rw [← bcs_append, ← levD_next] at h3
        clear huf hrd
        refine aTake (i := 24) (v := v') rfl kr_ (wn rfl) (fun _ _ _ h => h) (fun w => by kernel_rfl) ?_
        refine aDone kr_ ?_
        simp only [Act.put, List.setIfInBounds_toArray, List.set_cons_succ, List.set_cons_zero]
        clear h61 hcl hrdl hb hwl hbo
        go_wp2_with fail
        go_roundw
        case rel => exact ⟨n + 1, by omega, by go_num, h3, h4⟩
        case measure => (simp [intOf]; try omega)
      ·obtain rfl : n = half := by omega
       clear hln
       have hh := HHALF.out
       have hlen : vs.length = l + 1 := by have := hv5.1; simpa using this
       obtain ⟨A8, c8, rfl, _⟩ := Rd.of_own hu
       have hTw := hT.below hbo (Nat.le_refl _)
       have hv5w := ownsRow_below hv5 hbo (Nat.le_refl _)
       have huw : wr.ownsRow w.heap.size 27 16 (.slice A8 n c8) n (bcs (levD seed (l + 1) n)) := ownsRow_base hu hb.size
       have hbw := hb.trans (hbo.mono hb.size)
       have HN := Lib.hid hh
       clear hh hT hv5 hu hb hbo hcl hrdl hol
       go_wp2_with (at_builtin; with_reducible refine app1 _ _ Tryz.sl_digs (wn rfl) rfl rfl rfl hv5w hbw (Nat.le_refl _) rfl (by omega) (by omega) ?_)
       intro v' w' h3 h4 h5
       have hal : Below wr.heap.size wr (wr.alloc (.cells #[.slice A8 n c8] 23)) := (Below.refl _ _).alloc (Nat.le_refl _) _
       have hT2 := (hTw.below hal (Nat.le_refl _)).grown (ownsRow_below hv5w hal (Nat.le_refl _)) h5
       have hu2 := (ownsRow_below huw hal (Nat.le_refl _)).kept h5 (own_neSg (ownsRow_below huw hal (Nat.le_refl _)) (ownsRow_below hv5w hal (Nat.le_refl _)) (by decide))
       have hh := HN.out
       subst hh
       have hT3 := hT2.next hlen hu2
       clear hTw hv5w huw hbw hal hT2 hu2 h5
       go_wp2_with fail
       go_roundw
       case rel => exact ⟨l + 1, vs ++ [.slice A8 (2 ^ (h - (l + 1))) c8], by omega, by go_num, h3, hT3, h4⟩
       case measure => (simp [intOf]; try omega)
    ·obtain rfl : l = h := by omega
     go_wp2_with fail
     go_ret
     exact ⟨_, vs, rfl, hv5, hT, hb⟩
theorem res_cell2 {P : Program} {w : World} {fn : Func} {p t : Tmp} {ty : TypeId} {z : Array Value} {n b off : Nat} (cs : List Value) (h : fn.results = #[.cell p ty, .tmp t]) (T : AgTy P ty z n) (tmps : Array Value)
 (hp : tmps.getD p undef = .pointer (some ⟨b, off, none⟩)) (hl : cs.length = n) (hc : ∀ j u, cs[j]? = some u → w.cell? ⟨b, off + j, none⟩ = some u) :
 (results fn tmps).run P w = .ok (.tuple #[.agg cs.toArray, tmps.getD t undef]) w := by
 have hr := run_loadAgg (P := P) (w := w) T b off cs hl hc
 have hp' : tmps[p]?.getD undef = .pointer (some ⟨b, off, none⟩) := by simpa using hp
 simp only [results, h]
 simp [Result.andThen, hp', asAddr, hr]
def TreeMem (seed : List UInt8) (h g : Nat) (w : World) : Prop :=
 g < w.heap.size ∧ ∀ k, k ≤ h → ∃ gk ck, w.cell? ⟨g, k, none⟩ = some (.slice (some ⟨gk, 0, none⟩) (2 ^ (h - k)) ck) ∧ Rd w w.heap.size 16 (some ⟨gk, 0, none⟩) (2 ^ (h - k)) ck (bcs (levD seed k (2 ^ (h - k))))
theorem TreeMem.below {seed : List UInt8} {h g : Nat} {w w' : World} (H : TreeMem seed h g w) (hb : Ext w w') : TreeMem seed h g w' := by
 refine ⟨Nat.lt_of_lt_of_le H.1 hb.size, fun k hk => ?_⟩
 obtain ⟨gk, ck, h1, h2⟩ := H.2 k hk
 exact ⟨gk, ck, (hb.cell (p := ⟨g, k, none⟩) H.1).trans h1, (h2.below hb).more hb.size⟩
theorem RetTree.mem {seed : List UInt8} {h : Nat} {w w' : World} {e : Ending} (H : RetTree seed h w e w') :
 ∃ g cap, e = .returned (.slice (some ⟨g, 0, none⟩) (h + 1) cap) ∧ TreeMem seed h g w' ∧ Below w.heap.size w w' := by
 obtain ⟨v, vs, rfl, hv, hT, hb⟩ := H
 obtain ⟨g, cap, rfl, _, hg⟩ := hv.form (by omega)
 refine ⟨g, cap, rfl, ⟨hg, fun k hk => ?_⟩, hb⟩
 obtain ⟨A, c, h1, h2⟩ := hT k hk
 have h3 := (hv.cellAt k (by omega)).trans h1
 obtain ⟨gk, ck, e4, _, _⟩ := h2.form (two_pow_pos _)
 injection e4 with e5 _ e6
 subst e5
 obtain ⟨A', c', e', hrd⟩ := Rd.of_own h2
 injection e' with e1 _ e2
 subst e1; subst e2
 exact ⟨gk, c, h3, hrd⟩
theorem levD_one (seed : List UInt8) (h : Nat) : ((levD seed h 1).drop (0 * 16)).take 16 = valueD seed h 0 := levD_at seed h 1 0 (by omega)
def pairV (d : List UInt8) (e : Int) : Value := .tuple #[.agg (bcs d).toArray, .int .i64 e]
theorem zeros_bcs : zerosB 16 = bcs (List.replicate 16 0) := rfl
theorem refPublic_any (seed : List UInt8) (h : Int) (w : World) (ht : TabsR w) (hs : seed.length ≤ 100000000) :
 Calls Tryz.prog 17 #[sv seed, .int .i64 h] w fun e w' => e = .returned (pairV (publicD seed h).1 (publicD seed h).2) ∧ Below w.heap.size w w' := by
 by_cases hc : countD h = 0
 ·have hp : publicD seed h = (List.replicate 16 0, 1) := by unfold publicD; rw [if_pos hc]
  have HP := Lib.hid hp
  have HC := Lib.hid hc
  clear hp hc
  rw [HP.out]
  have hg : w.heap.size ≤ w.heap.size := Nat.le_refl _
  unfold sv
  go_enter Tryz.func17, Tryz.ntmps17
  go_wp2_with (with_reducible refine alArr (z := zerosB 16) Tryz.ag_b16 (wn rfl) rfl ?_)
  intro w1 h4 hb
  go_wp2_with fail
  refine (refCount_any h w1).mono ?_
  rintro e w2 ⟨rfl, rfl⟩
  rw [HC.out]
  have hbd : ∀ w : World, (Instr.build 27 #[]).run Tryz.prog w = .ok (.agg (zerosB 16).toArray) w := fun w => by kernel_rfl
  go_wp2_with (first | (with_reducible refine bdVal (ps := #[]) (v := .agg (zerosB 16).toArray) hbd (wn rfl) rfl rfl ?_) | (with_reducible refine stArr (cs := zerosB 16) (.tmp 4) (.tmp 9) Tryz.ag_b16 (wn rfl) rfl rfl rfl h4 (zerosB_len _) (zerosB_len _) (by rw [zeros_bcs]; exact bcs_one _) ?_))
  intro w3 h4 _ hbel
  go_wp2_with fail
  refine bodyPost_ret (v := .tuple #[.agg (zerosB 16).toArray, .int .i64 1]) ?_ rfl ⟨rfl, hb.trans (hbel _ hg)⟩
  exact res_cell2 _ Tryz.results17 Tryz.ag_b16 _ rfl (zerosB_len _) (fun j u hu => by rw [Nat.zero_add]; exact h4.cell hu)
 ·have hp : publicD seed h = (valueD seed h.toNat 0, 0) := by unfold publicD; rw [if_neg hc]
  have h06 : 0 ≤ h ∧ h ≤ 6 := countD_pos (i := 0) (by omega) (by omega)
  obtain ⟨k, rfl⟩ : ∃ k : Nat, h = (k : Int) := ⟨h.toNat, by omega⟩
  have hk : k ≤ 6 := by omega
  have hcd := countD_of hk
  have hp1 := two_pow_pos k
  have hp64 := two_pow_le hk
  rw [hp, Int.toNat_natCast]
  have HL := Lib.hid (show (bcs (valueD seed k 0)).length = 16 by rw [bcs_length]; exact valueD_len _ _ _)
  have HV := Lib.hid (fun w' (h' : TabsR w') => refValue_any seed hs k 0 w' h' hk (by rw [Nat.zero_add, Nat.one_mul]; omega))
  clear hp hc h06
  have hg : w.heap.size ≤ w.heap.size := Nat.le_refl _
  unfold sv
  go_enter Tryz.func17, Tryz.ntmps17
  go_wp2_with (with_reducible refine alArr (z := zerosB 16) Tryz.ag_b16 (wn rfl) rfl ?_)
  intro w1 h4 hb
  go_wp2_with fail
  refine (refCount_any k w1).mono ?_
  rintro e w2 ⟨rfl, rfl⟩
  rw [hcd]
  clear hcd
  generalize 2 ^ k = M at *
  go_wp2_with fail
  have hv := HV.out w2 (ht.below hb ht.size)
  refine hv.mono ?_
  rintro e w3 ⟨rfl, b3⟩
  replace h4 := h4.below b3 h4.lt
  replace hb := hb.trans (b3.mono hb.size)
  clear b3 hv
  go_wp2_with (with_reducible refine stArr (cs := bcs (valueD seed k 0)) (.tmp 4) (.tmp 12) Tryz.ag_b16 (wn rfl) rfl rfl rfl h4 (zerosB_len _) HL.out (bcs_one _) ?_)
  intro w5 h4 _ hbel
  go_wp2_with fail
  refine bodyPost_ret (v := .tuple #[.agg (bcs (valueD seed k 0)).toArray, .int .i64 0]) ?_ rfl ⟨rfl, hb.trans (hbel _ hg)⟩
  exact res_cell2 _ Tryz.results17 Tryz.ag_b16 _ rfl HL.out (fun j u hu => by rw [Nat.zero_add]; exact h4.cell hu)
def textV (l : List UInt8) (e : Int) : Value := .tuple #[sv l, .int .i64 e]
theorem climb0 (i j : Int) (d : List UInt8) (n : Nat) (w : World) (ht : Tabs w) (hi : isI64 i) (hj : isI64 j) (hd : d.length = 16) (hn : n ≤ 1000) :
 Calls Tryz.prog 69 #[.int .i64 i, .int .i64 j, .agg (bcs d).toArray, .int .i64 0, .int .i64 (n : Int)] w fun e w' => e = .returned (.agg (bcs (climbD i j 0 d n)).toArray) ∧ Below w.heap.size w w' := by
 have := climb_any i j d 0 n w ht hi hj hd (by omega)
 rwa [Nat.zero_add] at this
theorem refClimb0 (i j : Int) (d : List UInt8) (n : Nat) (w : World) (ht : TabsR w) (hi : isI64 i) (hj : isI64 j) (hd : d.length = 16) (hn : n ≤ 1000) :
 Calls Tryz.prog 76 #[.int .i64 i, .int .i64 j, .agg (bcs d).toArray, .int .i64 0, .int .i64 (n : Int)] w fun e w' => e = .returned (.agg (bcs (climbD i j 0 d n)).toArray) ∧ Below w.heap.size w w' := by
 have := refClimb_any i j d 0 n w ht hi hj hd (by omega)
 rwa [Nat.zero_add] at this
theorem side_lt {h i l : Nat} (hi : i < 2 ^ h) (hl : l < h) : (i / 2 ^ l) ^^^ 1 < 2 ^ (h - l) := by
 have h1 : i / 2 ^ l < 2 ^ (h - l) := by
  rw [Nat.div_lt_iff_lt_mul (two_pow_pos l), ← Nat.pow_add, show h - l + l = h by omega]
  exact hi
 refine Nat.xor_lt_two_pow h1 ?_
 exact Nat.one_lt_two_pow (by omega)
def sgOut (seed : List UInt8) (i : Nat) (D : List UInt8) (j : Nat) : List UInt8 := enc i ++ ((List.range j).map fun j => chainD seed i (digAt D j) j).flatten
theorem sgOut_next (seed : List UInt8) (i : Nat) (D : List UInt8) (j : Nat) : sgOut seed i D (j + 1) = sgOut seed i D j ++ chainD seed i (digAt D j) j := by
 unfold sgOut
 rw [range_map_next (fun j => chainD seed i (digAt D j) j) j, List.append_assoc]
theorem sgOut_len (seed : List UInt8) (i : Nat) (D : List UInt8) (j : Nat) : (sgOut seed i D j).length = (enc i).length + j * 16 := by
 unfold sgOut
 rw [List.length_append, range_map_len _ (fun j => chainD_len _ _ _ _)]
def sgAll (seed : List UInt8) (i : Nat) (D : List UInt8) (l : Nat) : List UInt8 := sgOut seed i D 35 ++ ((List.range l).map fun l => valueD seed l ((i / 2 ^ l) ^^^ 1)).flatten
theorem sgAll_next (seed : List UInt8) (i : Nat) (D : List UInt8) (l : Nat) : sgAll seed i D (l + 1) = sgAll seed i D l ++ valueD seed l ((i / 2 ^ l) ^^^ 1) := by
 unfold sgAll
 rw [range_map_next (fun l => valueD seed l ((i / 2 ^ l) ^^^ 1)) l, List.append_assoc]
theorem sgAll_len (seed : List UInt8) (i : Nat) (D : List UInt8) (l : Nat) : (sgAll seed i D l).length = (enc i).length + 35 * 16 + l * 16 := by
 unfold sgAll
 rw [List.length_append, sgOut_len, range_map_len _ (fun l => valueD_len _ _ _)]
theorem sgAll_all (seed : List UInt8) (h i : Nat) (D : List UInt8) : sgAll seed i D h = enc i ++ restD seed h i D := by
 unfold sgAll sgOut restD
 rw [List.append_assoc]
def GSign (seed : List UInt8) (l x M ck gk G0 : Nat) (ix_ : Nat) (v : Value) (w : World) : Prop :=
 match ix_ with
 | 3 => v = .slice (some ⟨gk, 0, none⟩) M ck
 | 8 => v = .pointer (some ⟨gk, 0 + x * 16, none⟩)
 | 9 => v = .agg (bcs (valueD seed l x)).toArray
 | 10 => ∃ b, v = .pointer (some ⟨b, 0, none⟩) ∧ Arr w b 27 (zerosB 16) ∧ G0 ≤ b
 | _ => True
theorem sign_ok (seed : List UInt8) (h i : Nat) (m : List UInt8) (w : World) (ht : Tabs w) (hs : seed.length ≤ 100000000) (hm : m.length ≤ 100000000) (hh : h ≤ 6) (hi : i < 2 ^ h) :
 Calls Tryz.prog 28 #[sv seed, .int .i64 (h : Int), .int .i64 (i : Int), sv m] w fun e w' => e = .returned (textV (signD seed h i m) 0) ∧ Below w.heap.size w w' := by
 have hcd := countD_of hh
 have hp1 := two_pow_pos h
 have hp64 := two_pow_le hh
 obtain ⟨M, hM⟩ : ∃ M, M = 2 ^ h := ⟨_, rfl⟩
 have HS := Lib.hid (show enc i ++ restD seed h i (messageD (valueD seed h 0) i m) = signD seed h i m from rfl)
 have hdd : (messageD (valueD seed h 0) i m).length = 16 := ofDig_len _ _
 have HMSG := Lib.hid (fun w' (h' : Tabs w') => message_any (valueD seed h 0) i m w' h' (valueD_len _ _ _) (isI64_nat (n := i) (by omega)) hm)
 have HSL := Lib.hid (fun l (hl : l < h) => side_lt hi hl)
 rw [← hM] at hcd hp1 hp64 hi
 have HM := Lib.hid hM
 have hen := enc_len i
 have hi64 := isI64_nat (show i ≤ 1000000 by omega)
 clear hM
 unfold textV
 rw [← HS.out]
 unfold sv
 go_enter Tryz.func28, Tryz.ntmps28
 go_wp2_with fail
 refine (count_any h w).mono ?_
 rintro e w1 ⟨rfl, hb⟩
 rw [hcd]
 go_wp2_with fail
 refine (count_any h w1).mono ?_
 rintro e w2 ⟨rfl, b2⟩
 rw [hcd]
 replace hb := hb.trans (b2.mono hb.size)
 clear b2 hcd
 go_wp2_with fail
 refine (tree_any seed h w2 (ht.below hb ht.size) hs hh).mono ?_
 rintro e w3 hret
 obtain ⟨g, cap, rfl, hT, b3⟩ := hret.mem
 replace hb := hb.trans (b3.mono hb.size)
 clear b3 hret
 have HT3 := Lib.hid hT
 clear hT
 go_wp2_with fail
 refine (int_any i w3 hi64.1 hi64.2).mono ?_
 rintro e w4 ⟨v11, rfl, hown, b3⟩
 obtain ⟨gk, ck, hc1, hrd⟩ := (HT3.out.below b3).2 h (Nat.le_refl _)
 rw [Nat.sub_self, Nat.pow_zero] at hc1 hrd
 have hel := rd_elemSg (k := 0) hrd (by omega)
 rw [levD_one, Nat.zero_mul] at hel
 have HEL := Lib.hid hel
 have HL := Lib.hid (show (bcs (valueD seed h 0)).length = 16 by rw [bcs_length]; exact valueD_len _ _ _)
 clear hrd hel
 go_wp2_with (with_reducible refine ldAgg (.tmp 39) (bcs (valueD seed h 0)) Tryz.ag_b16 (wn rfl) rfl rfl HL.out HEL.out ?_)
 have hmc := HMSG.out w4 (ht.below (hb.trans (b3.mono hb.size)) ht.size)
 refine hmc.mono ?_
 rintro e w5 ⟨rfl, b5⟩
 replace hown := ownsRow_below hown b5 (Nat.le_refl _)
 replace b3 := b3.trans (b5.mono b3.size)
 clear hmc hc1 HEL b5 HMSG HL
 obtain ⟨D, hD⟩ : ∃ D, D = messageD (valueD seed h 0) i m := ⟨_, rfl⟩
 rw [← hD] at hdd
 rw [← hD]
 have HD := Lib.hid hD
 clear hD HS
 go_wp2_with fail
 refine (digits_any D w5 hdd).mono ?_
 rintro e w6 ⟨rfl, b6⟩
 replace hown := ownsRow_below hown b6 (Nat.le_refl _)
 replace b3 := b3.trans (b6.mono b3.size)
 clear b6
 have hown0 : w6.ownsRow w3.heap.size 5 1 v11 (sgOut seed i D 0).length (bcs (sgOut seed i D 0)) := by unfold sgOut; simpa using hown
 clear hown
 have HDL := Lib.hid (show (ivs (digitsD D)).length = 35 by rw [ivs_len]; exact digitsD_len hdd)
 have HDG := Lib.hid (fun j (hj : j < 35) => digits_get D hdd j hj)
 go_wp2_with fail
 go_loopw [11, 45] (fun v11 v45 wr => ∃ j : Nat, j ≤ 35 ∧ v45 = .int .i64 j ∧ wr.ownsRow w3.heap.size 5 1 v11 (sgOut seed i D j).length (bcs (sgOut seed i D j)) ∧ Below w3.heap.size w3 wr) (fun _ v45 _ => 35 - (intOf v45).toNat)
 case atStart => exact ⟨0, by omega, rfl, hown0, b3⟩
 case round =>
  clear hown0 b3
  obtain ⟨j, hj, rfl, hown, b3⟩ := hrel
  by_cases hlt : j < 35
  ·have HDJ := Lib.hid (HDG.out j hlt)
   have HNX := Lib.hid (sgOut_next seed i D j)
   have hol : (sgOut seed i D j).length ≤ 600 := by rw [sgOut_len]; omega
   have hda := digAt_le D j
   have hj64 := isI64_nat (show j ≤ 1000000 by omega)
   have HC := Lib.hid (fun w' (h' : Tabs w') => climb0 i j (startD seed i j) (digAt D j) w' h' hi64 hj64 (startD_len _ _ _) (by omega))
   have HE : Hid (climbD i j 0 (startD seed i j) (digAt D j) = chainD seed i (digAt D j) j) := Lib.hid rfl
   have HL := Lib.hid (show (bcs (chainD seed i (digAt D j) j)).length = 16 by rw [bcs_length]; exact chainD_len _ _ _ _)
   have HCL := Lib.hid (chainD_len seed i (digAt D j) j)
   generalize sgOut seed i D j = out at *
   generalize chainD seed i (digAt D j) j = CH at *
   generalize digAt D j = dg at *
   go_wp2_with (with_reducible refine ixArrSg (.tmp 44) (.tmp 45) j (.int .i64 (dg : Int)) Tryz.arr_i35 Tryz.und_intSg Tryz.one_intSg (wn rfl) rfl rfl rfl rfl HDJ.out HDL.out ?_)
   refine (start_any seed i j wr (ht.below (hb.trans (b3.mono hb.size)) ht.size) hi64 hj64 hs).mono ?_
   rintro e w7 ⟨rfl, b7⟩
   replace hown := ownsRow_below hown b7 (Nat.le_refl _)
   replace b3 := b3.trans (b7.mono b3.size)
   clear b7
   have hcc := HC.out w7 (ht.below (hb.trans (b3.mono hb.size)) ht.size)
   go_wp2_with fail
   refine hcc.mono ?_
   rintro e w8 ⟨rfl, b8⟩
   rw [HE.out]
   replace hown := ownsRow_below hown b8 (Nat.le_refl _)
   replace b3 := b3.trans (b8.mono b3.size)
   clear b8 hcc
   go_wp2_with (with_reducible refine alArr (z := zerosB 16) Tryz.ag_b16 (wn rfl) rfl ?_)
   intro w9 h14 b9
   have l14 : w3.heap.size ≤ w8.heap.size := b3.size
   have n14 := h14.lt
   have hlo := Lib.hid hown.lt
   replace hown := ownsRow_below hown b9 (Nat.le_refl _)
   replace b3 := b3.trans (b9.mono b3.size)
   clear b9
   generalize w8.heap.size = g14 at *
   go_wp2_with (with_reducible refine stArr (cs := bcs CH) (.tmp 14) (.tmp 56) Tryz.ag_b16 (wn rfl) rfl rfl rfl h14 (zerosB_len _) HL.out (bcs_one _) ?_)
   intro w10 h14 _ hbel
   replace hown := own_lt_belowSg hown (hbel _ (Nat.le_refl _)) (fun k hk => (hlo.out k hk).2)
   replace b3 := b3.trans (hbel _ l14)
   clear hbel hlo
   have hrd : Rd w10 w10.heap.size 1 (some ⟨g14, 0, none⟩) 16 16 (bcs CH) := rd_of_arr h14 (fun _ _ h => h) (by rw [HL.out]) (Nat.le_refl _) (by unfold maxLen; omega) h14.lt
   clear n14 h14
   go_wp2_with (first | (with_reducible refine slPtr (.tmp 14) Tryz.arr_b16 Tryz.one_u8 (by omega) (wn rfl) rfl rfl ?_) | (at_builtin; with_reducible refine appR _ _ Tryz.sl_u8 (wn rfl) rfl rfl rfl hown hrd (bcs_one _) b3 (Nat.le_refl _) (by omega) (by omega) ?_))
   intro v' w' h3 h4 _
   rw [← bcs_append, ← HNX.out] at h3
   have hl2 := congrArg List.length HNX.out
   rw [List.length_append, HCL.out] at hl2
   rw [← hl2] at h3
   clear hown b3 hrd hl2
   go_wp2_with fail
   go_roundw
   case rel => exact ⟨j + 1, by omega, by go_num, h3, h4⟩
   case measure => (simp [intOf]; try omega)
  ·obtain rfl : j = 35 := by omega
   have hown0 : wr.ownsRow w3.heap.size 5 1 u11 (sgAll seed i D 0).length (bcs (sgAll seed i D 0)) := by
    have e : sgAll seed i D 0 = sgOut seed i D 35 := by unfold sgAll; simp
    rw [e]; exact hown
   clear hown hlt
   go_wp2_with fail
   go_loopw [11, 62] (fun v11 v62 wr => ∃ l : Nat, l ≤ h ∧ v62 = .int .i64 l ∧ wr.ownsRow w3.heap.size 5 1 v11 (sgAll seed i D l).length (bcs (sgAll seed i D l)) ∧ Below w3.heap.size w3 wr) (fun _ v62 _ => h - (intOf v62).toNat)
   case atStart => exact ⟨0, by omega, rfl, hown0, b3⟩
   case round =>
    clear hown0 b3
    obtain ⟨l, hl, rfl, hown, b3⟩ := hrel
    by_cases hlt : l < h
    ·have HNX := Lib.hid (sgAll_next seed i D l)
     have hol : (sgAll seed i D l).length ≤ 1000 := by rw [sgAll_len]; omega
     obtain ⟨x, hx⟩ : ∃ x, x = (i / 2 ^ l) ^^^ 1 := ⟨_, rfl⟩
     have hxM : x < 2 ^ (h - l) := by rw [hx]; exact HSL.out l hlt
     have hx64 : x ≤ 64 := by have := two_pow_le (h := h - l) (by omega); omega
     rw [← hx] at HNX
     have HX := Lib.hid hx
     obtain ⟨hgl, htm⟩ := HT3.out.below b3
     obtain ⟨gl, cl, hcl, hrdl⟩ := htm l (by omega)
     have HL := Lib.hid (show (bcs (valueD seed l x)).length = 16 by rw [bcs_length]; exact valueD_len _ _ _)
     have HVL := Lib.hid (valueD_len seed l x)
     have hi' : i < 64 := by omega
     clear hx htm
     obtain ⟨ML, hML⟩ : ∃ y, y = 2 ^ (h - l) := ⟨_, rfl⟩
     rw [← hML] at hxM hcl hrdl
     clear hML
     have HSA := Lib.hid (show sgAll seed i D l = sgAll seed i D l from rfl)
     generalize sgAll seed i D l = out at *
     clear HSA
     go_wp2_with fail
     refine aStart kr_ ?_
     replace hcl : wr.drew.cell? ⟨g, 0 + l * 1, none⟩ = some (.slice (some ⟨gl, 0, none⟩) ML cl) := by rw [Nat.zero_add, Nat.mul_one]; exact hcl
     replace hrdl : Rd wr.drew wr.drew.heap.size 16 (some ⟨gl, 0, none⟩) ML cl (bcs (levD seed l ML)) := hrdl.drew
     replace hown : wr.drew.ownsRow w3.heap.size 5 1 u11 out.length (bcs out) := hown
     have hlo := Lib.hid hown.lt
     replace b3 := b3.drew
     replace hgl : g < wr.drew.heap.size := hgl
     generalize wr.drew = wd at *
     have H16 := HL
     refine aTake (i := 0) (v := .slice (some ⟨g, 0, none⟩) (h + 1) cap) rfl kr_ (wn rfl) (fun _ _ _ h => h) (fun w => by kernel_rfl) ?_
     refine aTake (i := 1) (v := .int .i64 (l : Int)) rfl kr_ (wn rfl) (fun _ _ _ h => h) (fun w => by kernel_rfl) ?_
     refine aTake (i := 2) (v := .pointer (some ⟨g, 0 + l * 1, none⟩)) rfl kr_ (wn rfl) (fun _ _ _ h => h) (fun w => iaRowRunSg (kk := .i64) (n := h + 1) (c := cap) (.tmp 65) (.tmp 66) l Tryz.sl_digs rfl kr_ kr_ rfl (by omega)) ?_
     refine aTake (i := 4) (v := .int .i64 (i : Int)) rfl kr_ (wn rfl) (fun _ _ _ h => h) (fun w => by kernel_rfl) ?_
     refine aTake (i := 5) (v := .int .i64 (l : Int)) rfl kr_ (wn rfl) (fun _ _ _ h => h) (fun w => by kernel_rfl) ?_
     refine aTake (i := 6) (v := .int .i64 ((i / 2 ^ l : Nat) : Int)) rfl kr_ (wn rfl) (fun _ _ _ h => h) (fun w => shrNat (m := i) (n := l) (.tmp 69) (.tmp 70) rfl kr_ kr_ (by omega)) ?_
     refine aTake (i := 7) (v := .int .i64 (x : Int)) rfl kr_ (wn rfl) (fun _ _ _ h => h) (fun w => (by have hz := HX.out; subst hz; exact xorRun (m := i / 2 ^ l) (n := 1) (.tmp 71) (.const (.int .i64 1)) rfl kr_ rfl (by have := Nat.div_le_self i (2 ^ l); omega) (by omega))) ?_
     refine rgFloat [(3, 68), (8, 73), (9, 74), (10, 16)] (GSign seed l x ML cl gl wd.heap.size) _ 1 rfl kr_ ?mono ?step ?fin
     case mono =>
      intro p hp v w w' h hE
      simp only [List.mem_cons, List.not_mem_nil, or_false] at hp
      rcases hp with rfl | rfl | rfl | rfl
      ·exact h
      ·exact h
      ·exact h
      ·exact (by obtain ⟨b, e1, e2, e3⟩ := h; exact ⟨b, e1, e2.below hE e2.lt, e3⟩)
     case step =>
      intro p hp
      simp only [List.mem_cons, List.not_mem_nil, or_false] at hp
      rcases hp with rfl | rfl | rfl | rfl
      ·refine ⟨_, rfl, rfl, fun a w' hF hE hG => ?_⟩
       refine ldOneSg (p := ⟨g, 0 + l * 1, none⟩) (.tmp 67) kr_ (wn rfl) rfl ((hF.eval 67 kr_).trans kr_) ((hE.cell (p := ⟨g, 0 + l * 1, none⟩) (by show g < _; omega)).trans hcl) ?_
       exact ⟨_, rfl, Below.refl _ _, rfl⟩
      ·refine ⟨_, rfl, rfl, fun a w' hF hE hG => ?_⟩
       refine iaRowSg (kk := .i64) (b := gl) (off := 0) (n := ML) (c := cl) (K := (x : Int)) (.tmp 68) (.tmp 72) x Tryz.sl_digSg (wn rfl) rfl (show a.tmps.getD 68 undef = _ from hG (3, 68) (by simp) kr_) ((hF.eval 72 kr_).trans kr_) rfl hxM ?_
       exact ⟨_, rfl, Below.refl _ _, rfl⟩
      ·refine ⟨_, rfl, rfl, fun a w' hF hE hG => ?_⟩
       refine ldAgg (b := gl) (off := 0 + x * 16) (.tmp 73) (bcs (valueD seed l x)) Tryz.ag_b16 (wn rfl) rfl (show a.tmps.getD 73 undef = _ from hG (8, 73) (by simp) kr_) H16.out (by have := rd_elemSg (k := x) (hrdl.below hE) hxM; rw [levD_at seed l ML x hxM] at this; exact this) ?_
       exact ⟨_, rfl, Below.refl _ _, rfl⟩
      ·refine ⟨_, rfl, rfl, fun a w' hF hE hG => ?_⟩
       refine alArr (z := zerosB 16) Tryz.ag_b16 (wn rfl) rfl fun w2 hA hb2 => ?_
       exact ⟨_, rfl, hb2, _, rfl, hA, hE.size⟩
     case fin =>
      intro a wf hF hE hG
      have q74 : a.tmps.getD 74 undef = .agg (bcs (valueD seed l x)).toArray := hG (9, 74) (by simp)
      obtain ⟨g16, q16, h16, hg16⟩ := hG (10, 16) (by simp)
      have hsz := hE.size
      have hownf := own_lt_belowSg hown hE (fun k hk => (hlo.out k hk).2)
      have l16 : w3.heap.size ≤ g16 := Nat.le_trans b3.size hg16
      replace b3 := b3.trans (hE.mono b3.size)
      rw [hF.eq]
      simp only [putsX]
      rw [q74, q16]
      generalize a.tmps.getD 68 undef = x68
      generalize a.tmps.getD 73 undef = x73
      clear hG hF q74 q16 hE hown
      refine aNext (i := 11) kr_ rfl ?_
      refine stArr (b := g16) (cs := bcs (valueD seed l x)) (.tmp 16) (.tmp 74) Tryz.ag_b16 (wn rfl) rfl kr_ kr_ h16 (zerosB_len _) HL.out (bcs_one _) ?_
      intro w5 h16 hkeep hbel
      have hown5 := own_lt_belowSg hownf (hbel _ (Nat.le_refl _)) (fun k hk => Nat.lt_of_lt_of_le (hlo.out k hk).2 hg16)
      replace b3 := b3.trans (hbel _ l16)
      refine aDone kr_ ?_
      simp only [Act.put, List.setIfInBounds_toArray, List.set_cons_succ, List.set_cons_zero]
      have hrd : Rd w5 w5.heap.size 1 (some ⟨g16, 0, none⟩) 16 16 (bcs (valueD seed l x)) := rd_of_arr h16 (fun _ _ h => h) (by rw [HL.out]) (Nat.le_refl _) (by unfold maxLen; omega) h16.lt
      clear hkeep hbel hlo hownf hcl hrdl h16 hg16
      go_wp2_with (first | (with_reducible refine slPtr (.tmp 16) Tryz.arr_b16 Tryz.one_u8 (by omega) (wn rfl) rfl rfl ?_) | (at_builtin; with_reducible refine appR _ _ Tryz.sl_u8 (wn rfl) rfl rfl rfl hown5 hrd (bcs_one _) b3 (Nat.le_refl _) (by omega) (by omega) ?_))
      intro v' w' h3 h4 _
      rw [← bcs_append, ← HNX.out] at h3
      have hl2 := congrArg List.length HNX.out
      rw [List.length_append, HVL.out] at hl2
      rw [← hl2] at h3
      clear hown5 b3 hrd hl2
      go_wp2_with fail
      go_roundw
      case rel => ((repeat apply Exists.intro); exact ⟨⟨l + 1, by omega, by go_num, h3, h4⟩, rfl⟩)
      case measure => (simp [intOf]; try omega)
    ·obtain rfl : l = h := by omega
     have HAL := Lib.hid (sgAll_all seed l i D)
     rw [HAL.out] at hown
     obtain ⟨A, c, rfl, hrd⟩ := Rd.of_own hown
     clear hown
     go_wp2_with (with_reducible refine convStr (.tmp 79) (enc i ++ restD seed l i D) Tryz.sl_u8.und Tryz.und_u8 Tryz.und_str (wn rfl) rfl rfl hrd ?_)
     go_wp2_with fail
     have hD := HD.out
     subst hD
     go_ret2
     exact ⟨rfl, hb.trans (b3.mono hb.size)⟩
theorem sign_any (seed : List UInt8) (h i : Int) (m : List UInt8) (w : World) (ht : Tabs w) (hs : seed.length ≤ 100000000) (hm : m.length ≤ 100000000) :
 Calls Tryz.prog 28 #[sv seed, .int .i64 h, .int .i64 i, sv m] w fun e w' => e = .returned (textV (makeD seed h i m).1 (makeD seed h i m).2) ∧ Below w.heap.size w w' := by
 have hcl := countD_le h
 by_cases hc : countD h = 0
 ·have HP := Lib.hid (show makeD seed h i m = ([], 1) by unfold makeD; rw [if_pos hc])
  have HC := Lib.hid hc
  clear hc hcl
  rw [HP.out]
  unfold textV sv
  go_enter Tryz.func28, Tryz.ntmps28
  go_wp2_with fail
  refine (count_any h w).mono ?_
  rintro e w1 ⟨rfl, hb⟩
  rw [HC.out]
  go_wp2_with fail
  go_ret2
  exact ⟨rfl, hb⟩
 ·by_cases hi : i < 0
  ·have HP := Lib.hid (show makeD seed h i m = ([], 23) by unfold makeD; rw [if_neg hc, if_pos (Or.inl hi)])
   rw [HP.out]
   have hcp : 0 < countD h := by omega
   clear hc
   unfold textV sv
   go_enter Tryz.func28, Tryz.ntmps28
   go_wp2_with fail
   refine (count_any h w).mono ?_
   rintro e w1 ⟨rfl, hb⟩
   generalize countD h = M at *
   go_wp2_with fail
   go_ret2
   exact ⟨rfl, hb⟩
  ·by_cases hi2 : (countD h : Int) ≤ i
   ·have HP := Lib.hid (show makeD seed h i m = ([], 23) by unfold makeD; rw [if_neg hc, if_pos (Or.inr hi2)])
    rw [HP.out]
    have hcp : 0 < countD h := by omega
    clear hc
    have HC := Lib.hid (fun w' => count_any h w')
    unfold textV sv
    go_enter Tryz.func28, Tryz.ntmps28
    go_wp2_with fail
    refine (HC.out w).mono ?_
    rintro e w1 ⟨rfl, hb⟩
    obtain ⟨M, hM⟩ : ∃ M, M = countD h := ⟨_, rfl⟩
    rw [← hM] at hcl hi2 hcp HC
    rw [← hM]
    clear hM
    go_wp2_with fail
    refine (HC.out w1).mono ?_
    rintro e w2 ⟨rfl, b2⟩
    replace hb := hb.trans (b2.mono hb.size)
    clear b2
    go_wp2_with fail
    go_ret2
    exact ⟨rfl, hb⟩
   ·obtain ⟨h0, h6⟩ := countD_pos (h := h) (i := i) (by omega) (by omega)
    obtain ⟨k, rfl⟩ : ∃ k : Nat, h = (k : Int) := ⟨h.toNat, by omega⟩
    obtain ⟨n, rfl⟩ : ∃ n : Nat, i = (n : Int) := ⟨i.toNat, by omega⟩
    have e : makeD seed (k : Int) (n : Int) m = (signD seed k n m, 0) := by unfold makeD; rw [if_neg hc, if_neg (by omega), Int.toNat_natCast, Int.toNat_natCast]
    rw [e]
    have hcd := countD_of (h := k) (by omega)
    exact sign_ok seed k n m w ht hs hm (by omega) (by omega)
def GVerA (i l : Nat) (P O W : List UInt8) (ix_ : Nat) (v : Value) (_w : World) : Prop :=
 match ix_ with
 | 2 => v = .int .i64 (i : Int)
 | 5 => v = .int .i64 ((i / 2 ^ (l + 1) : Nat) : Int)
 | 6 => v = .agg (bcs P).toArray
 | 7 => v = .agg (bcs O).toArray
 | 8 => v = .agg (bcs W).toArray
 | _ => True
def GVerB (i l : Nat) (P O W : List UInt8) (ix_ : Nat) (v : Value) (_w : World) : Prop :=
 match ix_ with
 | 2 => v = .int .i64 (i : Int)
 | 5 => v = .int .i64 ((i / 2 ^ (l + 1) : Nat) : Int)
 | 6 => v = .agg (bcs O).toArray
 | 7 => v = .agg (bcs P).toArray
 | 8 => v = .agg (bcs W).toArray
 | _ => True
theorem neqBytes {P : Program} {w : World} {ops : Array Oper} {rest : List Oper} {o : Oper} {a : Act} {Q : Exit → Act → World → Prop} {t e ty : TypeId} {n : Nat} (x y : Operand) (xs ys : List UInt8) (b : Bool) (ht : P.underlying t = some (.array n e)) (he : P.underlying e = some (.int .u8)) (hs : (P.info? e).map (·.size) = some 1) (hq : P.eqGuardType P.depth t = false)
 (hgd : Region.wanted o (yielded ops a.tmps) = true) (ho : o.op = .binOp .neq t x y ty) (hxv : a.eval x = .agg (bcs xs).toArray) (hyv : a.eval y = .agg (bcs ys).toArray) (hx : xs.length = n) (hy : ys.length = n) (hb : (!(xs == ys)) = b)
 (hk : wpList P ops Q rest (a.put o.dst (.bool b)) w) : wpList P ops Q (o :: rest) a w := by
 refine opVal (v := .bool b) hgd ?_ hk
 unfold execOp
 have hr := run_eqBytes (P := P) w ht he hs xs ys hx hy
 subst hb
 simp only [ho, hxv, hyv]
 simp [eqGuard, hq, run_neq_struct, hr]
theorem par_bit (i l : Nat) (hi : i < 1000) : bits .and .i64 ((i : Int) / 2 ^ l) 1 = ((i / 2 ^ l % 2 : Nat) : Int) := by
 have h1 : ((i : Int) / 2 ^ l) = ((i / 2 ^ l : Nat) : Int) := by simp
 have h2 := Nat.div_le_self i (2 ^ l)
 have h3 := i64_and_n (i / 2 ^ l) 1 (by omega) (by omega)
 rw [h1]
 rw [Nat.and_one_is_mod] at h3
 exact h3
theorem upD_len (h i : Nat) (r : List UInt8) {v : List UInt8} (hv : v.length = 16) : ∀ l, (upD h i r v l).length = 16
 | 0 => hv
 | l + 1 => by
  unfold upD
  split <;> exact ofDig_len _ _
def verV (i : Nat) (root p : List UInt8) : Value := .tuple #[.int .i64 (if root = p then (i : Int) else 0), .int .i64 (if root = p then 0 else 8)]
theorem verify_ok (p : List UInt8) (h i U : Nat) (m sig : List UInt8) (w : World) (ht : Tabs w) (hp : p.length = 16) (hm : m.length ≤ 100000000) (hh : h ≤ 6) (hi : i < 2 ^ h) (hd : dec sig = ((i : Int), (U : Int), 0)) (hU : U = (enc i).length) (hl : sig.length = U + 16 * (35 + h)) :
 Calls Tryz.prog 35 #[.agg (bcs p).toArray, .int .i64 (h : Int), sv m, sv sig] w fun e w' => e = .returned (verV i (rootD h i (messageD p i m) (sig.drop U)) p) ∧ Below w.heap.size w w' := by
 have hcd := countD_of hh
 have hp1 := two_pow_pos h
 have hp64 := two_pow_le hh
 have hen := enc_len i
 have hsz : sizeD h i = sig.length := by rw [sizeD_of hh hi, ← hU, hl]
 have hsl : sig.length ≤ 700 := by omega
 have hsl0 : 1 ≤ sig.length := by omega
 have hU10 : U ≤ 10 := by omega
 have HL := Lib.hid hl
 have HPL := Lib.hid (show (bcs p).length = 16 by rw [bcs_length]; exact hp)
 have hdd : (messageD p i m).length = 16 := ofDig_len _ _
 have HMSG := Lib.hid (fun w' (h' : Tabs w') => message_any p i m w' h' hp (isI64_nat (n := i) (by omega)) hm)
 obtain ⟨M, hM⟩ : ∃ M, M = 2 ^ h := ⟨_, rfl⟩
 rw [← hM] at hcd hp1 hp64 hi
 have HD := Lib.hid hd
 have HSZ := Lib.hid hsz
 clear hM hd hsz hU hl
 unfold sv
 go_enter Tryz.func35, Tryz.ntmps35
 go_wp2_with (with_reducible refine bxArr (cs := bcs p) (.tmp 0) (wn rfl) rfl rfl ?_)
 intro w1 h4 hb
 have l4 : w.heap.size < w1.heap.size := h4.lt
 go_wp2_with (with_reducible refine bxOne (.tmp 3) (wn rfl) rfl rfl rfl ?_)
 intro w2 h7 b2
 have l7 : w1.heap.size < w2.heap.size := h7.lt
 replace h4 := h4.below b2 h4.lt
 replace hb := hb.trans (b2.mono hb.size)
 clear b2
 generalize w1.heap.size = g7 at *
 go_wp2_with fail
 refine (count_any h w2).mono ?_
 rintro e w3 ⟨rfl, b3⟩
 rw [hcd]
 replace h4 := h4.below b3 h4.lt
 replace h7 := h7.below b3 h7.lt
 replace hb := hb.trans (b3.mono hb.size)
 have l3 : g7 < w3.heap.size := h7.lt
 clear b3 hcd l7
 have c7 : w3.cell? ⟨g7, 0, none⟩ = some (.string ⟨sig.toArray⟩) := h7.cell (i := 0) rfl
 go_wp2_with (with_reducible refine convBs (.tmp 23) sig Tryz.und_str Tryz.sl_u8.und Tryz.und_u8 (wn rfl) rfl rfl (by omega) ?_)
 intro A5 c5 w5 hrd b5
 replace h4 := h4.below b5 h4.lt
 replace h7 := h7.below b5 h7.lt
 replace hb := hb.trans (b5.mono hb.size)
 have l5 : g7 < w5.heap.size := h7.lt
 clear b5 c7 l3
 go_wp2_with fail
 refine (getInt_any sig A5 _ c5 _ w5 hrd).mono ?_
 rintro e w6 ⟨rfl, rfl⟩
 rw [HD.out]
 clear hrd
 go_wp2_with fail
 have h10 := (Arr.new w5 3 [.int .i64 (i : Int)]).alloc (.cells #[.int .i64 (U : Int)] 3)
 have h11 := Arr.new (w5.alloc (.cells #[.int .i64 (i : Int)] 3)) 3 [.int .i64 (U : Int)]
 have hs1 : (w5.alloc (.cells #[.int .i64 (i : Int)] 3)).heap.size = w5.heap.size + 1 := by simp
 rw [hs1] at h11
 have b6 : Below w5.heap.size w5 ((w5.alloc (.cells #[.int .i64 (i : Int)] 3)).alloc (.cells #[.int .i64 (U : Int)] 3)) := ((Below.refl _ _).alloc (Nat.le_refl _) _).alloc (by simp) _
 have h11 : Arr ((w5.alloc (.cells #[.int .i64 (i : Int)] 3)).alloc (.cells #[.int .i64 (U : Int)] 3)) (w5.heap.size + 1) 3 [.int .i64 (U : Int)] := h11
 have h10 : Arr ((w5.alloc (.cells #[.int .i64 (i : Int)] 3)).alloc (.cells #[.int .i64 (U : Int)] 3)) w5.heap.size 3 [.int .i64 (i : Int)] := h10
 replace h4 := h4.below b6 h4.lt
 replace h7 := h7.below b6 h7.lt
 replace hb := hb.trans (b6.mono hb.size)
 clear b6 hs1
 generalize (w5.alloc (.cells #[.int .i64 (i : Int)] 3)).alloc (.cells #[.int .i64 (U : Int)] 3) = w6 at *
 generalize w5.heap.size = g10 at *
 refine (size_any h i w6).mono ?_
 rintro e w7 ⟨rfl, b7⟩
 rw [HSZ.out]
 replace h4 := h4.below b7 h4.lt
 replace h7 := h7.below b7 h7.lt
 replace h10 := h10.below b7 h10.lt
 replace h11 := h11.below b7 h11.lt
 replace hb := hb.trans (b7.mono hb.size)
 clear b7
 have c7 : w7.cell? ⟨g7, 0, none⟩ = some (.string ⟨sig.toArray⟩) := h7.cell (i := 0) rfl
 have n7 := h7.lt
 have n10 := h10.lt
 have n11 := h11.lt
 have n4 := h4.lt
 have c10 : w7.cell? ⟨g10, 0, none⟩ = some (.int .i64 (i : Int)) := h10.cell (i := 0) rfl
 go_wp2_with (with_reducible refine ldArr (.tmp 4) Tryz.ag_b16 (wn rfl) rfl rfl HPL.out (h4.alloc _) ?_)
 have h14 := Arr.new w7 109 [.func (.func 82) #[] #[.pointer (some ⟨g7, 0, none⟩), .pointer (some ⟨g10 + 1, 0, none⟩)]]
 have b8 : Below w7.heap.size w7 (w7.alloc (.cells [.func (.func 82) #[] #[.pointer (some ⟨g7, 0, none⟩), .pointer (some ⟨g10 + 1, 0, none⟩)]].toArray 109)) := (Below.refl _ _).alloc (Nat.le_refl _) _
 generalize w7.alloc (.cells [.func (.func 82) #[] #[.pointer (some ⟨g7, 0, none⟩), .pointer (some ⟨g10 + 1, 0, none⟩)]].toArray 109) = w8 at *
 replace h4 := h4.below b8 n4
 replace h7 := h7.below b8 n7
 replace h10 := h10.below b8 n10
 replace h11 := h11.below b8 n11
 have hw7 : w.heap.size ≤ w7.heap.size := hb.size
 replace hb := hb.trans (b8.mono hb.size)
 generalize w7.heap.size = g14 at *
 clear b8 c7 c10
 have hmc := HMSG.out w8 (ht.below hb ht.size)
 refine hmc.mono ?_
 rintro e w9 ⟨rfl, b9⟩
 replace h4 := h4.below b9 h4.lt
 replace h7 := h7.below b9 h7.lt
 replace h10 := h10.below b9 h10.lt
 replace h11 := h11.below b9 h11.lt
 replace h14 := h14.below b9 h14.lt
 replace hb := hb.trans (b9.mono hb.size)
 obtain ⟨D, hD⟩ : ∃ D, D = messageD p i m := ⟨_, rfl⟩
 rw [← hD] at hdd
 rw [← hD]
 have HMD := Lib.hid hD
 clear hmc b9 hD HMSG
 go_wp2_with fail
 refine (digits_any D w9 hdd).mono ?_
 rintro e w10 ⟨rfl, b10⟩
 replace h4 := h4.below b10 h4.lt
 replace h7 := h7.below b10 h7.lt
 replace h10 := h10.below b10 h10.lt
 replace h11 := h11.below b10 h11.lt
 replace h14 := h14.below b10 h14.lt
 replace hb := hb.trans (b10.mono hb.size)
 clear b10
 have HDL := Lib.hid (show (ivs (digitsD D)).length = 35 by rw [ivs_len]; exact digitsD_len hdd)
 go_wp2_with (with_reducible refine alArr (z := zerosI 35) Tryz.ag_i35 (wn rfl) rfl ?_)
 intro w11 h15 b11
 have l15 : w.heap.size ≤ w10.heap.size := hb.size
 have e4 := h4.lt
 have e7 := h7.lt
 have e10 := h10.lt
 have e11 := h11.lt
 have e14 := h14.lt
 replace h4 := h4.below b11 e4
 replace h7 := h7.below b11 e7
 replace h10 := h10.below b11 e10
 replace h11 := h11.below b11 e11
 replace h14 := h14.below b11 e14
 replace hb := hb.trans (b11.mono hb.size)
 clear b11
 generalize w10.heap.size = g15 at *
 go_wp2_with (with_reducible refine stArr (cs := ivs (digitsD D)) (.tmp 15) (.tmp 54) Tryz.ag_i35 (wn rfl) rfl rfl rfl h15 (zerosI_len _) HDL.out (ivs_one _) ?_)
 intro w12 h15 hkeep hbel
 replace h4 := hkeep _ _ _ (by omega) h4
 replace h7 := hkeep _ _ _ (by omega) h7
 replace h10 := hkeep _ _ _ (by omega) h10
 replace h11 := hkeep _ _ _ (by omega) h11
 replace h14 := hkeep _ _ _ (by omega) h14
 replace hb := hb.trans (hbel _ l15)
 clear hkeep hbel
 have hll := HL.out
 have HLEAF := Lib.hid (leaf_any 85 [.pointer (some ⟨g10, 0, none⟩), .pointer (some ⟨g14, 0, none⟩), .pointer (some ⟨g15, 0, none⟩)] (endD i D (sig.drop U)) w12 (ht.below hb ht.size) kr_
  (fun j hj => endD_len (by rw [List.length_drop]; omega))
  (fun j w' hj hE => verClo_any sig D U i j g10 g14 g15 g7 (g10 + 1) w' ((ht.below hb ht.size).below hE (ht.below hb ht.size).size) (by omega) hj hdd (by omega) (by omega) (h10.below hE h10.lt) (h14.below hE h14.lt) (h15.below hE h15.lt) (h7.below hE h7.lt) (h11.below hE h11.lt)))
 clear hll
 go_wp2_with fail
 refine HLEAF.out.mono ?_
 rintro e w13 ⟨rfl, b13⟩
 replace h4 := h4.below b13 h4.lt
 replace h7 := h7.below b13 h7.lt
 replace h10 := h10.below b13 h10.lt
 replace h11 := h11.below b13 h11.lt
 replace h14 := h14.below b13 h14.lt
 replace hb := hb.trans (b13.mono hb.size)
 have e15 := h15.lt
 have l16 : w12.heap.size ≤ w13.heap.size := b13.size
 clear b13 HLEAF h15
 obtain ⟨V, hV⟩ : ∃ V, V = leafD ((List.range 35).map (endD i D (sig.drop U))) := ⟨_, rfl⟩
 have hVL : V.length = 16 := by rw [hV]; exact ofDig_len _ _
 rw [← hV]
 have HV := Lib.hid hV
 have HV16 := Lib.hid hVL
 have HVL := Lib.hid (show (bcs V).length = 16 by rw [bcs_length]; exact hVL)
 clear hV hVL
 go_wp2_with (with_reducible refine alArr (z := zerosB 16) Tryz.ag_b16 (wn rfl) rfl ?_)
 intro w14 h16 b14
 have l13 : w.heap.size ≤ w13.heap.size := hb.size
 replace e4 := h4.lt
 replace e7 := h7.lt
 replace e10 := h10.lt
 replace e11 := h11.lt
 replace e14 := h14.lt
 replace h4 := h4.below b14 e4
 replace h7 := h7.below b14 e7
 replace h10 := h10.below b14 e10
 replace h11 := h11.below b14 e11
 replace h14 := h14.below b14 e14
 replace hb := hb.trans (b14.mono hb.size)
 clear b14
 generalize w13.heap.size = g16 at *
 go_wp2_with (with_reducible refine stArr (cs := bcs V) (.tmp 16) (.tmp 56) Tryz.ag_b16 (wn rfl) rfl rfl rfl h16 (zerosB_len _) HVL.out (bcs_one _) ?_)
 intro w15 h16 hkeep hbel
 replace h4 := hkeep _ _ _ (by omega) h4
 replace h7 := hkeep _ _ _ (by omega) h7
 replace h10 := hkeep _ _ _ (by omega) h10
 replace h11 := hkeep _ _ _ (by omega) h11
 replace h14 := hkeep _ _ _ (by omega) h14
 replace hb := hb.trans (hbel _ l13)
 clear hkeep hbel
 have h16' : Arr w15 g16 27 (bcs (upD h i (sig.drop U) V 0)) := h16
 clear h16
 go_wp2_with fail
 go_loopw [58] (fun v58 wr => ∃ l : Nat, l ≤ h ∧ v58 = .int .i64 l ∧ Arr wr w.heap.size 27 (bcs p) ∧ Arr wr g7 9 [sv sig] ∧ Arr wr g10 3 [.int .i64 (i : Int)] ∧ Arr wr (g10 + 1) 3 [.int .i64 (U : Int)] ∧ Arr wr g14 109 [.func (.func 82) #[] #[.pointer (some ⟨g7, 0, none⟩), .pointer (some ⟨g10 + 1, 0, none⟩)]] ∧ Arr wr g16 27 (bcs (upD h i (sig.drop U) V l)) ∧ Below w.heap.size w wr) (fun v58 _ => h - (intOf v58).toNat)
 case atStart => exact ⟨0, by omega, rfl, h4, h7, h10, h11, h14, h16', hb⟩
 case round =>
  clear h4 h7 h10 h11 h14 h16' hb
  obtain ⟨l, hl, rfl, h4, h7, h10, h11, h14, h16, hb⟩ := hrel
  by_cases hlt : l < h
  ·have hll := HL.out
   have HAT : Hid (Calls Tryz.prog 82 #[.int .i64 (35 + (l : Int)), .pointer (some ⟨g7, 0, none⟩), .pointer (some ⟨g10 + 1, 0, none⟩)] wr fun e w' => e = .returned (.agg (bcs (part (sig.drop U) (35 + l))).toArray) ∧ Below wr.heap.size wr w') := Lib.hid (at_any sig U (35 + l) g7 (g10 + 1) wr h7 h11 (by omega) (by omega))
   have hPl : (part (sig.drop U) (35 + l)).length = 16 := part_len (by rw [List.length_drop]; omega)
   have hOl : (upD h i (sig.drop U) V l).length = 16 := upD_len _ _ _ (by exact HV16.out) _ 
   have hx64 : i / 2 ^ l ≤ i := Nat.div_le_self _ _
   have hx65 : i / 2 ^ (l + 1) ≤ i := Nat.div_le_self _ _
   have HUP := Lib.hid (show upD h i (sig.drop U) V (l + 1) = if i / 2 ^ l % 2 = 1 then joinD ((l + 1 : Nat) : Int) ((i / 2 ^ (l + 1) : Nat) : Int) (part (sig.drop U) (35 + l)) (upD h i (sig.drop U) V l) else joinD ((l + 1 : Nat) : Int) ((i / 2 ^ (l + 1) : Nat) : Int) (upD h i (sig.drop U) V l) (part (sig.drop U) (35 + l)) from rfl)
   have HP := Lib.hid (show (bcs (part (sig.drop U) (35 + l))).length = 16 by rw [bcs_length]; exact hPl)
   have HO := Lib.hid (show (bcs (upD h i (sig.drop U) V l)).length = 16 by rw [bcs_length]; exact hOl)
   have HP16 := Lib.hid hPl
   have HO16 := Lib.hid hOl
   clear hll hPl hOl
   have c14 : wr.cell? ⟨g14, 0, none⟩ = some (.func (.func 82) #[] #[.pointer (some ⟨g7, 0, none⟩), .pointer (some ⟨g10 + 1, 0, none⟩)]) := h14.cell (i := 0) rfl
   obtain ⟨P, hP⟩ : ∃ P, P = part (sig.drop U) (35 + l) := ⟨_, rfl⟩
   obtain ⟨O, hO⟩ : ∃ O, O = upD h i (sig.drop U) V l := ⟨_, rfl⟩
   rw [← hP] at HAT HUP HP HP16
   rw [← hO] at HUP HO HO16 h16
   clear hP hO
   go_wp2_with fail
   refine HAT.out.mono ?_
   rintro e w1 ⟨rfl, b1⟩
   clear c14
   replace h4 := h4.below b1 h4.lt
   replace h7 := h7.below b1 h7.lt
   replace h10 := h10.below b1 h10.lt
   replace h11 := h11.below b1 h11.lt
   replace h14 := h14.below b1 h14.lt
   replace h16 := h16.below b1 h16.lt
   replace hb := hb.trans (b1.mono hb.size)
   clear b1
   go_wp2_with (with_reducible refine alArr (z := zerosB 16) Tryz.ag_b16 (wn rfl) rfl ?_)
   intro w2 h18 b2
   have l18 : w.heap.size ≤ w1.heap.size := hb.size
   have f4 := h4.lt
   have f7 := h7.lt
   have f10 := h10.lt
   have f11 := h11.lt
   have f14 := h14.lt
   have f16 := h16.lt
   replace h4 := h4.below b2 f4
   replace h7 := h7.below b2 f7
   replace h10 := h10.below b2 f10
   replace h11 := h11.below b2 f11
   replace h14 := h14.below b2 f14
   replace h16 := h16.below b2 f16
   replace hb := hb.trans (b2.mono hb.size)
   clear b2
   generalize w1.heap.size = g18 at *
   go_wp2_with (with_reducible refine stArr (cs := bcs P) (.tmp 18) (.tmp 64) Tryz.ag_b16 (wn rfl) rfl rfl rfl h18 (zerosB_len _) HP.out (bcs_one _) ?_)
   intro w3 h18 hkeep hbel
   replace h4 := hkeep _ _ _ (by omega) h4
   replace h7 := hkeep _ _ _ (by omega) h7
   replace h10 := hkeep _ _ _ (by omega) h10
   replace h11 := hkeep _ _ _ (by omega) h11
   replace h14 := hkeep _ _ _ (by omega) h14
   replace h16 := hkeep _ _ _ (by omega) h16
   replace hb := hb.trans (hbel _ l18)
   clear hkeep hbel
   have c10 : w3.cell? ⟨g10, 0, none⟩ = some (.int .i64 (i : Int)) := h10.cell (i := 0) rfl
   by_cases hpar : i / 2 ^ l % 2 = 1
   ·have hbit : (bits .and .i64 ((i : Int) / 2 ^ l) 1 == 1) = true := by rw [par_bit i l (by omega)]; rw [hpar]; rfl
    obtain ⟨W, hW⟩ : ∃ W, W = joinD ((l + 1 : Nat) : Int) ((i / 2 ^ (l + 1) : Nat) : Int) P O := ⟨_, rfl⟩
    have hUPn : upD h i (sig.drop U) V (l + 1) = W := by rw [HUP.out, if_pos hpar, hW]
    have HUPN := Lib.hid hUPn
    have HWL := Lib.hid (show (bcs W).length = 16 by rw [bcs_length, hW]; exact ofDig_len _ _)
    have HJ : Hid (∀ w', Tabs w' → Calls Tryz.prog 86 #[.int .i64 ((l : Int) + 1), .int .i64 ((i / 2 ^ (l + 1) : Nat) : Int), .agg (bcs P).toArray, .agg (bcs O).toArray] w' fun e w'' => e = .returned (.agg (bcs W).toArray) ∧ Below w'.heap.size w' w'') :=
     Lib.hid (fun w' ht' => by rw [hW]; exact join_any ((l : Int) + 1) ((i / 2 ^ (l + 1) : Nat) : Int) P O w' ht' (isI64_nat (n := l + 1) (by omega)) (isI64_nat (by omega)) HP16.out HO16.out)
    clear hUPn hW HUP hpar
    go_wp2_with fail
    refine aStart kr_ ?_
    clear hbit c10
    replace h4 := h4.drew
    replace h7 := h7.drew
    replace h10 := h10.drew
    replace h11 := h11.drew
    replace h14 := h14.drew
    replace h16 := h16.drew
    replace h18 := h18.drew
    replace hb := hb.drew
    generalize w3.drew = wd at *
    refine aTake (i := 0) (v := .int .i64 (l : Int)) rfl kr_ (wn rfl) (fun _ _ _ h => h) (fun w => by kernel_rfl) ?_
    refine aTake (i := 1) (v := .int .i64 ((l : Int) + 1)) rfl kr_ (wn rfl) (fun _ _ _ h => h) (fun w => addRun (A := (l : Int)) (B := 1) (.tmp 70) (.const (.int .i64 1)) rfl kr_ rfl rfl (by omega)) ?_
    refine aTake (i := 3) (v := .int .i64 (l : Int)) rfl kr_ (wn rfl) (fun _ _ _ h => h) (fun w => by kernel_rfl) ?_
    refine aTake (i := 4) (v := .int .i64 ((l + 1 : Nat) : Int)) rfl kr_ (wn rfl) (fun _ _ _ h => h) (fun w => addRun (A := (l : Int)) (B := 1) (.tmp 73) (.const (.int .i64 1)) rfl kr_ rfl (by omega) (by omega)) ?_
    refine rgFloat [(2, 72), (5, 75), (6, 76), (7, 77), (8, 78)] (GVerA i l P O W) _ 1 rfl kr_ ?mono ?step ?fin
    case mono =>
     intro p hp v w w' h hE
     simp only [List.mem_cons, List.not_mem_nil, or_false] at hp
     rcases hp with rfl | rfl | rfl | rfl | rfl
     ·exact h
     ·exact h
     ·exact h
     ·exact h
     ·exact h
    case step =>
     intro p hp
     simp only [List.mem_cons, List.not_mem_nil, or_false] at hp
     rcases hp with rfl | rfl | rfl | rfl | rfl
     ·refine ⟨_, rfl, rfl, fun a w' hF hE hG => ?_⟩
      refine ldOneSg (p := ⟨g10, 0, none⟩) (.tmp 10) kr_ (wn rfl) rfl ((hF.eval 10 kr_).trans kr_) ((h10.below hE h10.lt).cell (i := 0) rfl) ?_
      exact ⟨_, rfl, Below.refl _ _, rfl⟩
     ·refine ⟨_, rfl, rfl, fun a w' hF hE hG => ?_⟩
      refine opVal (v := .int .i64 ((i / 2 ^ (l + 1) : Nat) : Int)) (wn rfl) (shrNat (m := i) (n := l + 1) (.tmp 72) (.tmp 74) rfl (show a.tmps.getD 72 undef = _ from hG (2, 72) (by simp) kr_) ((hF.eval 74 kr_).trans kr_) (by omega)) ?_
      exact ⟨_, rfl, Below.refl _ _, rfl⟩
     ·refine ⟨_, rfl, rfl, fun a w' hF hE hG => ?_⟩
      refine ldArr (b := g18) (.tmp 18) Tryz.ag_b16 (wn rfl) rfl ((hF.eval 18 kr_).trans kr_) HP.out (h18.below hE h18.lt) ?_
      exact ⟨_, rfl, Below.refl _ _, rfl⟩
     ·refine ⟨_, rfl, rfl, fun a w' hF hE hG => ?_⟩
      refine ldArr (b := g16) (.tmp 16) Tryz.ag_b16 (wn rfl) rfl ((hF.eval 16 kr_).trans kr_) HO.out (h16.below hE h16.lt) ?_
      exact ⟨_, rfl, Below.refl _ _, rfl⟩
     ·refine ⟨_, rfl, rfl, fun a w' hF hE hG => ?_⟩
      have hx75 : a.tmps.getD 75 undef = .int .i64 ((i / 2 ^ (l + 1) : Nat) : Int) := hG (5, 75) (by simp) kr_
      have hx76 : a.tmps.getD 76 undef = .agg (bcs P).toArray := hG (6, 76) (by simp) kr_
      have hx77 : a.tmps.getD 77 undef = .agg (bcs O).toArray := hG (7, 77) (by simp) kr_
      refine callOp 86 [.int .i64 ((l : Int) + 1), .int .i64 ((i / 2 ^ (l + 1) : Nat) : Int), .agg (bcs P).toArray, .agg (bcs O).toArray] [] [] kr_ (wn rfl) rfl rfl (by show [a.eval (.tmp 71), a.tmps.getD 75 undef, a.tmps.getD 76 undef, a.tmps.getD 77 undef] = _; rw [hF.eval 71 kr_, hx75, hx76, hx77]; first | done | kernel_rfl) ?_
      refine (HJ.out w' (ht.below (hb.trans (hE.mono hb.size)) ht.size)).mono ?_
      rintro e w2 ⟨rfl, hb2⟩
      exact ⟨_, rfl, ⟨_, rfl, hb2, rfl⟩⟩
    case fin =>
     intro a wf hF hE hG
     have qf : a.tmps.getD 78 undef = .agg (bcs W).toArray := hG (8, 78) (by simp)
     replace h4 := h4.below hE h4.lt
     replace h7 := h7.below hE h7.lt
     replace h10 := h10.below hE h10.lt
     replace h11 := h11.below hE h11.lt
     replace h14 := h14.below hE h14.lt
     replace h16 := h16.below hE h16.lt
     have hszf := hb.size
     replace hb := hb.trans (hE.mono hb.size)
     rw [hF.eq]
     simp only [putsX]
     rw [qf]
     generalize a.tmps.getD 72 undef = x72
     generalize a.tmps.getD 75 undef = x75
     generalize a.tmps.getD 76 undef = x76
     generalize a.tmps.getD 77 undef = x77
     clear hG hF hE qf
     refine aNext (i := 9) kr_ rfl ?_
     refine stArr (b := g16) (cs := bcs W) (.tmp 16) (.tmp 78) Tryz.ag_b16 (wn rfl) rfl kr_ kr_ h16 HO.out HWL.out (bcs_one _) ?_
     intro w4 h16 hkeep hbel
     replace h4 := hkeep _ _ _ (by omega) h4
     replace h7 := hkeep _ _ _ (by omega) h7
     replace h10 := hkeep _ _ _ (by omega) h10
     replace h11 := hkeep _ _ _ (by omega) h11
     replace h14 := hkeep _ _ _ (by omega) h14
     replace hb := hb.trans (hbel _ (by omega))
     clear hkeep hbel h18
     rw [← HUPN.out] at h16
     refine aDone kr_ ?_
     simp only [Act.put, List.setIfInBounds_toArray, List.set_cons_succ, List.set_cons_zero]
     go_wp2_with fail
     go_roundw
     case rel => exact ⟨l + 1, by omega, by go_num, h4, h7, h10, h11, h14, h16, hb⟩
     case measure => (simp [intOf]; try omega)
   ·have hbit : (bits .and .i64 ((i : Int) / 2 ^ l) 1 == 1) = false := by 
     rw [par_bit i l (by omega)]
     have : i / 2 ^ l % 2 = 0 := by omega
     rw [this]; rfl
    obtain ⟨W, hW⟩ : ∃ W, W = joinD ((l + 1 : Nat) : Int) ((i / 2 ^ (l + 1) : Nat) : Int) O P := ⟨_, rfl⟩
    have hUPn : upD h i (sig.drop U) V (l + 1) = W := by rw [HUP.out, if_neg hpar, hW]
    have HUPN := Lib.hid hUPn
    have HWL := Lib.hid (show (bcs W).length = 16 by rw [bcs_length, hW]; exact ofDig_len _ _)
    have HJ : Hid (∀ w', Tabs w' → Calls Tryz.prog 86 #[.int .i64 ((l : Int) + 1), .int .i64 ((i / 2 ^ (l + 1) : Nat) : Int), .agg (bcs O).toArray, .agg (bcs P).toArray] w' fun e w'' => e = .returned (.agg (bcs W).toArray) ∧ Below w'.heap.size w' w'') :=
     Lib.hid (fun w' ht' => by rw [hW]; exact join_any ((l : Int) + 1) ((i / 2 ^ (l + 1) : Nat) : Int) O P w' ht' (isI64_nat (n := l + 1) (by omega)) (isI64_nat (by omega)) HO16.out HP16.out)
    clear hUPn hW HUP hpar
    go_wp2_with fail
    refine aStart kr_ ?_
    clear hbit c10
    replace h4 := h4.drew
    replace h7 := h7.drew
    replace h10 := h10.drew
    replace h11 := h11.drew
    replace h14 := h14.drew
    replace h16 := h16.drew
    replace h18 := h18.drew
    replace hb := hb.drew
    generalize w3.drew = wd at *
    refine aTake (i := 0) (v := .int .i64 (l : Int)) rfl kr_ (wn rfl) (fun _ _ _ h => h) (fun w => by kernel_rfl) ?_
    refine aTake (i := 1) (v := .int .i64 ((l : Int) + 1)) rfl kr_ (wn rfl) (fun _ _ _ h => h) (fun w => addRun (A := (l : Int)) (B := 1) (.tmp 79) (.const (.int .i64 1)) rfl kr_ rfl rfl (by omega)) ?_
    refine aTake (i := 3) (v := .int .i64 (l : Int)) rfl kr_ (wn rfl) (fun _ _ _ h => h) (fun w => by kernel_rfl) ?_
    refine aTake (i := 4) (v := .int .i64 ((l + 1 : Nat) : Int)) rfl kr_ (wn rfl) (fun _ _ _ h => h) (fun w => addRun (A := (l : Int)) (B := 1) (.tmp 82) (.const (.int .i64 1)) rfl kr_ rfl (by omega) (by omega)) ?_
    refine rgFloat [(2, 81), (5, 84), (6, 85), (7, 86), (8, 87)] (GVerB i l P O W) _ 1 rfl kr_ ?mono ?step ?fin
    case mono =>
     intro p hp v w w' h hE
     simp only [List.mem_cons, List.not_mem_nil, or_false] at hp
     rcases hp with rfl | rfl | rfl | rfl | rfl
     ·exact h
     ·exact h
     ·exact h
     ·exact h
     ·exact h
    case step =>
     intro p hp
     simp only [List.mem_cons, List.not_mem_nil, or_false] at hp
     rcases hp with rfl | rfl | rfl | rfl | rfl
     ·refine ⟨_, rfl, rfl, fun a w' hF hE hG => ?_⟩
      refine ldOneSg (p := ⟨g10, 0, none⟩) (.tmp 10) kr_ (wn rfl) rfl ((hF.eval 10 kr_).trans kr_) ((h10.below hE h10.lt).cell (i := 0) rfl) ?_
      exact ⟨_, rfl, Below.refl _ _, rfl⟩
     ·refine ⟨_, rfl, rfl, fun a w' hF hE hG => ?_⟩
      refine opVal (v := .int .i64 ((i / 2 ^ (l + 1) : Nat) : Int)) (wn rfl) (shrNat (m := i) (n := l + 1) (.tmp 81) (.tmp 83) rfl (show a.tmps.getD 81 undef = _ from hG (2, 81) (by simp) kr_) ((hF.eval 83 kr_).trans kr_) (by omega)) ?_
      exact ⟨_, rfl, Below.refl _ _, rfl⟩
     ·refine ⟨_, rfl, rfl, fun a w' hF hE hG => ?_⟩
      refine ldArr (b := g16) (.tmp 16) Tryz.ag_b16 (wn rfl) rfl ((hF.eval 16 kr_).trans kr_) HO.out (h16.below hE h16.lt) ?_
      exact ⟨_, rfl, Below.refl _ _, rfl⟩
     ·refine ⟨_, rfl, rfl, fun a w' hF hE hG => ?_⟩
      refine ldArr (b := g18) (.tmp 18) Tryz.ag_b16 (wn rfl) rfl ((hF.eval 18 kr_).trans kr_) HP.out (h18.below hE h18.lt) ?_
      exact ⟨_, rfl, Below.refl _ _, rfl⟩
     ·refine ⟨_, rfl, rfl, fun a w' hF hE hG => ?_⟩
      have hx84 : a.tmps.getD 84 undef = .int .i64 ((i / 2 ^ (l + 1) : Nat) : Int) := hG (5, 84) (by simp) kr_
      have hx85 : a.tmps.getD 85 undef = .agg (bcs O).toArray := hG (6, 85) (by simp) kr_
      have hx86 : a.tmps.getD 86 undef = .agg (bcs P).toArray := hG (7, 86) (by simp) kr_
      refine callOp 86 [.int .i64 ((l : Int) + 1), .int .i64 ((i / 2 ^ (l + 1) : Nat) : Int), .agg (bcs O).toArray, .agg (bcs P).toArray] [] [] kr_ (wn rfl) rfl rfl (by show [a.eval (.tmp 80), a.tmps.getD 84 undef, a.tmps.getD 85 undef, a.tmps.getD 86 undef] = _; rw [hF.eval 80 kr_, hx84, hx85, hx86]; first | done | kernel_rfl) ?_
      refine (HJ.out w' (ht.below (hb.trans (hE.mono hb.size)) ht.size)).mono ?_
      rintro e w2 ⟨rfl, hb2⟩
      exact ⟨_, rfl, ⟨_, rfl, hb2, rfl⟩⟩
    case fin =>
     intro a wf hF hE hG
     have qf : a.tmps.getD 87 undef = .agg (bcs W).toArray := hG (8, 87) (by simp)
     replace h4 := h4.below hE h4.lt
     replace h7 := h7.below hE h7.lt
     replace h10 := h10.below hE h10.lt
     replace h11 := h11.below hE h11.lt
     replace h14 := h14.below hE h14.lt
     replace h16 := h16.below hE h16.lt
     have hszf := hb.size
     replace hb := hb.trans (hE.mono hb.size)
     rw [hF.eq]
     simp only [putsX]
     rw [qf]
     generalize a.tmps.getD 81 undef = x81
     generalize a.tmps.getD 84 undef = x84
     generalize a.tmps.getD 85 undef = x85
     generalize a.tmps.getD 86 undef = x86
     clear hG hF hE qf
     refine aNext (i := 9) kr_ rfl ?_
     refine stArr (b := g16) (cs := bcs W) (.tmp 16) (.tmp 87) Tryz.ag_b16 (wn rfl) rfl kr_ kr_ h16 HO.out HWL.out (bcs_one _) ?_
     intro w4 h16 hkeep hbel
     replace h4 := hkeep _ _ _ (by omega) h4
     replace h7 := hkeep _ _ _ (by omega) h7
     replace h10 := hkeep _ _ _ (by omega) h10
     replace h11 := hkeep _ _ _ (by omega) h11
     replace h14 := hkeep _ _ _ (by omega) h14
     replace hb := hb.trans (hbel _ (by omega))
     clear hkeep hbel h18
     rw [← HUPN.out] at h16
     refine aDone kr_ ?_
     simp only [Act.put, List.setIfInBounds_toArray, List.set_cons_succ, List.set_cons_zero]
     go_wp2_with fail
     go_roundw
     case rel => exact ⟨l + 1, by omega, by go_num, h4, h7, h10, h11, h14, h16, hb⟩
     case measure => (simp [intOf]; try omega)
  ·obtain rfl : l = h := by omega
   have hR : upD l i (sig.drop U) V l = rootD l i (messageD p i m) (sig.drop U) := by
    have h1 := HV.out
    have h2 := HMD.out
    subst h1
    subst h2
    rfl
   obtain ⟨R, hRR⟩ : ∃ R, R = upD l i (sig.drop U) V l := ⟨_, rfl⟩
   have hRl : R.length = 16 := by rw [hRR]; exact upD_len _ _ _ HV16.out _
   rw [← hRR] at h16 hR
   have HR := Lib.hid hR
   have HRB := Lib.hid (show (bcs R).length = 16 by rw [bcs_length]; exact hRl)
   have HRL := Lib.hid hRl
   have hpl : p.length = 16 := by have := HPL.out; rwa [bcs_length] at this
   have HPLL := Lib.hid hpl
   have c10 : wr.cell? ⟨g10, 0, none⟩ = some (.int .i64 (i : Int)) := h10.cell (i := 0) rfl
   clear hRR hRl hpl hR
   by_cases heq : R = p
   ·have hbq : (!(R == p)) = false := by simp [heq]
    have HBQ := Lib.hid hbq
    have HEQ := Lib.hid heq
    clear hbq heq
    go_wp2_with (first | (with_reducible refine ldArr (.tmp 16) Tryz.ag_b16 (wn rfl) rfl rfl HRB.out h16 ?_) | (with_reducible refine ldArr (.tmp 4) Tryz.ag_b16 (wn rfl) rfl rfl HPL.out h4 ?_) | (with_reducible refine neqBytes (.tmp 89) (.tmp 90) R p false Tryz.arr_b16 Tryz.und_u8 Tryz.one_u8 kr_ (wn rfl) rfl rfl rfl HRL.out HPLL.out HBQ.out ?_))
    go_wp2_with fail
    go_ret2
    refine ⟨?_, hb⟩
    unfold verV
    rw [← HR.out, if_pos HEQ.out, if_pos HEQ.out]
    rfl
   ·have hbq : (!(R == p)) = true := by simp [heq]
    have HBQ := Lib.hid hbq
    have HEQ := Lib.hid heq
    clear hbq heq
    go_wp2_with (first | (with_reducible refine ldArr (.tmp 16) Tryz.ag_b16 (wn rfl) rfl rfl HRB.out h16 ?_) | (with_reducible refine ldArr (.tmp 4) Tryz.ag_b16 (wn rfl) rfl rfl HPL.out h4 ?_) | (with_reducible refine neqBytes (.tmp 89) (.tmp 90) R p true Tryz.arr_b16 Tryz.und_u8 Tryz.one_u8 kr_ (wn rfl) rfl rfl rfl HRL.out HPLL.out HBQ.out ?_))
    go_wp2_with fail
    go_ret2
    refine ⟨?_, hb⟩
    unfold verV
    rw [← HR.out, if_neg HEQ.out, if_neg HEQ.out]
    rfl
def verifyV (p : List UInt8) (h : Int) (m sig : List UInt8) : Value := .tuple #[.int .i64 (verifyD p h m sig).1, .int .i64 (verifyD p h m sig).2]
theorem verify_e (p : List UInt8) (h x u er : Int) (S : Nat) (m sig : List UInt8) (w : World) (hp : p.length = 16) (hl : sig.length ≤ 1000000) (hc : countD h ≠ 0) (hx : isI64 x) (hd : dec sig = (x, u, er)) (hS : sizeD h x = S) (hS1 : S ≤ 1000000) (her : er = 5 ∨ er = 6) :
 Calls Tryz.prog 35 #[.agg (bcs p).toArray, .int .i64 h, sv m, sv sig] w fun e w' => e = .returned (.tuple #[.int .i64 0, .int .i64 er]) ∧ Below w.heap.size w w' := by
 have hcl := countD_le h
 have hcp : 0 < countD h := by omega
 have HC := Lib.hid (fun w' => count_any h w')
 have HZ := Lib.hid (fun w' => size_any h x w')
 have HD := Lib.hid hd
 have HSZ := Lib.hid hS
 obtain ⟨hx1, hx2⟩ := hx
 clear hc hd hS
 unfold sv
 obtain ⟨M, hM⟩ : ∃ M, M = countD h := ⟨_, rfl⟩
 rw [← hM] at hcl hcp HC
 clear hM
 have her1 : 5 ≤ er := by omega
 have her2 : er ≤ 6 := by omega
 clear her
 go_enter Tryz.func35, Tryz.ntmps35
 go_wp2_with (with_reducible refine bxArr (cs := bcs p) (.tmp 0) (wn rfl) rfl rfl ?_)
 intro w1 h4 hb
 have l4 : w.heap.size < w1.heap.size := h4.lt
 clear h4
 go_wp2_with (with_reducible refine bxOne (.tmp 3) (wn rfl) rfl rfl rfl ?_)
 intro w2 h7 b2
 replace hb := hb.trans (b2.mono hb.size)
 clear b2
 generalize w1.heap.size = g7 at *
 go_wp2_with fail
 refine (HC.out w2).mono ?_
 rintro e w3 ⟨rfl, b3⟩
 replace h7 := h7.below b3 h7.lt
 replace hb := hb.trans (b3.mono hb.size)
 clear b3 HC
 have c7 : w3.cell? ⟨g7, 0, none⟩ = some (.string ⟨sig.toArray⟩) := h7.cell (i := 0) rfl
 go_wp2_with (with_reducible refine convBs (.tmp 23) sig Tryz.und_str Tryz.sl_u8.und Tryz.und_u8 (wn rfl) rfl rfl (by omega) ?_)
 intro A5 c5 w5 hrd b5
 replace h7 := h7.below b5 h7.lt
 replace hb := hb.trans (b5.mono hb.size)
 clear b5 c7
 go_wp2_with fail
 refine (getInt_any sig A5 _ c5 _ w5 hrd).mono ?_
 rintro e w6 ⟨rfl, rfl⟩
 rw [HD.out]
 clear hrd
 go_wp2_with fail
 have b6 : Below w5.heap.size w5 ((w5.alloc (.cells #[.int .i64 x] 3)).alloc (.cells #[.int .i64 u] 3)) := ((Below.refl _ _).alloc (Nat.le_refl _) _).alloc (by simp) _
 replace h7 := h7.below b6 h7.lt
 replace hb := hb.trans (b6.mono hb.size)
 clear b6
 generalize (w5.alloc (.cells #[.int .i64 x] 3)).alloc (.cells #[.int .i64 u] 3) = w6 at *
 refine (HZ.out w6).mono ?_
 rintro e w7 ⟨rfl, b7⟩
 rw [HSZ.out]
 replace h7 := h7.below b7 h7.lt
 replace hb := hb.trans (b7.mono hb.size)
 clear b7
 have c7 : w7.cell? ⟨g7, 0, none⟩ = some (.string ⟨sig.toArray⟩) := h7.cell (i := 0) rfl
 go_wp2_with fail
 go_ret2
 exact ⟨rfl, hb⟩
theorem verify_s (p : List UInt8) (h x u er : Int) (S : Nat) (m sig : List UInt8) (w : World) (hp : p.length = 16) (hl : sig.length ≤ 1000000) (hc : countD h ≠ 0) (hx : isI64 x) (hd : dec sig = (x, u, er)) (hS : sizeD h x = S) (hS1 : S ≤ 1000000) (her : er = 0) (hz : S = 0) :
 Calls Tryz.prog 35 #[.agg (bcs p).toArray, .int .i64 h, sv m, sv sig] w fun e w' => e = .returned (.tuple #[.int .i64 0, .int .i64 8]) ∧ Below w.heap.size w w' := by
 have hcl := countD_le h
 have hcp : 0 < countD h := by omega
 have HC := Lib.hid (fun w' => count_any h w')
 have HZ := Lib.hid (fun w' => size_any h x w')
 have HD := Lib.hid hd
 have HSZ := Lib.hid hS
 obtain ⟨hx1, hx2⟩ := hx
 clear hc hd hS
 unfold sv
 obtain ⟨M, hM⟩ : ∃ M, M = countD h := ⟨_, rfl⟩
 rw [← hM] at hcl hcp HC
 clear hM
 subst her
 subst hz
 go_enter Tryz.func35, Tryz.ntmps35
 go_wp2_with (with_reducible refine bxArr (cs := bcs p) (.tmp 0) (wn rfl) rfl rfl ?_)
 intro w1 h4 hb
 have l4 : w.heap.size < w1.heap.size := h4.lt
 clear h4
 go_wp2_with (with_reducible refine bxOne (.tmp 3) (wn rfl) rfl rfl rfl ?_)
 intro w2 h7 b2
 replace hb := hb.trans (b2.mono hb.size)
 clear b2
 generalize w1.heap.size = g7 at *
 go_wp2_with fail
 refine (HC.out w2).mono ?_
 rintro e w3 ⟨rfl, b3⟩
 replace h7 := h7.below b3 h7.lt
 replace hb := hb.trans (b3.mono hb.size)
 clear b3 HC
 have c7 : w3.cell? ⟨g7, 0, none⟩ = some (.string ⟨sig.toArray⟩) := h7.cell (i := 0) rfl
 go_wp2_with (with_reducible refine convBs (.tmp 23) sig Tryz.und_str Tryz.sl_u8.und Tryz.und_u8 (wn rfl) rfl rfl (by omega) ?_)
 intro A5 c5 w5 hrd b5
 replace h7 := h7.below b5 h7.lt
 replace hb := hb.trans (b5.mono hb.size)
 clear b5 c7
 go_wp2_with fail
 refine (getInt_any sig A5 _ c5 _ w5 hrd).mono ?_
 rintro e w6 ⟨rfl, rfl⟩
 rw [HD.out]
 clear hrd
 go_wp2_with fail
 have b6 : Below w5.heap.size w5 ((w5.alloc (.cells #[.int .i64 x] 3)).alloc (.cells #[.int .i64 u] 3)) := ((Below.refl _ _).alloc (Nat.le_refl _) _).alloc (by simp) _
 replace h7 := h7.below b6 h7.lt
 replace hb := hb.trans (b6.mono hb.size)
 clear b6
 generalize (w5.alloc (.cells #[.int .i64 x] 3)).alloc (.cells #[.int .i64 u] 3) = w6 at *
 refine (HZ.out w6).mono ?_
 rintro e w7 ⟨rfl, b7⟩
 rw [HSZ.out]
 replace h7 := h7.below b7 h7.lt
 replace hb := hb.trans (b7.mono hb.size)
 clear b7
 have c7 : w7.cell? ⟨g7, 0, none⟩ = some (.string ⟨sig.toArray⟩) := h7.cell (i := 0) rfl
 go_wp2_with fail
 go_ret2
 exact ⟨rfl, hb⟩
theorem verify_t (p : List UInt8) (h x u er : Int) (S : Nat) (m sig : List UInt8) (w : World) (hp : p.length = 16) (hl : sig.length ≤ 1000000) (hc : countD h ≠ 0) (hx : isI64 x) (hd : dec sig = (x, u, er)) (hS : sizeD h x = S) (hS1 : S ≤ 1000000) (her : er = 0) (hz : 0 < S) (hlt : sig.length < S) :
 Calls Tryz.prog 35 #[.agg (bcs p).toArray, .int .i64 h, sv m, sv sig] w fun e w' => e = .returned (.tuple #[.int .i64 0, .int .i64 5]) ∧ Below w.heap.size w w' := by
 have hcl := countD_le h
 have hcp : 0 < countD h := by omega
 have HC := Lib.hid (fun w' => count_any h w')
 have HZ := Lib.hid (fun w' => size_any h x w')
 have HD := Lib.hid hd
 have HSZ := Lib.hid hS
 obtain ⟨hx1, hx2⟩ := hx
 clear hc hd hS
 unfold sv
 obtain ⟨M, hM⟩ : ∃ M, M = countD h := ⟨_, rfl⟩
 rw [← hM] at hcl hcp HC
 clear hM
 subst her
 go_enter Tryz.func35, Tryz.ntmps35
 go_wp2_with (with_reducible refine bxArr (cs := bcs p) (.tmp 0) (wn rfl) rfl rfl ?_)
 intro w1 h4 hb
 have l4 : w.heap.size < w1.heap.size := h4.lt
 clear h4
 go_wp2_with (with_reducible refine bxOne (.tmp 3) (wn rfl) rfl rfl rfl ?_)
 intro w2 h7 b2
 replace hb := hb.trans (b2.mono hb.size)
 clear b2
 generalize w1.heap.size = g7 at *
 go_wp2_with fail
 refine (HC.out w2).mono ?_
 rintro e w3 ⟨rfl, b3⟩
 replace h7 := h7.below b3 h7.lt
 replace hb := hb.trans (b3.mono hb.size)
 clear b3 HC
 have c7 : w3.cell? ⟨g7, 0, none⟩ = some (.string ⟨sig.toArray⟩) := h7.cell (i := 0) rfl
 go_wp2_with (with_reducible refine convBs (.tmp 23) sig Tryz.und_str Tryz.sl_u8.und Tryz.und_u8 (wn rfl) rfl rfl (by omega) ?_)
 intro A5 c5 w5 hrd b5
 replace h7 := h7.below b5 h7.lt
 replace hb := hb.trans (b5.mono hb.size)
 clear b5 c7
 go_wp2_with fail
 refine (getInt_any sig A5 _ c5 _ w5 hrd).mono ?_
 rintro e w6 ⟨rfl, rfl⟩
 rw [HD.out]
 clear hrd
 go_wp2_with fail
 have b6 : Below w5.heap.size w5 ((w5.alloc (.cells #[.int .i64 x] 3)).alloc (.cells #[.int .i64 u] 3)) := ((Below.refl _ _).alloc (Nat.le_refl _) _).alloc (by simp) _
 replace h7 := h7.below b6 h7.lt
 replace hb := hb.trans (b6.mono hb.size)
 clear b6
 generalize (w5.alloc (.cells #[.int .i64 x] 3)).alloc (.cells #[.int .i64 u] 3) = w6 at *
 refine (HZ.out w6).mono ?_
 rintro e w7 ⟨rfl, b7⟩
 rw [HSZ.out]
 replace h7 := h7.below b7 h7.lt
 replace hb := hb.trans (b7.mono hb.size)
 clear b7
 have c7 : w7.cell? ⟨g7, 0, none⟩ = some (.string ⟨sig.toArray⟩) := h7.cell (i := 0) rfl
 go_wp2_with fail
 go_ret2
 exact ⟨rfl, hb⟩
theorem verify_m (p : List UInt8) (h x u er : Int) (S : Nat) (m sig : List UInt8) (w : World) (hp : p.length = 16) (hl : sig.length ≤ 1000000) (hc : countD h ≠ 0) (hx : isI64 x) (hd : dec sig = (x, u, er)) (hS : sizeD h x = S) (hS1 : S ≤ 1000000) (her : er = 0) (hz : 0 < S) (hlt : S < sig.length) :
 Calls Tryz.prog 35 #[.agg (bcs p).toArray, .int .i64 h, sv m, sv sig] w fun e w' => e = .returned (.tuple #[.int .i64 0, .int .i64 6]) ∧ Below w.heap.size w w' := by
 have hcl := countD_le h
 have hcp : 0 < countD h := by omega
 have HC := Lib.hid (fun w' => count_any h w')
 have HZ := Lib.hid (fun w' => size_any h x w')
 have HD := Lib.hid hd
 have HSZ := Lib.hid hS
 obtain ⟨hx1, hx2⟩ := hx
 clear hc hd hS
 unfold sv
 obtain ⟨M, hM⟩ : ∃ M, M = countD h := ⟨_, rfl⟩
 rw [← hM] at hcl hcp HC
 clear hM
 subst her
 go_enter Tryz.func35, Tryz.ntmps35
 go_wp2_with (with_reducible refine bxArr (cs := bcs p) (.tmp 0) (wn rfl) rfl rfl ?_)
 intro w1 h4 hb
 have l4 : w.heap.size < w1.heap.size := h4.lt
 clear h4
 go_wp2_with (with_reducible refine bxOne (.tmp 3) (wn rfl) rfl rfl rfl ?_)
 intro w2 h7 b2
 replace hb := hb.trans (b2.mono hb.size)
 clear b2
 generalize w1.heap.size = g7 at *
 go_wp2_with fail
 refine (HC.out w2).mono ?_
 rintro e w3 ⟨rfl, b3⟩
 replace h7 := h7.below b3 h7.lt
 replace hb := hb.trans (b3.mono hb.size)
 clear b3 HC
 have c7 : w3.cell? ⟨g7, 0, none⟩ = some (.string ⟨sig.toArray⟩) := h7.cell (i := 0) rfl
 go_wp2_with (with_reducible refine convBs (.tmp 23) sig Tryz.und_str Tryz.sl_u8.und Tryz.und_u8 (wn rfl) rfl rfl (by omega) ?_)
 intro A5 c5 w5 hrd b5
 replace h7 := h7.below b5 h7.lt
 replace hb := hb.trans (b5.mono hb.size)
 clear b5 c7
 go_wp2_with fail
 refine (getInt_any sig A5 _ c5 _ w5 hrd).mono ?_
 rintro e w6 ⟨rfl, rfl⟩
 rw [HD.out]
 clear hrd
 go_wp2_with fail
 have b6 : Below w5.heap.size w5 ((w5.alloc (.cells #[.int .i64 x] 3)).alloc (.cells #[.int .i64 u] 3)) := ((Below.refl _ _).alloc (Nat.le_refl _) _).alloc (by simp) _
 replace h7 := h7.below b6 h7.lt
 replace hb := hb.trans (b6.mono hb.size)
 clear b6
 generalize (w5.alloc (.cells #[.int .i64 x] 3)).alloc (.cells #[.int .i64 u] 3) = w6 at *
 refine (HZ.out w6).mono ?_
 rintro e w7 ⟨rfl, b7⟩
 rw [HSZ.out]
 replace h7 := h7.below b7 h7.lt
 replace hb := hb.trans (b7.mono hb.size)
 clear b7
 have c7 : w7.cell? ⟨g7, 0, none⟩ = some (.string ⟨sig.toArray⟩) := h7.cell (i := 0) rfl
 go_wp2_with fail
 go_ret2
 exact ⟨rfl, hb⟩
theorem verify_c (p : List UInt8) (h : Int) (m sig : List UInt8) (w : World) (hc : countD h = 0) :
 Calls Tryz.prog 35 #[.agg (bcs p).toArray, .int .i64 h, sv m, sv sig] w fun e w' => e = .returned (.tuple #[.int .i64 0, .int .i64 1]) ∧ Below w.heap.size w w' := by
 have HCC := Lib.hid hc
 clear hc
 unfold sv
 go_enter Tryz.func35, Tryz.ntmps35
 go_wp2_with (with_reducible refine bxArr (cs := bcs p) (.tmp 0) (wn rfl) rfl rfl ?_)
 intro w1 h4 hb
 clear h4
 go_wp2_with (with_reducible refine bxOne (.tmp 3) (wn rfl) rfl rfl rfl ?_)
 intro w2 h7 b2
 replace hb := hb.trans (b2.mono hb.size)
 clear b2 h7
 go_wp2_with fail
 refine (count_any h w2).mono ?_
 rintro e w3 ⟨rfl, b3⟩
 rw [HCC.out]
 replace hb := hb.trans (b3.mono hb.size)
 clear b3
 go_wp2_with fail
 go_ret2
 exact ⟨rfl, hb⟩
theorem sizeD_le (h i : Int) : sizeD h i ≤ 1000000 := by
 unfold sizeD
 split
 ·omega
 ·rename_i hc
  have h1 := countD_pos (h := h) (i := i) (by omega) (by omega)
  have := enc_len i
  omega
theorem dec_len {sig : List UInt8} {i U : Nat} (hd : dec sig = ((i : Int), (U : Int), 0)) : U = (enc (i : Int)).length := by
 have h1 := dec_canon hd
 rw [Int.toNat_natCast] at h1
 rcases dec_facts hd with ⟨_, h2, h3, h4, h5⟩ | ⟨_, _, h6⟩
 ·rw [← h1, List.length_take]; omega
 ·omega
theorem verify_any (p : List UInt8) (h : Int) (m sig : List UInt8) (w : World) (ht : Tabs w) (hp : p.length = 16) (hm : m.length ≤ 100000000) (hl : sig.length ≤ 1000000) :
 Calls Tryz.prog 35 #[.agg (bcs p).toArray, .int .i64 h, sv m, sv sig] w fun e w' => e = .returned (verifyV p h m sig) ∧ Below w.heap.size w w' := by
 by_cases hc : countD h = 0
 ·have e : verifyD p h m sig = (0, 1) := by unfold verifyD; rw [if_pos hc]
  unfold verifyV
  rw [e]
  exact verify_c p h m sig w hc
 ·obtain ⟨x, u, er, hd⟩ : ∃ x u er, dec sig = (x, u, er) := ⟨_, _, _, rfl⟩
  have hf := dec_facts hd
  have hx : isI64 x := by
   rcases hf with ⟨_, _, _, _, h5⟩ | ⟨rfl, _, _⟩
   ·exact h5
   ·unfold isI64; omega
  by_cases he : er = 0
  ·subst he
   by_cases hz : sizeD h x = 0
   ·have e : verifyD p h m sig = (0, 8) := by unfold verifyD; rw [if_neg hc, hd]; simp [hz]
    unfold verifyV
    rw [e]
    exact verify_s p h x u 0 _ m sig w hp hl hc hx hd rfl (sizeD_le _ _) rfl hz
   ·by_cases hlt : sig.length < sizeD h x
    ·have e : verifyD p h m sig = (0, 5) := by unfold verifyD; rw [if_neg hc, hd]; simp [hz, hlt]
     unfold verifyV
     rw [e]
     exact verify_t p h x u 0 _ m sig w hp hl hc hx hd rfl (sizeD_le _ _) rfl (by omega) hlt
    ·by_cases hgt : sizeD h x < sig.length
     ·have e : verifyD p h m sig = (0, 6) := by unfold verifyD; rw [if_neg hc, hd]; simp [hz, hlt, hgt]
      unfold verifyV
      rw [e]
      exact verify_m p h x u 0 _ m sig w hp hl hc hx hd rfl (sizeD_le _ _) rfl (by omega) hgt
     ·have hr : 0 ≤ x ∧ x < (countD h : Int) := by
       unfold sizeD at hz
       split at hz
       ·omega
       ·omega
      obtain ⟨h0, h6⟩ := countD_pos hr.1 hr.2
      obtain ⟨k, rfl⟩ : ∃ k : Nat, h = (k : Int) := ⟨h.toNat, by omega⟩
      obtain ⟨i, rfl⟩ : ∃ i : Nat, x = (i : Int) := ⟨x.toNat, by omega⟩
      obtain ⟨U, rfl⟩ : ∃ U : Nat, u = (U : Int) := ⟨u.toNat, by rcases hf with h1 | h1 <;> omega⟩
      have hk : k ≤ 6 := by omega
      have hcd := countD_of hk
      have hi : i < 2 ^ k := by omega
      have hU := dec_len hd
      have hss := sizeD_of hk hi
      have e : verifyV p k m sig = verV i (rootD k i (messageD p i m) (sig.drop U)) p := by
       unfold verifyV verV verifyD
       rw [if_neg hc, hd]
       simp only [ne_eq, not_true_eq_false, if_false, hz, hlt, hgt, Int.toNat_natCast]
       split <;> rfl
      rw [e]
      exact verify_ok p k i U m sig w ht hp hm hk hi hd hU (by omega)
  ·have e : verifyD p h m sig = (0, er) := by unfold verifyD; rw [if_neg hc, hd]; simp [he]
   unfold verifyV
   rw [e]
   exact verify_e p h x u er _ m sig w hp hl hc hx hd rfl (sizeD_le _ _) (by rcases hf with h1 | h1 <;> omega)
end Go.Proofs.YtgjgjimgomhbmaaGreatDoor
