/-
  code of the coder: what it returns. No statement is proved here.
-/
import Derived.Test.YtpbebmbkcpdbeaaCoCode1
import Derived.Test.YtpbebmbkcpdbeaaFloatIn
import Derived.Test.YtpbebmbkcpdbeaaRows5
namespace Go.Proofs.Ytpbebmbkcpdbeaa
open Go.RowKit Go.Shelf
set_option linter.unusedVariables false
attribute [local go_sem] Oper.semAt_some

theorem coOut_own {β : Type} (n0 go : Nat) (f : β → List UInt8) : Own (fun s W => CoOut n0 go (f s) W) := fun s X Y row hs hg hrow => by
  obtain ⟨v, h1, h2, h3⟩ := hs
  refine ⟨v, (grownBy_keeps_cells hg hrow h1 rfl).trans h1, h2.kept hg ?_, Nat.le_trans h3 hg.size⟩
  rcases h2.2 with ⟨rfl, _⟩ | ⟨g, cap, cur, rfl, _, hh, _⟩
  · exact Or.inl rfl
  · refine Or.inr (fun e => ?_)
    obtain ⟨o, ho, hc⟩ := hrow g e.symm
    rw [hh] at ho
    cases ho
    cases hc
theorem coRun_snoc (s : List Nat × CoIv) (l : List CoP) (x : CoP) : coRun s (coVals (l ++ [x])) = coStep (coRun s (coVals l)) x.1 := by
  unfold coVals
  rw [List.map_append, coRun_append]
  rfl
theorem coRun_len (s : List Nat × CoIv) (l : List (Nat × Nat)) : (coRun s l).2.out.length ≤ s.2.out.length + 5 * l.length := by
  induction l generalizing s with
  | nil => exact Nat.le_refl _
  | cons p l ih =>
    have h1 := ih (coStep s p)
    have h2 := coNarrow_len s.2 p.2 (s.1.getD p.1 0)
    have e1 : coRun s (p :: l) = coRun (coStep s p) l := rfl
    have e2 : (coStep s p).2 = coNarrow s.2 p.2 (s.1.getD p.1 0) := rfl
    rw [e1, List.length_cons]
    rw [e2] at h1
    omega
theorem Try.und_m : Try.prog.underlying 32 = some (.array 256 3) := by kernel_rfl

def CoReads (n : Nat) (xs : List Value) (v : Value) (w : World) : Prop := ∃ A c B, v = .slice A n c ∧ B ≤ w.heap.size ∧ Rd w B 1 A n c xs
theorem CoReads.ext {n : Nat} {xs : List Value} {v : Value} {w w' : World} (h : CoReads n xs v w) (hE : Ext w w') : CoReads n xs v w' := by
  obtain ⟨A, c, B, h1, h2, h3⟩ := h
  exact ⟨A, c, B, h1, Nat.le_trans h2 hE.size, h3.below (hE.mono h2)⟩
def GCo (gv x : Nat) (vo : Value) (b : UInt8) (ix_ : Nat) (v : Value) (w : World) : Prop :=
  match ix_ with
  | 0 => v = vo
  | 1 => v = .pointer (some ⟨gv, 0, none⟩)
  | 2 => v = .pointer (some ⟨gv, 0, none⟩)
  | 3 => v = .pointer (some ⟨gv, 0, none⟩)
  | 4 => v = .int .i64 (x : Int)
  | 5 => v = .int .i64 ((x / 16777216 : Nat) : Int)
  | 6 => v = .int .i64 ((x / 16777216 + 1 : Nat) : Int)
  | 7 => v = bc b
  | 8 => CoReads 1 [bc b] v w
  | _ => True

set_option maxRecDepth 100000 in
set_option maxHeartbeats 2000000 in
theorem code_any (prior data : List UInt8) (hp : prior.length ≤ 140737488351232) (hd : data.length ≤ 1000000) (w : World) :
    Calls Try.prog 25 #[.string ⟨prior.toArray⟩, .string ⟨data.toArray⟩] w fun e w' => e = .returned (.string ⟨(coCode prior data).toArray⟩) ∧ Below w.heap.size w w' := by
  have HS := Lib.hid (coNew_st prior)
  have HT := Lib.hid (fun w' => train_any coNew coNew_good prior hp w')
  obtain ⟨C, hC⟩ : ∃ C, C = coCode prior data := ⟨_, rfl⟩
  rw [← hC]
  unfold coCode at hC
  have HC := Lib.hid hC
  clear hC
  generalize coTrain coNew (coAll prior) = m0 at *
  refine (callsIn_wide (n := 6)).1 ?_
  refine callsIn_of_wp_marks Try.func25 rfl trivial ?_ rfl
  simp only [Try.ntmps25, List.size_toArray, List.length_cons, List.length_nil, Nat.reduceAdd, Nat.reduceSub, Array.replicate_succ, Array.replicate_zero, List.push_toArray, List.append_toArray, List.nil_append, List.cons_append]
  refine wpIn_wide.2 ?_
  go_wp2_with fail
  refine (new_any w).mono ?_
  rintro e w1 ⟨rfl, b1⟩
  go_wp2_with fail
  refine (HT.out w1).mono ?_
  rintro e w2 ⟨rfl, b2⟩
  have hb := b1.trans (b2.mono b1.size)
  clear b1 b2
  go_wp2_with (with_reducible refine alArr (z := mcs coZero) Try.ag_m (wn rfl) rfl ?_)
  intro w3 h5 b3
  have l5 : w.heap.size ≤ w2.heap.size := hb.size
  have n5 := h5.lt
  replace hb := hb.trans (b3.mono l5)
  clear b3
  have HL := Lib.hid (show (mcs m0).length = 256 by rw [mcs_length]; exact HS.out.good.len)
  go_wp2_with (with_reducible refine stArrG (cs := mcs m0) (.tmp 5) (.tmp 13) Try.ag_m (wn rfl) rfl rfl rfl h5 (by kernel_rfl) HL.out (mcs_one _) ?_)
  intro w4 h5 hgr
  replace hb := hb.grown hgr hb.size (fun k e => by cases e; exact l5)
  replace n5 := h5.lt
  clear hgr
  generalize w2.heap.size = gm at *
  go_wp2_with fail
  obtain ⟨go, hgo⟩ : ∃ go, go = w4.heap.size := ⟨_, rfl⟩
  obtain ⟨w5, hw5⟩ : ∃ w5, w5 = (((w4.alloc (Obj.cells #[Value.slice none 0 0] 29)).alloc (Obj.cells #[Value.int IntKind.i64 0, Value.int IntKind.i64 4294967295, Value.func (Fn.func 34) #[] #[Value.pointer (some { block := w4.heap.size, off := 0 })]] 56)).alloc (Obj.cells #[Value.func (Fn.func 35) #[Value.pointer (some { block := w4.heap.size + 1, off := 0 })] #[]] 49)) := ⟨_, rfl⟩
  have ho0 := Boxed.new w4 29 (.slice none 0 0)
  have ho : Boxed w5 go 29 (.slice none 0 0) := by
    rw [hw5, hgo]
    exact (ho0.alloc _).alloc _
  have hv0 : Arr ((w4.alloc (Obj.cells #[Value.slice none 0 0] 29)).alloc (Obj.cells #[Value.int IntKind.i64 0, Value.int IntKind.i64 4294967295, Value.func (Fn.func 34) #[] #[Value.pointer (some { block := w4.heap.size, off := 0 })]] 56)) (w4.heap.size + 1) 56 (ivCells 0 4294967295 (.func (.func 34) [].toArray [Value.pointer (some ⟨w4.heap.size, 0, none⟩)].toArray)) := by
    have := Arr.new (w4.alloc (Obj.cells #[Value.slice none 0 0] 29)) 56 (ivCells 0 4294967295 (.func (.func 34) [].toArray [Value.pointer (some ⟨w4.heap.size, 0, none⟩)].toArray))
    rw [World.size_alloc] at this
    exact this
  have hv : Arr w5 (go + 1) 56 (ivCells 0 4294967295 (.func (.func 34) [].toArray [Value.pointer (some ⟨go, 0, none⟩)].toArray)) := by
    rw [hw5, hgo]
    exact hv0.alloc _
  have hpp : Arr w5 (go + 1 + 1) 49 [.func (.func 35) #[.pointer (some ⟨go + 1, 0, none⟩)] #[]] := by
    rw [hw5, hgo]
    have := Arr.new ((w4.alloc (Obj.cells #[Value.slice none 0 0] 29)).alloc (Obj.cells #[Value.int IntKind.i64 0, Value.int IntKind.i64 4294967295, Value.func (Fn.func 34) #[] #[Value.pointer (some { block := w4.heap.size, off := 0 })]] 56)) 49 [Value.func (.func 35) #[.pointer (some ⟨w4.heap.size + 1, 0, none⟩)] #[]]
    rw [World.size_alloc, World.size_alloc] at this
    exact this
  have hm : Arr w5 gm 32 (mcs m0) := by
    rw [hw5]
    exact ((h5.alloc _).alloc _).alloc _
  have hlg : gm < go := by rw [hgo]; exact n5
  have hng : w.heap.size ≤ go := by rw [hgo]; exact hb.size
  replace hb : Below w.heap.size w w5 := by
    have h1 := hb.size
    rw [hw5]
    exact ((hb.alloc h1 _).alloc (by simp; omega) _).alloc (by simp; omega) _
  rw [← hw5, ← hgo]
  clear hw5 hgo ho0 hv0 h5 n5
  refine (bits_any data w5).mono ?_
  rintro e w3x ⟨rfl, rfl⟩
  go_wp2_with fail
  refine (wpIn_wide (n := 6)).1 ?_
  have hc := (Boxed.new w5 9 (.string ⟨data.toArray⟩)).cell
  have hlt : w5.heap.size < (w5.alloc (.cells #[.string ⟨data.toArray⟩] 9)).heap.size := by simp
  replace ho := ho.alloc (.cells #[.string ⟨data.toArray⟩] 9)
  replace hv := hv.alloc (.cells #[.string ⟨data.toArray⟩] 9)
  replace hpp := hpp.alloc (.cells #[.string ⟨data.toArray⟩] 9)
  replace hm := hm.alloc (.cells #[.string ⟨data.toArray⟩] 9)
  replace hb := hb.alloc hb.size (.cells #[.string ⟨data.toArray⟩] 9)
  generalize w5.alloc (.cells #[.string ⟨data.toArray⟩] 9) = w6 at *
  generalize w5.heap.size = gb at *
  have hco : CoOut w.heap.size go [] w6 := ⟨_, ho, World.ownsRow_nil _ _ _ _, hb.size⟩
  have hcl := hpp.lt
  clear ho
  refine wpIn_rangeFunc_ownF rfl (by decide) (gf := 40) (lb := #[.pointer (some ⟨gb, 0, none⟩)]) rfl trivial (enters_of Try.func40 (by kernel_rfl) rfl)
    (bits_stops 5 (by decide) gb data (by omega) w6 hlt hc) FrKeep.trans (fun W l o o' _ h ho _ => FrKeep.putObj W l o o' h ho) (Below.refl _ _) (fun _ => rfl)
    (fun pre W => (((Arr W gm 32 (mcs (coRun (m0, coStart) (coVals pre)).1) ∧ Arr W (go + 1) 56 (ivCells (coRun (m0, coStart) (coVals pre)).2.x (coRun (m0, coStart) (coVals pre)).2.y (.func (.func 34) [].toArray [Value.pointer (some ⟨go, 0, none⟩)].toArray))) ∧ Arr W (go + 1 + 1) 49 [.func (.func 35) #[.pointer (some ⟨go + 1, 0, none⟩)] #[]]) ∧ CoOut w.heap.size go (coRun (m0, coStart) (coVals pre)).2.out W) ∧ Below w.heap.size w W)
    (fun _ _ _ => False)
    (OwnFrom.and (OwnFrom.and (OwnFrom.and (OwnFrom.and (Own.from (arr_own _ _ _) _) (Own.from (arr_own _ _ _) _)) (Own.from (arr_own _ _ _) _)) (Own.from (coOut_own _ _ _) _)) (ownFrom_below (Nat.le_refl _) hb.size))
    (fun _ _ _ _ _ hs _ _ => hs)
    ⟨⟨⟨⟨hm, hv⟩, hpp⟩, hco⟩, hb⟩
    (fun x => { tmps := #[.string ⟨prior.toArray⟩, .string ⟨data.toArray⟩, undef, undef, .string ⟨#[]⟩, .pointer (some ⟨gm, 0, none⟩), .pointer (some ⟨go, 0, none⟩), .pointer (some ⟨go + 1, 0, none⟩), .pointer (some ⟨go + 1 + 1, 0, none⟩), .int .i64 (x.1.1 : Int), .int .i64 (x.1.2 : Int), .agg (mcs coNew).toArray, .string ⟨prior.toArray⟩, .agg (mcs m0).toArray, .func (.func 34) #[] #[.pointer (some ⟨go, 0, none⟩)], .agg #[.int .i64 0, .int .i64 4294967295, .func (.func 34) #[] #[.pointer (some ⟨go, 0, none⟩)]], .pointer (some ⟨go + 1, 0, none⟩), .pointer (some ⟨go + 1, 0, none⟩), .func (.func 35) #[.pointer (some ⟨go + 1, 0, none⟩)] #[], .string ⟨data.toArray⟩, .func (.func 40) #[] #[.pointer (some ⟨gb, 0, none⟩)], .int .i64 (x.1.1 : Int), .int .i64 (x.1.2 : Int), undef, undef, undef, undef, undef, undef, undef, undef, undef, undef, undef, undef, undef, undef, undef, undef, undef, undef, undef, undef, undef, undef, undef, undef, undef, undef], defers := [] }) ?assign ?body ?done ?stop
  case assign =>
    intro l x W K hK
    unfold coEncs
    gi_wp2
    exact hK
  case body =>
    rintro l pre x W ⟨⟨⟨⟨hA, hV⟩, hP⟩, hO⟩, hB⟩ hpre
    have hst := CoSt.run HS.out (coVals_ok pre)
    have hol := coRun_len (m0, coStart) (coVals pre)
    have hvl : (coVals pre).length = pre.length := by unfold coVals; rw [List.length_map]
    generalize hs : coRun (m0, coStart) (coVals pre) = s at *
    obtain ⟨m, v⟩ := s
    have hp := hst.good.mid x.1.1 x.2.1 x.2.2.1
    have hpl := hst.good.len
    have c3 : W.drew.cell? ⟨gm, x.1.1, none⟩ = some (.int .i64 ((m.getD x.1.1 0 : Nat) : Int)) := hA.drew.cell (mcs_get (by rw [hpl]; exact x.2.2.1))
    have c0 : W.drew.cell? ⟨go + 1 + 1, 0, none⟩ = some (.func (.func 35) #[.pointer (some ⟨go + 1, 0, none⟩)] #[]) := hP.drew.cell (i := 0) rfl
    gi_wp2
    refine wpIn_region_any (by kernel_rfl) ?_
    refine rgFloatIn [(0, 23), (1, 24), (2, 25), (3, 26), (4, 27)] (fun i u _ => (i = 0 → u = .func (.func 35) #[.pointer (some ⟨go + 1, 0, none⟩)] #[]) ∧ (i = 1 → u = .int .i64 (x.1.2 : Int)) ∧ (i = 2 → u = .int .i64 (x.1.1 : Int)) ∧ (i = 3 → u = .pointer (some ⟨gm, 0 + x.1.1 * 1, none⟩)) ∧ (i = 4 → u = .int .i64 ((m.getD x.1.1 0 : Nat) : Int))) 6 1 rfl (by kernel_rfl) ?_ ?_
    · intro p hpm
      simp only [List.mem_cons, List.not_mem_nil, or_false] at hpm
      rcases hpm with rfl | rfl | rfl | rfl | rfl
      · refine ⟨_, rfl, rfl, fun a w' hF hw hG => ?_⟩
        subst hw
        refine opValIn (by kernel_rfl) (fun c e => by cases e) (ldRun (.tmp 8) (by kernel_rfl) rfl ((hF.eval 8 (by kernel_rfl)).trans (by kernel_rfl)) c0) ?_
        exact ⟨_, rfl, rfl, by simp⟩
      · refine ⟨_, rfl, rfl, fun a w' hF hw hG => ?_⟩
        subst hw
        refine opValIn (v := a.eval (.tmp 10)) (by kernel_rfl) (fun c e => by cases e) rfl ?_
        exact ⟨_, rfl, rfl, by rw [hF.eval 10 (by kernel_rfl)]; simp [Act.eval]⟩
      · refine ⟨_, rfl, rfl, fun a w' hF hw hG => ?_⟩
        subst hw
        refine opValIn (v := a.eval (.tmp 9)) (by kernel_rfl) (fun c e => by cases e) rfl ?_
        exact ⟨_, rfl, rfl, by rw [hF.eval 9 (by kernel_rfl)]; simp [Act.eval]⟩
      · refine ⟨_, rfl, rfl, fun a w' hF hw hG => ?_⟩
        subst hw
        have h25 := (hG (2, 25) (by simp) (by kernel_rfl)).2.2.1 rfl
        refine opValIn (by kernel_rfl) (fun c e => by cases e) (iaRun (kk := .i64) (b := gm) (off := 0) (n := 256) (K := (x.1.1 : Int)) (.tmp 5) (.tmp 25) x.1.1 Try.und_m Try.one_int rfl ((hF.eval 5 (by kernel_rfl)).trans (by kernel_rfl)) h25 rfl x.2.2.1) ?_
        exact ⟨_, rfl, rfl, by simp⟩
      · refine ⟨_, rfl, rfl, fun a w' hF hw hG => ?_⟩
        subst hw
        have h26 := (hG (3, 26) (by simp) (by kernel_rfl)).2.2.2.1 rfl
        refine opValIn (by kernel_rfl) (fun c e => by cases e) (ldRun (.tmp 26) (by kernel_rfl) rfl h26 (by rw [Nat.zero_add, Nat.mul_one]; exact c3)) ?_
        exact ⟨_, rfl, rfl, by simp⟩
    · intro a w' hF hw hG
      subst hw
      have e0 : a.tmps.getD 23 undef = _ := (hG (0, 23) (by simp)).1 rfl
      have e1 : a.tmps.getD 24 undef = _ := (hG (1, 24) (by simp)).2.1 rfl
      have e2 : a.tmps.getD 25 undef = _ := (hG (2, 25) (by simp)).2.2.1 rfl
      have e3 : a.tmps.getD 26 undef = _ := (hG (3, 26) (by simp)).2.2.2.1 rfl
      have e4 : a.tmps.getD 27 undef = _ := (hG (4, 27) (by simp)).2.2.2.2 rfl
      have hOd : CoOut w.heap.size go v.out W.drew := by
        obtain ⟨v0, o1, o2, o3⟩ := hO
        exact ⟨v0, o1, o2, o3⟩
      have hVd := hV.drew
      have hAd := hA.drew
      have hPd := hP.drew
      have hBd := hB.drew
      have hdd : ({ W with drawn := W.drawn + 1 } : World) = W.drew := rfl
      rw [hdd]
      have hkd : KeepsOthers W W.drew := KeepsOthers.drew W
      have hfd : FrKeep W W.drew := fun _ _ _ _ h _ => h
      generalize W.drew = Wd at *
      refine aNextIn (i := 5) (by kernel_rfl) rfl ?_
      refine callOpIn 35 [.int .i64 (x.1.2 : Int), .int .i64 ((m.getD x.1.1 0 : Nat) : Int)] [.pointer (some ⟨go + 1, 0, none⟩)] [] (by kernel_rfl) (by kernel_rfl) rfl e0 (show [a.tmps.getD 24 undef, a.tmps.getD 27 undef] = _ by rw [e1, e4]) ?_
      refine (narrow_any v x.1.2 (m.getD x.1.1 0) (go + 1) 34 [] [.pointer (some ⟨go, 0, none⟩)] (by kernel_rfl) (CoOut w.heap.size go) (KpC w.heap.size go (go + 1)) Wd hst.opn hp x.2.2.2 (fun _ _ _ => KpC.trans) (fun A B cur hA hg => KpC.own (by omega) hA hg) (fun out A B cur hO hA hg => hO.grown (by omega) hA (by decide) hg) (fun out y W' cur hlt hO hV => code1_any w.heap.size go (go + 1) out y W' hO hng (by have := coNarrow_len v x.1.2 (m.getD x.1.1 0); simp [coStart] at hol; omega) hV (by decide) (by omega)) hVd hOd).mono ?_
      rintro e w2 ⟨rfl, hO2, hV2, hk2⟩
      refine ⟨_, rfl, ?_⟩
      refine ⟨by kernel_rfl, ?_⟩
      rw [hF.eq]
      simp only [putsX]
      rw [e0, e1, e2, e3, e4]
      simp only [Act.put, List.setIfInBounds_toArray, List.set_cons_succ, List.set_cons_zero]
      clear e0 e1 e2 e3 e4 hF hG
      have hA2 := hk2.arrs gm _ _ (by decide) (by omega) (by omega) hAd
      have hP2 := hk2.arrs (go + 1 + 1) _ _ (by decide) (by omega) (by omega) hPd
      gi_wp2_with (refine ⟨trivial, ?_⟩; gi_at_call 31; refine (CallsIn.inRound l (callsIn_wide.2 (learn_any m gm x.1.1 x.1.2 w2 hst.good x.2.1 x.2.2.1 x.2.2.2 hA2))).mono ?_; rintro e w5 ⟨rfl, ha, hgr⟩)
      refine ⟨hkd.trans (hk2.others.trans (KeepsOthers.of_grownBy hgr ?_)), hfd.trans (hk2.fr.trans (FrKeep.grown hA2 hgr)), ⟨⟨⟨?_, ?_⟩, ?_⟩, ?_⟩, ?_⟩
      · intro j o ej hj
        cases ej
        rw [show w2.heap[gm]? = _ from hA2] at hj
        cases hj
        rfl
      · rw [coRun_snoc, hs]; exact ha
      · rw [coRun_snoc, hs]; exact hV2.grown hgr (fun e => by injection e with e; omega)
      · exact hP2.grown hgr (fun e => by injection e with e; omega)
      · rw [coRun_snoc, hs]; exact hO2.grown (by omega) hA2 (by decide) hgr
      · exact (hBd.trans hk2.below).grown hgr (hBd.trans hk2.below).size (fun k e => by cases e; exact l5)
  case done =>
    rintro D xs W hD rfl ⟨⟨⟨⟨hA, hV⟩, hP⟩, hO⟩, hB⟩ hK
    have e : coRun (m0, coStart) (coVals (coUpto data (8 * data.length))) = coRun (m0, coStart) (coAll data) := by unfold coVals; rw [coUpto_all]
    have hal : (coAll data).length = 8 * data.length := by rw [← coUpto_all, List.length_map, coUpto_length]
    rw [e] at hA hV hO
    have hst := CoSt.run HS.out (coAll_ok data)
    have hol := coRun_len (m0, coStart) (coAll data)
    have HCo := HC.out
    rw [hal] at hol
    clear e hal hA hP HC HS HT hv hpp hm hco hc hlt
    generalize coRun (m0, coStart) (coAll data) = s at *
    obtain ⟨m, v⟩ := s
    simp only [coStart, List.length_nil, Nat.zero_add] at hol
    have hvhi := hst.opn.hi
    have hvle := hst.opn.le
    have c0 : W.cell? ⟨go + 1, 0, none⟩ = some (.int .i64 (v.x : Int)) := hV.cell (i := 0) rfl
    obtain ⟨vo, o1, o2, o3⟩ := hO
    have co := o1.cell
    have hDl := (Array.getElem?_eq_some_iff.1 hK).1
    by_cases hx : v.x = 0
    · have hCe : C = v.out := by rw [HCo]; unfold coEnd; rw [if_neg (by simpa using hx)]
      have HCE := Lib.hid hCe
      clear HCo hCe
      obtain ⟨A, c, rfl, hrd⟩ := Rd.of_own o2
      have hxi : (v.x : Int) = 0 := by omega
      go_wp2_with (with_reducible refine convStr (.tmp 47) v.out Try.sl_u8.und Try.und_u8 Try.und_str (wn rfl) rfl rfl hrd ?_)
      refine ⟨by simp, .inl ⟨_, _, rfl, run_takeDeferred hK, ?_⟩⟩
      refine ⟨_, results_tmp rfl _ _ _, ?_, ?_⟩
      · rw [HCE.out]; rfl
      · exact hB.grown (grownBy_putObj' W D (.deferred none)) hB.size (fun k e => by cases e; have := hb.size; omega)
    · have hCe : C = v.out ++ [UInt8.ofNat (v.x / 16777216 + 1)] := by rw [HCo]; unfold coEnd; rw [if_pos hx]
      have hxi : ¬ (v.x : Int) = 0 := by omega
      have HCE := Lib.hid hCe
      clear HCo hCe
      go_wp2_with fail
      refine aStart (by kernel_rfl) ?_
      have hVd := hV.drew
      have hBd := hB.drew
      have hKd : W.drew.heap[D]? = some (.deferred (some [])) := hK
      have o1d : Boxed W.drew go 29 vo := o1
      have o2d : W.drew.ownsRow w.heap.size 5 1 vo v.out.length (bcs v.out) := o2
      have hszd : w.heap.size ≤ W.drew.heap.size := o3
      have hgo := o1.lt
      clear c0 co o1 o2 hK hB hV
      generalize W.drew = Wd at *
      have HBY : Hid ((v.x / 16777216 + 1) % 256 = (UInt8.ofNat (v.x / 16777216 + 1)).toNat) := Lib.hid (by simp)
      have HX1 : Hid (v.x / 16777216 + 1 < 1000) := Lib.hid (by omega)
      generalize hby : UInt8.ofNat (v.x / 16777216 + 1) = by_ at *
      clear hby
      refine rgFloat [(0, 37), (1, 38), (2, 39), (3, 40), (4, 41), (5, 42), (6, 43), (7, 44), (8, 45)] (GCo (go + 1) v.x vo by_) _ 2 rfl (by kernel_rfl) ?mono ?step ?fin
      case mono =>
        intro p hp v w w' h hE
        simp only [List.mem_cons, List.not_mem_nil, or_false] at hp
        rcases hp with rfl | rfl | rfl | rfl | rfl | rfl | rfl | rfl | rfl
        · exact h
        · exact h
        · exact h
        · exact h
        · exact h
        · exact h
        · exact h
        · exact h
        · exact CoReads.ext h hE
      case step =>
        intro p hp
        simp only [List.mem_cons, List.not_mem_nil, or_false] at hp
        rcases hp with rfl | rfl | rfl | rfl | rfl | rfl | rfl | rfl | rfl
        · refine ⟨_, rfl, rfl, fun a w' hF hE hG => ?_⟩
          refine ldOne (p := ⟨go, 0, none⟩) (.tmp 6) (by kernel_rfl) (wn rfl) rfl ((hF.eval 6 (by kernel_rfl)).trans (by kernel_rfl)) ((hE.cell (p := ⟨go, 0, none⟩) o1d.lt).trans o1d.cell) ?_
          exact ⟨_, rfl, Below.refl _ _, rfl⟩
        · refine ⟨_, rfl, rfl, fun a w' hF hE hG => ?_⟩
          refine opVal (v := a.eval (.tmp 7)) (wn rfl) rfl ?_
          exact ⟨_, rfl, Below.refl _ _, (hF.eval 7 (by kernel_rfl)).trans (by kernel_rfl)⟩
        · refine ⟨_, rfl, rfl, fun a w' hF hE hG => ?_⟩
          have hx38 : a.eval (.tmp 38) = .pointer (some ⟨go + 1, 0, none⟩) := hG (1, 38) (by simp) (by kernel_rfl)
          refine opVal (v := .pointer (some ⟨go + 1, 0, none⟩)) (wn rfl) (by unfold execOp; simp only []; rw [hx38]; kernel_rfl) ?_
          exact ⟨_, rfl, Below.refl _ _, rfl⟩
        · refine ⟨_, rfl, rfl, fun a w' hF hE hG => ?_⟩
          have hx39 : a.eval (.tmp 39) = .pointer (some ⟨go + 1, 0, none⟩) := hG (2, 39) (by simp) (by kernel_rfl)
          refine opVal (v := .pointer (some ⟨go + 1, 0, none⟩)) (wn rfl) (by unfold execOp; simp only []; rw [hx39]; kernel_rfl) ?_
          exact ⟨_, rfl, Below.refl _ _, rfl⟩
        · refine ⟨_, rfl, rfl, fun a w' hF hE hG => ?_⟩
          have hx40 : a.eval (.tmp 40) = .pointer (some ⟨go + 1, 0, none⟩) := hG (3, 40) (by simp) (by kernel_rfl)
          refine ldOne (p := ⟨go + 1, 0, none⟩) (.tmp 40) (by kernel_rfl) (wn rfl) rfl hx40 ((hVd.below hE hVd.lt).cell (i := 0) rfl) ?_
          exact ⟨_, rfl, Below.refl _ _, rfl⟩
        · refine ⟨_, rfl, rfl, fun a w' hF hE hG => ?_⟩
          have hx41 : a.eval (.tmp 41) = .int .i64 (v.x : Int) := hG (4, 41) (by simp) (by kernel_rfl)
          refine opVal (wn rfl) (shr24 (.tmp 41) (.const (.int .u64 24)) rfl hx41 rfl) ?_
          exact ⟨_, rfl, Below.refl _ _, rfl⟩
        · refine ⟨_, rfl, rfl, fun a w' hF hE hG => ?_⟩
          have hx42 : a.eval (.tmp 42) = .int .i64 ((v.x / 16777216 : Nat) : Int) := hG (5, 42) (by simp) (by kernel_rfl)
          have := HX1.out
          refine opVal (wn rfl) (addRun (.tmp 42) (.const (.int .i64 1)) (C := ((v.x / 16777216 + 1 : Nat) : Int)) rfl hx42 rfl (by omega) (by omega)) ?_
          exact ⟨_, rfl, Below.refl _ _, rfl⟩
        · refine ⟨_, rfl, rfl, fun a w' hF hE hG => ?_⟩
          have hx43 : a.eval (.tmp 43) = .int .i64 ((v.x / 16777216 + 1 : Nat) : Int) := hG (6, 43) (by simp) (by kernel_rfl)
          refine opVal (wn rfl) (convU8Run (.tmp 43) (by kernel_rfl) Try.und_u8 rfl hx43 HBY.out) ?_
          exact ⟨_, rfl, Below.refl _ _, rfl⟩
        · refine ⟨_, rfl, rfl, fun a w' hF hE hG => ?_⟩
          have hx44 : a.tmps.getD 44 undef = bc by_ := hG (7, 44) (by simp) (by kernel_rfl)
          refine bsRow [bc by_] Try.sl_u8 (wn rfl) rfl (by rw [Array.toList_map]; show [(0, a.tmps.getD 44 undef)] = _; rw [hx44]; rfl) rfl (by omega) (by omega) (fun u hu => by simp at hu; subst hu; rfl) ?_
          intro A5 w5 hrd hb5
          exact ⟨_, rfl, hb5, A5, 1, _, rfl, Nat.le_refl _, hrd⟩
      case fin =>
        intro a wf hF hE hG
        have q37 : a.tmps.getD 37 undef = vo := hG (0, 37) (by simp)
        obtain ⟨A5, c5, B5, q45, hB5, hrd⟩ : CoReads 1 [bc by_] (a.tmps.getD 45 undef) wf := hG (8, 45) (by simp)
        have o1f : Boxed wf go 29 vo := (hE.block go o1d.lt).trans o1d
        have o2f := ownsRow_below o2d hE (Nat.le_refl _)
        have hKf := (hE.block D (Array.getElem?_eq_some_iff.1 hKd).1).trans hKd
        have hBf := hBd.trans (hE.mono hBd.size)
        have hDf := (Array.getElem?_eq_some_iff.1 hKf).1
        rw [hF.eq]
        simp only [putsX]
        rw [q37, q45]
        generalize a.tmps.getD 38 undef = x38
        generalize a.tmps.getD 39 undef = x39
        generalize a.tmps.getD 40 undef = x40
        generalize a.tmps.getD 41 undef = x41
        generalize a.tmps.getD 42 undef = x42
        generalize a.tmps.getD 43 undef = x43
        generalize a.tmps.getD 44 undef = x44
        clear hG hF hE q37 q45 o1d o2d hKd hBd hVd
        simp only [Act.put, List.setIfInBounds_toArray, List.set_cons_succ, List.set_cons_zero]
        refine aNext (i := 9) (by kernel_rfl) rfl ?_
        refine appR (w0 := wf) (.tmp 37) (.tmp 45) Try.sl_u8 (by kernel_rfl) rfl (by kernel_rfl) (by kernel_rfl) o2f hrd (fun u hu => by simp at hu; subst hu; rfl) (Below.refl _ _) hBf.size (by omega) (by omega) ?_
        intro v' w7 h3 h4 h5
        obtain ⟨g', cap', rfl⟩ := ownsRow_succ h3
        have o1g : Arr w7 go 29 [vo] := o1f.kept h5 (o1f.not_row (by decide) o2f)
        have hKg : w7.heap[D]? = some (.deferred (some [])) := (h5.block D hDf (fun e => by
          rcases o2f.2 with ⟨rfl, _⟩ | ⟨g, cap, cur, rfl, _, hh, _⟩
          · simp [Value.ownBlock] at e
          · have : D = g := by simpa [Value.ownBlock] using e
            subst this
            rw [hh] at hKf
            cases hKf)).trans hKf
        have hBg := hBf.trans h4
        refine aNext (i := 10) (by kernel_rfl) rfl ?_
        refine stOne (g := go) (i := 0) (u := .slice (some ⟨g', 0, none⟩) (v.out.length + 1) cap') (.tmp 6) (.tmp 46) (by kernel_rfl) (by kernel_rfl) rfl (by kernel_rfl) (by kernel_rfl) rfl rfl o1g (by simp) ?_
        intro w8 o1h _ _ hg8
        have e2 : bcs v.out ++ [bc by_] = bcs (v.out ++ [by_]) := bcs_snoc _ _
        rw [e2] at h3
        have h8 := own_row h3 o1g (by decide) hg8
        have hKh : w8.heap[D]? = some (.deferred (some [])) := (hg8.block D (Array.getElem?_eq_some_iff.1 hKg).1 (fun e => by
          injection e with e
          subst e
          rw [show w7.heap[D]? = _ from o1g] at hKg
          cases hKg)).trans hKg
        have hBh := hBg.grown hg8 hBg.size (fun k e => by cases e; exact hng)
        have co8 : w8.cell? ⟨go, 0, none⟩ = some (.slice (some ⟨g', 0, none⟩) (v.out.length + 1) cap') := o1h.cell (i := 0) rfl
        obtain ⟨A8, c8, hA8, hrd8⟩ := Rd.of_own h8
        injection hA8 with ha1 ha2 ha3
        subst ha1
        subst ha3
        refine aDone (by kernel_rfl) ?_
        simp only [Act.put, List.setIfInBounds_toArray, List.set_cons_succ, List.set_cons_zero]
        clear o1g o1h h3 h5 hg8 hKg hBg h8 o2f o1f hKf hBf
        go_wp2_with (with_reducible refine convStr (.tmp 47) (v.out ++ [by_]) Try.sl_u8.und Try.und_u8 Try.und_str (wn rfl) rfl rfl hrd8 ?_)
        refine ⟨by simp, .inl ⟨_, _, rfl, run_takeDeferred hKh, ?_⟩⟩
        refine ⟨_, results_tmp rfl _ _ _, ?_, ?_⟩
        · rw [HCE.out]; rfl
        · exact hBh.grown (grownBy_putObj' w8 D (.deferred none)) hBh.size (fun k e => by cases e; have := hb.size; omega)
  case stop =>
    rintro D c pre W _ _ h _
    exact h.elim
end Go.Proofs.Ytpbebmbkcpdbeaa
