/-
  The reference's narrow: what it returns. No statement is proved here.
-/
import Derived.Test.YtpbebmbkcpdbeaaCoNext
import Derived.Test.YtpbebmbkcpdbeaaCoCode1
import Derived.Test.YtpbebmbkcpdbeaaApp
import Derived.Outline
namespace Go.Proofs.Ytpbebmbkcpdbeaa
open Go.RowKit
set_option linter.unusedVariables false

/-- Arrays of other types than rows of bytes lie as they lay. -/
def ArrsKept (w w' : World) : Prop := ∀ (b : Nat) (t : TypeId) (cur : List Value), t ≠ 5 → Arr w b t cur → Arr w' b t cur
theorem ArrsKept.refl (w : World) : ArrsKept w w := fun _ _ _ _ h => h
theorem ArrsKept.trans {a b c : World} (h : ArrsKept a b) (k : ArrsKept b c) : ArrsKept a c := fun i t cur ht hA => k i t cur ht (h i t cur ht hA)
theorem ArrsKept.below {w w' : World} (h : Below w.heap.size w w') : ArrsKept w w' := fun _ _ _ _ hA => hA.below h hA.lt
theorem ArrsKept.row {w w' : World} {base n : Nat} {v : Value} {xs : List Value} (h : w.ownsRow base 5 1 v n xs) (hg : w.grownBy w' v.ownBlock) : ArrsKept w w' := fun b t cur ht hA =>
  hA.grown hg (fun e => own_arr_ne h hA (fun e => ht e.symm) b e.symm rfl)
def riCells (x y : Nat) (f : Value) : List Value := [.int .i64 (x : Int), .int .i64 (y : Int), f]
theorem Try.ag_ri : AgTy Try.prog 58 (riCells 0 0 (.slice none 0 0)).toArray 3 := ⟨by kernel_rfl, by kernel_rfl, by kernel_rfl⟩

theorem widthOf_ri {w : World} {g : Nat} {t : TypeId} {x y : Nat} {f : Value} (h : Arr w g t (riCells x y f)) : widthOf w g = y - x := widthOf_arr (f := f) h
theorem ri_lo (a : Nat) : (a : Int) % 16777216 * 256 = ((a % 16777216 * 256 : Nat) : Int) := by omega
theorem ri_hi (a : Nat) : (a : Int) % 16777216 * 256 + 255 = ((a % 16777216 * 256 + 255 : Nat) : Int) := by omega
theorem ri_one {w : World} {n0 n x y : Nat} {vu : Value} {xs : List Value} (h : w.ownsRow n0 5 1 vu n xs) : ∀ u ∈ riCells x y vu, u.oneCell' = true := by
  intro u hu
  unfold riCells at hu
  simp only [List.mem_cons, List.not_mem_nil, or_false] at hu
  rcases hu with rfl | rfl | rfl
  · rfl
  · rfl
  · rcases h.2 with ⟨rfl, _⟩ | ⟨g, cap, cur, rfl, _⟩ <;> rfl
/-- Blocks that stood stay, but for a row's own block. -/
def RowKept (w w' : World) (v : Value) : Prop := ∀ b, b < w.heap.size → some b ≠ v.ownBlock → w'.heap[b]? = w.heap[b]?
theorem RowKept.set {w w' : World} {v : Value} (h : RowKept w w' v) {g i : Nat} (hg : w.heap.size ≤ g) (u : Value) : RowKept w (w'.setCell ⟨g, i, none⟩ u) v := fun b hb hne =>
  (Below.heap_setCell w' ⟨g, i, none⟩ u b (by show b ≠ g; omega)).trans (h b hb hne)
theorem RowKept.grown {w w' w'' : World} {v : Value} (h : RowKept w w' v) (hs : w.heap.size ≤ w'.heap.size) {g : Nat} (hg : w.heap.size ≤ g) (hgr : w'.grownBy w'' (some g)) : RowKept w w'' v := fun b hb hne =>
  (hgr.block b (by omega) (fun e => by injection e with e; omega)).trans (h b hb hne)
theorem RowKept.app {w w' wa w'' : World} {v vu : Value} (h : RowKept w w' v) (hs : w.heap.size ≤ w'.heap.size) (hS : SameOrNew v vu w.heap.size) (ha : ∀ b, b < w'.heap.size → wa.heap[b]? = w'.heap[b]?) (hsa : w'.heap.size ≤ wa.heap.size) (hgr : wa.grownBy w'' vu.ownBlock) : RowKept w w'' v := fun b hb hne => by
  refine (hgr.block b (by omega) (fun e => ?_)).trans ((ha b (by omega)).trans (h b hb hne))
  rcases hS with e2 | ⟨g, e2, h3⟩
  · exact hne (e.trans e2)
  · rw [e2] at e
    injection e with e
    omega
theorem SameOrNew.app {v vu v' : Value} {N M : Nat} (h : SameOrNew v vu N) (k : SameOrNew vu v' M) (hNM : N ≤ M) : SameOrNew v v' N := by
  rcases k with k | ⟨g, k, hg⟩
  · rcases h with h | ⟨g, h, hg⟩
    · exact Or.inl (k.trans h)
    · exact Or.inr ⟨g, k.trans h, hg⟩
  · exact Or.inr ⟨g, k, by omega⟩
theorem co_mid_int (x d p : Nat) (out : List UInt8) (h2 : x + d < 4294967296) (hp : p ≤ 4065) : wrap64 ((x : Int) + wrap64 (((x : Int) + (d : Int) - (x : Int)) * (p : Int)) / 4096) = ((coMid ⟨x, x + d, out⟩ p : Nat) : Int) := by
  have hm : d * p ≤ 4294967296 * 4065 := Nat.mul_le_mul (by omega) hp
  have hm1 : (d : Int) * (p : Int) = ((d * p : Nat) : Int) := by simp
  have hmid : (x : Int) + ((d * p : Nat) : Int) / 4096 = (coMid ⟨x, x + d, out⟩ p : Int) := by
    unfold coMid
    simp only
    rw [show x + d - x = d by omega]
    generalize d * p = q at *
    omega
  rw [show (x : Int) + (d : Int) - (x : Int) = (d : Int) by omega, hm1, ← hmid]
  clear hmid hm1
  generalize d * p = q at *
  unfold wrap64
  omega
set_option maxRecDepth 100000 in
set_option maxHeartbeats 2000000 in
theorem refNarrow_any (v : CoIv) (b p n0 : Nat) (vo : Value) (w : World) (hv : CoOpen v) (hp : 31 ≤ p ∧ p ≤ 4065) (hb : b = 0 ∨ b = 1) (hn : n0 ≤ w.heap.size) (hl : v.out.length ≤ 1000000000) (hrow : w.ownsRow n0 5 1 vo v.out.length (bcs v.out)) :
    Calls Try.prog 36 #[.agg (riCells v.x v.y vo).toArray, .int .i64 (b : Int), .int .i64 (p : Int)] w fun e w' => ∃ vo', e = .returned (.agg (riCells (coNarrow v b p).x (coNarrow v b p).y vo').toArray) ∧ w'.ownsRow n0 5 1 vo' (coNarrow v b p).out.length (bcs (coNarrow v b p).out) ∧ Below n0 w w' ∧ ArrsKept w w' ∧ RowKept w w' vo ∧ SameOrNew vo vo' w.heap.size := by
  obtain ⟨R, hR⟩ : ∃ R, R = coNarrow v b p := ⟨_, rfl⟩
  rw [← hR]
  unfold coNarrow at hR
  have hmid := coMid_in hv hp
  have hvhi := hv.hi
  have HC := coCut_in (b := b) hv hp
  have hRl := coNarrow_len v b p
  unfold coNarrow at hRl
  rw [← hR] at hRl
  have HUL : Hid (∀ (n : Nat) (u : CoIv), Hid (R = coNorm n u) → u.out.length ≤ 1000000005) := Lib.hid (fun n u h => by
    have h1 := (coNorm_len n u).1
    rw [← h.out] at h1
    omega)
  have hwl := hv.le
  have hn' := hn
  obtain ⟨x, y, out⟩ := v
  simp only at *
  obtain ⟨d, rfl⟩ : ∃ d, y = x + d := ⟨y - x, by omega⟩
  have hfin := co_mid_int x d p out hvhi hp.2
  rcases hb with rfl | rfl
  · have hcut : coCut ⟨x, x + d, out⟩ 0 p = ⟨coMid ⟨x, x + d, out⟩ p + 1, x + d, out⟩ := rfl
    rw [hcut] at HC hR
    have HR := Lib.hid hR
    have HCC := Lib.hid HC
    clear hR hcut HC hRl
    generalize coMid ⟨x, x + d, out⟩ p = M at *
    go_enter Try.func36, Try.ntmps36
    go_wp2_with (with_reducible refine bxArr (cs := riCells x (x + d) vo) (.tmp 0) (wn rfl) rfl rfl ?_)
    intro w1 h3 b1
    go_wp2_with (with_reducible refine alArr (z := riCells 0 0 (.slice none 0 0)) Try.ag_ri (wn rfl) rfl ?_)
    intro w2 h6 b2
    have l3 := h3.lt
    replace h3 := h3.below b2 l3
    have hb2 := b1.trans (b2.mono b1.size)
    have hk2 := ArrsKept.below hb2
    have hr2 := ownsRow_below hrow hb2 (Nat.le_refl _)
    have hs1 := b1.size
    have hne : w.heap.size ≠ w1.heap.size := by omega
    have KNE : Hid (∀ (b : Nat) (t : TypeId) (cur : List Value), Arr w b t cur → w.heap.size ≠ b ∧ w1.heap.size ≠ b) := Lib.hid (fun b t cur h => by have := h.lt; omega)
    have hrk2 : RowKept w w2 vo := fun b hb _ => hb2.block b hb
    replace hb2 := hb2.mono hn
    have hrk3 : RowKept w (w2.setCell ⟨w.heap.size, 0, none⟩ (.int .i64 ((M : Int) + 1))) vo := hrk2.set (Nat.le_refl _) _
    generalize hg6 : w1.heap.size = g6 at *
    generalize hg3 : w.heap.size = g3 at *
    clear b1 b2
    have f0 := h3.thaw 0
    have f1 := h3.thaw 1
    have c0 : w2.cell? ⟨g3, 0, none⟩ = some (.int .i64 (x : Int)) := h3.cell (i := 0) rfl
    have c1 : w2.cell? ⟨g3, 1, none⟩ = some (.int .i64 ((x : Int) + (d : Int))) := h3.cell (i := 1) rfl
    have hs := h3.set 0 (.int .i64 ((M : Int) + 1))
    have hr3 := own_setCell (i := 0) (u := .int .i64 ((M : Int) + 1)) hr2 h3 (by decide)
    have h63 := h6.other hne 0 (.int .i64 ((M : Int) + 1))
    have hb3 := hb2.setCell (p := ⟨g3, 0, none⟩) hn (.int .i64 ((M : Int) + 1))
    have hk3 : ArrsKept w (w2.setCell ⟨g3, 0, none⟩ (.int .i64 ((M : Int) + 1))) := fun b t cur ht hA => (hk2 b t cur ht hA).other (KNE.out b t cur hA).1 _ _
    go_wp2_with fail
    simp only [hfin]
    clear hfin
    go_loopw [] (fun wr => ∃ (n : Nat) (u : CoIv) (vu : Value), n ≤ 5 ∧ 1 ≤ n ∧ CoIn u ∧ 256 ^ (5 - n) ≤ u.y - u.x + 1 ∧ Hid (R = coNorm n u) ∧ Arr wr g3 58 (riCells u.x u.y vu) ∧ Arr wr g6 58 (riCells 0 0 (.slice none 0 0)) ∧ wr.ownsRow n0 5 1 vu u.out.length (bcs u.out) ∧ Below n0 w wr ∧ ArrsKept w wr ∧ RowKept w wr vo ∧ SameOrNew vo vu g3) (fun wr => 4294967296 - widthOf wr g3)
    case atStart => exact ⟨5, _, vo, by omega, by omega, HCC.out, by simp, HR, hs, h63, hr3, hb3, hk3, hrk3, Or.inl rfl⟩
    case round =>
      clear hs hr3 h63 hb3 hk3 hk2 hrk2 hrk3 hb2 hr2 h6 c0 c1 f0 f1 h3 HCC HR hrow l3
      obtain ⟨n, u, vu, hn5, hn1, hu, hwid, HR, hA, h6, hown, hb, hk, hrk, hsn⟩ := hrel
      have hwd := widthOf_ri hA
      have hule := hu.le
      have huhi := hu.hi
      have hul := HUL.out n u HR
      have c0 : wr.cell? ⟨g3, 0, none⟩ = some (.int .i64 (u.x : Int)) := hA.cell (i := 0) rfl
      have c1 : wr.cell? ⟨g3, 1, none⟩ = some (.int .i64 (u.y : Int)) := hA.cell (i := 1) rfl
      have c2 : wr.cell? ⟨g3, 2, none⟩ = some vu := hA.cell (i := 2) rfl
      by_cases htop : u.x / 16777216 = u.y / 16777216
      · have hti : (u.y : Int) / 16777216 = (u.x : Int) / 16777216 := by omega
        go_wp2_with (at_builtin; with_reducible refine app1B _ _ Try.sl_u8 (wn rfl) rfl rfl rfl hown hb (by rw [hg3]; exact hn') rfl (by omega) (by omega) ?_)
        intro v4 w4 own4 hb4 hg4 hS4
        have hszr : g3 ≤ wr.heap.size := by rw [← hg3]; exact hb.size
        replace hrk := hrk.app (by rw [hg3]; exact hszr) (by rw [hg3]; exact hsn) (fun b hb => heap_alloc_old wr _ b hb) (by simp) hg4
        replace hsn := hsn.app hS4 hszr
        have hby : Value.int .u8 ((u.x : Int) / 16777216) = bc (UInt8.ofNat (u.x / 16777216)) := by
          unfold bc
          have : (UInt8.ofNat (u.x / 16777216)).toNat = u.x / 16777216 := by simp; omega
          rw [this]
          rfl
        rw [hby, bcs_snoc] at own4
        obtain ⟨g', cap', rfl⟩ := ownsRow_succ own4
        have hka : ArrsKept wr w4 := (ArrsKept.below ((Below.refl _ _).alloc (Nat.le_refl _) _)).trans (ArrsKept.row (ownsRow_below hown ((Below.refl _ _).alloc (Nat.le_refl _) _) (Nat.le_refl _)) hg4)
        replace hk := hk.trans hka
        replace hA := hka _ _ _ (by decide) hA
        replace h6 := hka _ _ _ (by decide) h6
        clear hka hg4 hown hb hby c0 c1 c2
        have f2 := hA.thaw 2
        have c0 : w4.cell? ⟨g3, 0, none⟩ = some (.int .i64 (u.x : Int)) := hA.cell (i := 0) rfl
        have c1 : w4.cell? ⟨g3, 1, none⟩ = some (.int .i64 (u.y : Int)) := hA.cell (i := 1) rfl
        have c2 : w4.cell? ⟨g3, 2, none⟩ = some vu := hA.cell (i := 2) rfl
        have f0 := hA.thaw 0
        have f1 := hA.thaw 1
        have HLO := Lib.hid (ri_lo u.x)
        have HHI := Lib.hid (ri_hi u.y)
        go_wp2_with fail
        rw [HLO.out, HHI.out]
        obtain ⟨k, rfl, hk1, hroom⟩ := co_room hu hwid htop hn5 hn1
        have hs := ((hA.set 2 (.slice (some ⟨g', 0, none⟩) (u.out.length + 1) cap')).set 0 (.int .i64 ((u.x % 16777216 * 256 : Nat) : Int))).set 1 (.int .i64 ((u.y % 16777216 * 256 + 255 : Nat) : Int))
        have hs6 := ((h6.other hne 2 (.slice (some ⟨g', 0, none⟩) (u.out.length + 1) cap')).other hne 0 (.int .i64 ((u.x % 16777216 * 256 : Nat) : Int))).other hne 1 (.int .i64 ((u.y % 16777216 * 256 + 255 : Nat) : Int))
        have hoS := own_setCell (i := 1) (u := .int .i64 ((u.y % 16777216 * 256 + 255 : Nat) : Int)) (own_setCell (i := 0) (u := .int .i64 ((u.x % 16777216 * 256 : Nat) : Int)) (own_setCell (i := 2) (u := .slice (some ⟨g', 0, none⟩) (u.out.length + 1) cap') own4 hA (by decide)) (hA.set 2 _) (by decide)) ((hA.set 2 _).set 0 _) (by decide)
        have hbS := ((hb4.setCell (p := ⟨g3, 2, none⟩) hn (.slice (some ⟨g', 0, none⟩) (u.out.length + 1) cap')).setCell (p := ⟨g3, 0, none⟩) hn (.int .i64 ((u.x % 16777216 * 256 : Nat) : Int))).setCell (p := ⟨g3, 1, none⟩) hn (.int .i64 ((u.y % 16777216 * 256 + 255 : Nat) : Int))
        go_roundw
        case rel => exact ⟨k, ⟨u.x % 16777216 * 256, u.y % 16777216 * 256 + 255, u.out ++ [UInt8.ofNat (u.x / 16777216)]⟩, _, by omega, hk1, coNorm_step hu htop, hroom, Lib.hid (HR.out.trans (coNorm_go htop)), hs, hs6, ownsRow_count hoS (by simp) rfl, hbS, fun b t cur ht hA => (((hk b t cur ht hA).other (KNE.out b t cur hA).1 _ _).other (KNE.out b t cur hA).1 _ _).other (KNE.out b t cur hA).1 _ _, ((hrk.set (by rw [hg3]; exact Nat.le_refl _) _).set (by rw [hg3]; exact Nat.le_refl _) _).set (by rw [hg3]; exact Nat.le_refl _) _, hsn⟩
        case measure =>
          rw [widthOf_ri hs, hwd]
          show 4294967296 - (u.y % 16777216 * 256 + 255 - u.x % 16777216 * 256) < 4294967296 - (u.y - u.x)
          omega
      · have hti : ¬ (u.x : Int) / 16777216 = (u.y : Int) / 16777216 := by omega
        have hRu : R = u := HR.out.trans (coNorm_stop htop)
        subst hRu
        go_wp2_with (first | (with_reducible refine ldArr (.tmp 3) Try.ag_ri (wn rfl) rfl rfl rfl hA ?_) | (with_reducible refine stArrG (cs := riCells R.x R.y vu) (.tmp 6) (.tmp 53) Try.ag_ri (wn rfl) rfl rfl rfl h6 rfl rfl (ri_one hown) ?_))
        intro w5 h65 hg5
        go_wp2_with fail
        refine bodyPost_ret (v := .agg (riCells R.x R.y vu).toArray) ?_ rfl ⟨vu, rfl, ?_, ?_, ?_, ?_, ?_⟩
        · exact res_cell1 _ Try.results36 Try.ag_ri _ rfl rfl (fun j u hu => by rw [Nat.zero_add]; exact h65.cell hu)
        · exact own_row hown h6 (by decide) hg5
        · exact hb.grown hg5 (Nat.le_trans hn (by rw [← hg3]; exact hb.size)) (fun k e => by cases e; omega)
        · exact fun b t cur ht hA => (hk b t cur ht hA).grown hg5 (fun e => (KNE.out b t cur hA).2 (by injection e with e; exact e.symm))
        · exact hrk.grown hb.size (by rw [hg3]; exact hs1) hg5
        · rw [hg3]; exact hsn
  · have hcut : coCut ⟨x, x + d, out⟩ 1 p = ⟨x, coMid ⟨x, x + d, out⟩ p, out⟩ := rfl
    rw [hcut] at HC hR
    have HR := Lib.hid hR
    have HCC := Lib.hid HC
    clear hR hcut HC hRl
    generalize coMid ⟨x, x + d, out⟩ p = M at *
    go_enter Try.func36, Try.ntmps36
    go_wp2_with (with_reducible refine bxArr (cs := riCells x (x + d) vo) (.tmp 0) (wn rfl) rfl rfl ?_)
    intro w1 h3 b1
    go_wp2_with (with_reducible refine alArr (z := riCells 0 0 (.slice none 0 0)) Try.ag_ri (wn rfl) rfl ?_)
    intro w2 h6 b2
    have l3 := h3.lt
    replace h3 := h3.below b2 l3
    have hb2 := b1.trans (b2.mono b1.size)
    have hk2 := ArrsKept.below hb2
    have hr2 := ownsRow_below hrow hb2 (Nat.le_refl _)
    have hs1 := b1.size
    have hne : w.heap.size ≠ w1.heap.size := by omega
    have KNE : Hid (∀ (b : Nat) (t : TypeId) (cur : List Value), Arr w b t cur → w.heap.size ≠ b ∧ w1.heap.size ≠ b) := Lib.hid (fun b t cur h => by have := h.lt; omega)
    have hrk2 : RowKept w w2 vo := fun b hb _ => hb2.block b hb
    replace hb2 := hb2.mono hn
    have hrk3 : RowKept w (w2.setCell ⟨w.heap.size, 1, none⟩ (.int .i64 (M : Int))) vo := hrk2.set (Nat.le_refl _) _
    generalize hg6 : w1.heap.size = g6 at *
    generalize hg3 : w.heap.size = g3 at *
    clear b1 b2
    have f0 := h3.thaw 0
    have f1 := h3.thaw 1
    have c0 : w2.cell? ⟨g3, 0, none⟩ = some (.int .i64 (x : Int)) := h3.cell (i := 0) rfl
    have c1 : w2.cell? ⟨g3, 1, none⟩ = some (.int .i64 ((x : Int) + (d : Int))) := h3.cell (i := 1) rfl
    have hs := h3.set 1 (.int .i64 (M : Int))
    have hr3 := own_setCell (i := 1) (u := .int .i64 (M : Int)) hr2 h3 (by decide)
    have h63 := h6.other hne 1 (.int .i64 (M : Int))
    have hb3 := hb2.setCell (p := ⟨g3, 1, none⟩) hn (.int .i64 (M : Int))
    have hk3 : ArrsKept w (w2.setCell ⟨g3, 1, none⟩ (.int .i64 (M : Int))) := fun b t cur ht hA => (hk2 b t cur ht hA).other (KNE.out b t cur hA).1 _ _
    go_wp2_with fail
    simp only [hfin]
    clear hfin
    go_loopw [] (fun wr => ∃ (n : Nat) (u : CoIv) (vu : Value), n ≤ 5 ∧ 1 ≤ n ∧ CoIn u ∧ 256 ^ (5 - n) ≤ u.y - u.x + 1 ∧ Hid (R = coNorm n u) ∧ Arr wr g3 58 (riCells u.x u.y vu) ∧ Arr wr g6 58 (riCells 0 0 (.slice none 0 0)) ∧ wr.ownsRow n0 5 1 vu u.out.length (bcs u.out) ∧ Below n0 w wr ∧ ArrsKept w wr ∧ RowKept w wr vo ∧ SameOrNew vo vu g3) (fun wr => 4294967296 - widthOf wr g3)
    case atStart => exact ⟨5, _, vo, by omega, by omega, HCC.out, by simp, HR, hs, h63, hr3, hb3, hk3, hrk3, Or.inl rfl⟩
    case round =>
      clear hs hr3 h63 hb3 hk3 hk2 hrk2 hrk3 hb2 hr2 h6 c0 c1 f0 f1 h3 HCC HR hrow l3
      obtain ⟨n, u, vu, hn5, hn1, hu, hwid, HR, hA, h6, hown, hb, hk, hrk, hsn⟩ := hrel
      have hwd := widthOf_ri hA
      have hule := hu.le
      have huhi := hu.hi
      have hul := HUL.out n u HR
      have c0 : wr.cell? ⟨g3, 0, none⟩ = some (.int .i64 (u.x : Int)) := hA.cell (i := 0) rfl
      have c1 : wr.cell? ⟨g3, 1, none⟩ = some (.int .i64 (u.y : Int)) := hA.cell (i := 1) rfl
      have c2 : wr.cell? ⟨g3, 2, none⟩ = some vu := hA.cell (i := 2) rfl
      by_cases htop : u.x / 16777216 = u.y / 16777216
      · have hti : (u.y : Int) / 16777216 = (u.x : Int) / 16777216 := by omega
        go_wp2_with (at_builtin; with_reducible refine app1B _ _ Try.sl_u8 (wn rfl) rfl rfl rfl hown hb (by rw [hg3]; exact hn') rfl (by omega) (by omega) ?_)
        intro v4 w4 own4 hb4 hg4 hS4
        have hszr : g3 ≤ wr.heap.size := by rw [← hg3]; exact hb.size
        replace hrk := hrk.app (by rw [hg3]; exact hszr) (by rw [hg3]; exact hsn) (fun b hb => heap_alloc_old wr _ b hb) (by simp) hg4
        replace hsn := hsn.app hS4 hszr
        have hby : Value.int .u8 ((u.x : Int) / 16777216) = bc (UInt8.ofNat (u.x / 16777216)) := by
          unfold bc
          have : (UInt8.ofNat (u.x / 16777216)).toNat = u.x / 16777216 := by simp; omega
          rw [this]
          rfl
        rw [hby, bcs_snoc] at own4
        obtain ⟨g', cap', rfl⟩ := ownsRow_succ own4
        have hka : ArrsKept wr w4 := (ArrsKept.below ((Below.refl _ _).alloc (Nat.le_refl _) _)).trans (ArrsKept.row (ownsRow_below hown ((Below.refl _ _).alloc (Nat.le_refl _) _) (Nat.le_refl _)) hg4)
        replace hk := hk.trans hka
        replace hA := hka _ _ _ (by decide) hA
        replace h6 := hka _ _ _ (by decide) h6
        clear hka hg4 hown hb hby c0 c1 c2
        have f2 := hA.thaw 2
        have c0 : w4.cell? ⟨g3, 0, none⟩ = some (.int .i64 (u.x : Int)) := hA.cell (i := 0) rfl
        have c1 : w4.cell? ⟨g3, 1, none⟩ = some (.int .i64 (u.y : Int)) := hA.cell (i := 1) rfl
        have c2 : w4.cell? ⟨g3, 2, none⟩ = some vu := hA.cell (i := 2) rfl
        have f0 := hA.thaw 0
        have f1 := hA.thaw 1
        have HLO := Lib.hid (ri_lo u.x)
        have HHI := Lib.hid (ri_hi u.y)
        go_wp2_with fail
        rw [HLO.out, HHI.out]
        obtain ⟨k, rfl, hk1, hroom⟩ := co_room hu hwid htop hn5 hn1
        have hs := ((hA.set 2 (.slice (some ⟨g', 0, none⟩) (u.out.length + 1) cap')).set 0 (.int .i64 ((u.x % 16777216 * 256 : Nat) : Int))).set 1 (.int .i64 ((u.y % 16777216 * 256 + 255 : Nat) : Int))
        have hs6 := ((h6.other hne 2 (.slice (some ⟨g', 0, none⟩) (u.out.length + 1) cap')).other hne 0 (.int .i64 ((u.x % 16777216 * 256 : Nat) : Int))).other hne 1 (.int .i64 ((u.y % 16777216 * 256 + 255 : Nat) : Int))
        have hoS := own_setCell (i := 1) (u := .int .i64 ((u.y % 16777216 * 256 + 255 : Nat) : Int)) (own_setCell (i := 0) (u := .int .i64 ((u.x % 16777216 * 256 : Nat) : Int)) (own_setCell (i := 2) (u := .slice (some ⟨g', 0, none⟩) (u.out.length + 1) cap') own4 hA (by decide)) (hA.set 2 _) (by decide)) ((hA.set 2 _).set 0 _) (by decide)
        have hbS := ((hb4.setCell (p := ⟨g3, 2, none⟩) hn (.slice (some ⟨g', 0, none⟩) (u.out.length + 1) cap')).setCell (p := ⟨g3, 0, none⟩) hn (.int .i64 ((u.x % 16777216 * 256 : Nat) : Int))).setCell (p := ⟨g3, 1, none⟩) hn (.int .i64 ((u.y % 16777216 * 256 + 255 : Nat) : Int))
        go_roundw
        case rel => exact ⟨k, ⟨u.x % 16777216 * 256, u.y % 16777216 * 256 + 255, u.out ++ [UInt8.ofNat (u.x / 16777216)]⟩, _, by omega, hk1, coNorm_step hu htop, hroom, Lib.hid (HR.out.trans (coNorm_go htop)), hs, hs6, ownsRow_count hoS (by simp) rfl, hbS, fun b t cur ht hA => (((hk b t cur ht hA).other (KNE.out b t cur hA).1 _ _).other (KNE.out b t cur hA).1 _ _).other (KNE.out b t cur hA).1 _ _, ((hrk.set (by rw [hg3]; exact Nat.le_refl _) _).set (by rw [hg3]; exact Nat.le_refl _) _).set (by rw [hg3]; exact Nat.le_refl _) _, hsn⟩
        case measure =>
          rw [widthOf_ri hs, hwd]
          show 4294967296 - (u.y % 16777216 * 256 + 255 - u.x % 16777216 * 256) < 4294967296 - (u.y - u.x)
          omega
      · have hti : ¬ (u.x : Int) / 16777216 = (u.y : Int) / 16777216 := by omega
        have hRu : R = u := HR.out.trans (coNorm_stop htop)
        subst hRu
        go_wp2_with (first | (with_reducible refine ldArr (.tmp 3) Try.ag_ri (wn rfl) rfl rfl rfl hA ?_) | (with_reducible refine stArrG (cs := riCells R.x R.y vu) (.tmp 6) (.tmp 53) Try.ag_ri (wn rfl) rfl rfl rfl h6 rfl rfl (ri_one hown) ?_))
        intro w5 h65 hg5
        go_wp2_with fail
        refine bodyPost_ret (v := .agg (riCells R.x R.y vu).toArray) ?_ rfl ⟨vu, rfl, ?_, ?_, ?_, ?_, ?_⟩
        · exact res_cell1 _ Try.results36 Try.ag_ri _ rfl rfl (fun j u hu => by rw [Nat.zero_add]; exact h65.cell hu)
        · exact own_row hown h6 (by decide) hg5
        · exact hb.grown hg5 (Nat.le_trans hn (by rw [← hg3]; exact hb.size)) (fun k e => by cases e; omega)
        · exact fun b t cur ht hA => (hk b t cur ht hA).grown hg5 (fun e => (KNE.out b t cur hA).2 (by injection e with e; exact e.symm))
        · exact hrk.grown hb.size (by rw [hg3]; exact hs1) hg5
        · rw [hg3]; exact hsn
end Go.Proofs.Ytpbebmbkcpdbeaa
