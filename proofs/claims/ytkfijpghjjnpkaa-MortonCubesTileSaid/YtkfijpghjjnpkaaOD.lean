/-
  OD: several texts in one: MoCubes, MoRunS, MoGood, MoRuns, MoRRuns, MoBit, MoLeast, MoBits, MoNext. No statement is proved here.
-/
import Derived.Test.YtkfijpghjjnpkaaOC
import Derived.Test.YtkfijpghjjnpkaaOB
set_option linter.unusedVariables false
set_option linter.unusedSimpArgs false
/-
  Cubes. No statement is proved here.
-/
namespace Go.Proofs.Ytkfijpghjjnpkaa
open Go.RowKit
set_option linter.unusedVariables false
set_option linter.unusedSimpArgs false

theorem mCubes_ok {b : Bx} (h : b.ok) : mCubes b = if 4096 < (cubesL b 14 p0 []).length then ([], 2) else (cubesL b 14 p0 [], 0) := by
  have h0 := h 0 (by omega)
  have h1 := h 1 (by omega)
  have h2 := h 2 (by omega)
  have hne : b.ne := by
    simp only [Pt.at, Bx.lo, Bx.hi] at h0 h1 h2
    unfold Bx.ne
    omega
  unfold mCubes
  rw [if_pos hne]
theorem mCubes_no {b : Bx} (h : ¬ b.ok) : mCubes b = ([], 0) := by
  unfold mCubes
  by_cases hne : b.ne
  · rw [if_pos hne]
    have ha : b.apart p0 (p0.far 14) := by
      rw [clipped_apart al_top (by omega)]
      unfold Bx.ok at h
      have : ¬ (b.lo.x ≤ b.hi.x ∧ b.lo.y ≤ b.hi.y ∧ b.lo.z ≤ b.hi.z) := fun hh => h (fun k hk => by
        rcases (by omega : k = 0 ∨ k = 1 ∨ k = 2) with rfl | rfl | rfl
        · exact hh.1
        · exact hh.2.1
        · exact hh.2.2)
      unfold Bx.ne at hne
      have key : ∃ k, k < 3 ∧ ¬ b.lo.at k ≤ b.hi.at k := by
        by_cases h0 : b.lo.x ≤ b.hi.x
        · by_cases h1 : b.lo.y ≤ b.hi.y
          · exact ⟨2, by omega, fun h2 => this ⟨h0, h1, h2⟩⟩
          · exact ⟨1, by omega, h1⟩
        · exact ⟨0, by omega, h0⟩
      obtain ⟨k, hk, hlt⟩ := key
      refine ⟨k, hk, ?_⟩
      rw [lo_at, hi_at] at hlt ⊢
      rw [far_at]
      have e0 : p0.at k = 0 := by
        rcases (by omega : k = 0 ∨ k = 1 ∨ k = 2) with rfl | rfl | rfl <;> rfl
      have hnk : b.mn.at k < b.mx.at k := by
        rcases (by omega : k = 0 ∨ k = 1 ∨ k = 2) with rfl | rfl | rfl
        · exact hne.1
        · exact hne.2.1
        · exact hne.2.2
      rw [e0]
      have : ((2 ^ 14 : Nat) : Int) = 16384 := by decide
      omega
    rw [cubesL_out (Or.inl ha)]
    rfl
  · rw [if_neg hne]
theorem res_scslot {P : Program} {w : World} {fn : Func} {p q : Tmp} {ty t : TypeId} {b : Nat} {u v : Value} (h : fn.results = #[.cell p ty, .tmp q]) (hu : ((P.underlying ty).map fun d => match d with | .struct _ | .array _ _ => true | _ => false) = some false) (tmps : Array Value)
    (hp : tmps.getD p undef = .pointer (some ⟨b, 0, none⟩)) (hq : tmps.getD q undef = v) (hA : Arr w b t [u]) : (results fn tmps).run P w = .ok (.tuple #[u, v]) w := by
  obtain ⟨d, hd, h2⟩ := Option.map_eq_some_iff.1 hu
  have ha : (isAgg ty).run P w = .ok false w := by
    unfold isAgg
    rw [Sem.run_bind, run_underlying hd w]
    cases d <;> simp_all
  have hc : w.cell? ⟨b, 0, none⟩ = some u := hA.cell (i := 0) rfl
  have hl : (loadVar ty ⟨b, 0, none⟩).run P w = .ok u w := by simp [loadVar, ha, hc]
  have hp' : tmps[p]?.getD undef = .pointer (some ⟨b, 0, none⟩) := by simpa using hp
  have hq' : tmps[q]?.getD undef = v := by simpa using hq
  simp only [results, h]
  simp [hp', hq', asAddr, hl]
set_option maxRecDepth 100000 in
set_option maxHeartbeats 4000000 in
theorem cubes_any (b : Bx) (w : World) : Calls Try.prog 22 #[.agg (bxs b).toArray] w (RetLE w 27 4 (mCubes b).1.length (cus (mCubes b).1) (mCubes b).2) := by
  have HCL := Lib.hid (clip_any b)
  go_enter Try.func22, Try.ntmps22
  go_wp2_with (with_reducible refine bxArr (cs := bxs b) (.tmp 0) (wn rfl) rfl rfl ?_)
  intro w1 h1 b1
  go_wp2_with (with_reducible refine alScG (v := .slice none 0 0) (by kernel_rfl) (wn rfl) rfl ?_)
  intro w2 h2 b2
  have l1 := h1.lt
  replace h1 := h1.below b2 l1
  have ls := b1.size
  have hb := b1.trans (b2.mono ls)
  clear b1 b2
  generalize w1.heap.size = g2 at *
  go_wp2_with (with_reducible refine ldArr (.tmp 1) Try.ag_bx (wn rfl) rfl rfl rfl h1 ?_)
  refine (HCL.out _).mono ?_
  rintro e w3 ⟨f, l, rfl, hfl, b3⟩
  replace h2 := h2.below b3 h2.lt
  have l2 := h2.lt
  replace hb := hb.trans (b3.mono hb.size)
  clear b3 h1
  go_wp2_with (with_reducible refine alArr (z := pcs p0) Try.ag_i3 (wn rfl) rfl ?_)
  intro w4 h4 b4
  go_wp2_with (with_reducible refine alArr (z := pcs p0) Try.ag_i3 (wn rfl) rfl ?_)
  intro w5 h5 b5
  have l4 := h4.lt
  have s4 := b4.size
  have ls3 := hb.size
  replace h2 := (h2.below b4 l2).below b5 (Nat.lt_of_lt_of_le l2 b4.size)
  replace h4 := h4.below b5 l4
  replace hb := (hb.trans (b4.mono ls3)).trans (b5.mono (Nat.le_trans ls3 s4))
  clear b4 b5
  generalize w3.heap.size = g4 at *
  generalize w4.heap.size = g5 at *
  go_wp2_with (with_reducible refine stArrG (cs := pcs f) (.tmp 4) (.tmp 11) Try.ag_i3 (wn rfl) rfl rfl (by kernel_rfl) h4 rfl rfl (pcs_one _) ?_)
  intro w6 h4 k6
  replace h2 := h2.grown k6 (fun e => by injection e with e; omega)
  replace h5 := h5.grown k6 (fun e => by injection e with e; omega)
  replace hb := hb.grown k6 hb.size (fun k e => by cases e; omega)
  go_wp2_with (with_reducible refine stArrG (cs := pcs l) (.tmp 5) (.tmp 12) Try.ag_i3 (wn rfl) rfl rfl (by kernel_rfl) h5 rfl rfl (pcs_one _) ?_)
  intro w7 h5 k7
  replace h2 := h2.grown k7 (fun e => by injection e with e; omega)
  replace h4 := h4.grown k7 (fun e => by injection e with e; omega)
  replace hb := hb.grown k7 hb.size (fun k e => by cases e; omega)
  clear k6 k7
  have n2 : w.heap.size ≤ g2 := ls
  have l5 := h5.lt
  by_cases hok : b.ok
  · obtain ⟨rfl, rfl⟩ := hfl hok
    have HR := Lib.hid (mCubes_ok hok)
    have HLE := Lib.hid (cubesL_le b 14 p0 [] (by decide))
    rw [decide_eq_true hok]
    go_wp2_with (with_reducible refine alScG (v := .nilFunc) (by kernel_rfl) (wn rfl) rfl ?_)
    intro w8 h7 b8
    replace h2 := h2.below b8 h2.lt
    replace h4 := h4.below b8 h4.lt
    replace h5 := h5.below b8 h5.lt
    replace hb := hb.trans (b8.mono hb.size)
    clear b8
    have l45 : g4 < w7.heap.size := by omega
    generalize w7.heap.size = g7 at *
    go_wp2_with (with_reducible refine stCellG (i := 0) (v := .func (.func 42) #[] (capsV g4 g5 g2 g7).toArray) (.tmp 7) (.tmp 16) (by kernel_rfl) (wn rfl) rfl rfl rfl h7 rfl rfl rfl ?_)
    intro w9 h7 k9
    replace h2 := h2.grown k9 (fun e => by injection e with e; omega)
    replace h4 := h4.grown k9 (fun e => by injection e with e; omega)
    replace h5 := h5.grown k9 (fun e => by injection e with e; omega)
    replace hb := hb.grown k9 hb.size (fun k e => by cases e; omega)
    have hC : Caps b g4 g5 g2 g7 (.slice none 0 0) w9 := ⟨h4, h5, h2, h7, by omega, by omega, by omega, (fun e => by cases e), (fun e => by cases e), (fun e => by cases e), (fun e => by cases e)⟩
    have hD := div_rec b 14 (by omega) p0 g4 g5 g2 g7 w w9 w.heap.size (.slice none 0 0) [] al_top (by decide) (Nat.le_refl _) n2 hC (World.ownsRow_nil _ _ _ _) hb
    have hc7 := h7.cell (i := 0) rfl
    go_wp2_with fail
    refine hD.mono ?_
    rintro e w10 ⟨v', rfl, C, own, b10, -, -, -⟩
    obtain ⟨A, c, rfl, -⟩ := Rd.of_own own
    have hO := C.o
    have hvo := C.vo
    clear hD hC hc7 h2 h4 h5 h7 C
    by_cases hlen : 4096 < (cubesL b 14 p0 []).length
    · have HR2 := Lib.hid (show mCubes b = ([], 2) by rw [HR.out, if_pos hlen])
      clear HR
      generalize cubesL b 14 p0 [] = L at *
      have hc := hO.cell (i := 0) rfl
      go_wp2_with (with_reducible refine stCellG (i := 0) (v := .slice none 0 0) (.tmp 2) (.const (.slice none 0 0)) (by kernel_rfl) (wn rfl) rfl rfl rfl hO rfl rfl rfl ?_)
      intro w11 h2 k11
      replace b10 := b10.grown k11 b10.size (fun k e => by cases e; omega)
      go_wp2_with fail
      refine bodyPost_ret (res_scslot (u := .slice none 0 0) (v := .int .i64 2) Try.results22 (by kernel_rfl) _ rfl rfl h2) rfl ?_
      exact ⟨.slice none 0 0, by rw [HR2.out], by rw [HR2.out]; exact World.ownsRow_nil _ _ _ _, b10⟩
    · have HR2 := Lib.hid (show mCubes b = (cubesL b 14 p0 [], 0) by rw [HR.out, if_neg hlen])
      clear HR
      generalize cubesL b 14 p0 [] = L at *
      have hc := hO.cell (i := 0) rfl
      go_wp2_with (with_reducible refine stCellG (i := 0) (v := .slice A L.length c) (.tmp 2) (.tmp 23) (by kernel_rfl) (wn rfl) rfl rfl rfl hO rfl rfl rfl ?_)
      intro w11 h2 k11
      replace own := own.kept k11 (Or.inr (Ne.symm hvo))
      replace b10 := b10.grown k11 b10.size (fun k e => by cases e; omega)
      go_wp2_with fail
      refine bodyPost_ret (res_scslot (u := .slice A L.length c) (v := .int .i64 0) Try.results22 (by kernel_rfl) _ rfl rfl h2) rfl ?_
      exact ⟨.slice A L.length c, by rw [HR2.out], by rw [HR2.out]; exact own, b10⟩
  · have HR := Lib.hid (mCubes_no hok)
    rw [decide_eq_false hok]
    go_wp2_with (with_reducible refine stCellG (i := 0) (v := .slice none 0 0) (.tmp 2) (.const (.slice none 0 0)) (by kernel_rfl) (wn rfl) rfl rfl rfl h2 rfl rfl rfl ?_)
    intro w8 h2 k8
    replace hb := hb.grown k8 hb.size (fun k e => by cases e; omega)
    go_wp2_with fail
    refine bodyPost_ret (res_scslot (u := .slice none 0 0) (v := .int .i64 0) Try.results22 (by kernel_rfl) _ rfl rfl h2) rfl ?_
    exact ⟨.slice none 0 0, by rw [HR.out], by rw [HR.out]; exact World.ownsRow_nil _ _ _ _, hb⟩
end Go.Proofs.Ytkfijpghjjnpkaa
/-
  The runs of cubes as a plain function; a cell of a row of the call's own is set. No statement is proved here.
-/
namespace Go.Proofs.Ytkfijpghjjnpkaa
open Go.RowKit
theorem own_upd {w : World} {base size n g : Nat} {e : TypeId} {off c : Nat} {xs : List Value} (h : w.ownsRow base e size (.slice (some ⟨g, off, none⟩) n c) n xs) {j : Nat} (hj : j < n * size) (u : Value) :
    off = 0 ∧ ∃ cur, Arr w g e cur ∧ cur[j]? = xs[j]? ∧ ∀ w', Arr w' g e (cur.set j u) → w'.ownsRow base e size (.slice (some ⟨g, off, none⟩) n c) n (xs.set j u) := by
  obtain ⟨hl, h2⟩ := h
  rcases h2 with ⟨h3, _⟩ | ⟨g', cap, cur, hv, hb, hg, hnc, hcm, hcs, htake⟩
  · cases h3
  · injection hv with e1 e2 e3
    injection e1 with e1
    injection e1 with e1 e4 _
    subst e1
    subst e4
    subst e3
    refine ⟨rfl, cur.toList, hg, ?_, fun w' hA => ?_⟩
    · rw [← htake, List.getElem?_take, if_pos hj]
    · refine ⟨by rw [List.length_set]; exact hl, Or.inr ⟨g, c, (cur.toList.set j u).toArray, rfl, hb, hA, hnc, hcm, by simp [hcs], ?_⟩⟩
      rw [← htake, List.take_set]
structure Run where
  first : Int
  last : Int
deriving DecidableEq
def rcs (r : Run) : List Value := [.int .i64 r.first, .int .i64 r.last]
def rus (l : List Run) : List Value := l.flatMap rcs
/-- The last run ends at t. -/
def setLast (t : Int) : List Run → List Run
  | [] => []
  | [r] => [⟨r.first, t⟩]
  | r :: s :: l => r :: setLast t (s :: l)
def lastOf : List Run → Int
  | [] => -2
  | [r] => r.last
  | _ :: s :: l => lastOf (s :: l)
theorem rus_length : ∀ l : List Run, (rus l).length = l.length * 2
  | [] => rfl
  | r :: l => by
    have h := rus_length l
    show (rcs r ++ rus l).length = _
    rw [List.length_append, h, List.length_cons]
    show 2 + _ = _
    omega
theorem rus_append (a b : List Run) : rus (a ++ b) = rus a ++ rus b := by unfold rus; rw [List.flatMap_append]
theorem rus_one (r : Run) : rus [r] = rcs r := by simp [rus]
theorem rus_last : ∀ (l : List Run), l ≠ [] → (rus l)[(l.length - 1) * 2 + 1]? = some (.int .i64 (lastOf l))
  | [], h => absurd rfl h
  | [r], _ => rfl
  | r :: s :: l, _ => by
    have h := rus_last (s :: l) (by simp)
    show (rcs r ++ rus (s :: l))[_]? = _
    rw [List.getElem?_append_right (by show 2 ≤ _; simp; omega)]
    rw [show ((r :: s :: l).length - 1) * 2 + 1 - (rcs r).length = ((s :: l).length - 1) * 2 + 1 by show _ - 2 = _; simp; omega, h]
    rfl
theorem setLast_length (t : Int) : ∀ l : List Run, (setLast t l).length = l.length
  | [] => rfl
  | [_] => rfl
  | r :: s :: l => by
    show (setLast t (s :: l)).length + 1 = _
    rw [setLast_length t (s :: l)]
    rfl
theorem rus_setLast (t : Int) : ∀ (l : List Run), l ≠ [] → (rus l).set ((l.length - 1) * 2 + 1) (.int .i64 t) = rus (setLast t l)
  | [], h => absurd rfl h
  | [r], _ => rfl
  | r :: s :: l, _ => by
    have h := rus_setLast t (s :: l) (by simp)
    show (rcs r ++ rus (s :: l)).set _ _ = rcs r ++ rus (setLast t (s :: l))
    rw [List.set_append_right _ _ (by show 2 ≤ _; simp; omega)]
    rw [show ((r :: s :: l).length - 1) * 2 + 1 - (rcs r).length = ((s :: l).length - 1) * 2 + 1 by show _ - 2 = _; simp; omega, h]
/-- One more cube. -/
def runAdd (out : List Run) (f t : Int) : List Run := if out ≠ [] ∧ lastOf out + 1 = f then setLast t out else out ++ [⟨f, t⟩]
def cubeLast (c : Cube) : Int := mEnc c.at_ + ((8 ^ c.lvl.toNat : Nat) : Int) - 1
def runsOf (l : List Cube) : List Run := l.foldl (fun out c => runAdd out (mEnc c.at_) (cubeLast c)) []
end Go.Proofs.Ytkfijpghjjnpkaa
/-
  What every cube of a box is. No program in sight.
-/
namespace Go.Proofs.Ytkfijpghjjnpkaa
open Go.RowKit
theorem foldTo_all {α β : Type} (M : β → Prop) (mem : β → α → Prop) (f : Nat → α → α) (h : ∀ i, i < 8 → ∀ o, (∀ x, mem x o → M x) → ∀ x, mem x (f i o) → M x) : ∀ n, n ≤ 8 → ∀ o, (∀ x, mem x o → M x) → ∀ x, mem x (foldTo f n o) → M x
  | 0, _, _, ho => ho
  | n + 1, hn, o, ho => h n (by omega) _ (foldTo_all M mem f h n (by omega) o ho)
theorem cubesL_all {b : Bx} (M : Cube → Prop) (hM : ∀ (l : Nat) (p : Pt), l ≤ 14 → p.al l → b.whole p l → M ⟨p, (l : Int)⟩) : ∀ (l : Nat), l ≤ 14 → ∀ (p : Pt) (out : List Cube), p.al l → (∀ x, x ∈ out → M x) → ∀ x, x ∈ cubesL b l p out → M x
  | l, hl, p, out, hp, ho => by
    by_cases h1 : b.apart p (p.far l) ∨ 4096 < out.length
    · rw [cubesL_out h1]
      exact ho
    · by_cases h2 : b.whole p l
      · rw [cubesL_in h1 h2]
        intro x hx
        rw [List.mem_append, List.mem_singleton] at hx
        rcases hx with hx | rfl
        · exact ho x hx
        · exact hM l p hl hp h2
      · cases l with
        | zero => exact absurd (whole_zero hp.1 (fun h => h1 (Or.inl h))) h2
        | succ m =>
          rw [cubesL_div h1 h2]
          exact foldTo_all M (fun x o => x ∈ o) _ (fun i hi o ho' => cubesL_all M hM m (by omega) _ o (al_child hp (by omega) hi) ho') 8 (by omega) out ho
/-- A cube of the world, at its place. -/
def Cube.ok (c : Cube) : Prop := ∃ m : Nat, m ≤ 14 ∧ c.lvl = (m : Int) ∧ c.at_.al m
theorem mCubes_all {b : Bx} (x : Cube) (hx : x ∈ (mCubes b).1) : x.ok := by
  unfold mCubes at hx
  split at hx
  · split at hx
    · cases hx
    · exact cubesL_all Cube.ok (fun l p hl hp _ => ⟨l, hl, rfl, hp⟩) 14 (by omega) p0 [] al_top (fun y hy => by cases hy) x hx
  · cases hx
end Go.Proofs.Ytkfijpghjjnpkaa
/-
  Runs. No statement is proved here.
-/
namespace Go.Proofs.Ytkfijpghjjnpkaa
open Go.RowKit
set_option linter.unusedVariables false
set_option linter.unusedSimpArgs false

def r0 : Run := ⟨0, 0⟩
theorem rcs_one (r : Run) : ∀ u ∈ rcs r, u.oneCell' = true := by
  intro u hu
  unfold rcs at hu
  simp only [List.mem_cons, List.not_mem_nil, or_false] at hu
  rcases hu with rfl | rfl <;> rfl
theorem Try.ag_ru : AgTy Try.prog 54 (rcs r0).toArray 2 := ⟨by kernel_rfl, by kernel_rfl, by kernel_rfl⟩
theorem Try.sl_ru : SlTy Try.prog 42 54 (.agg (rcs r0).toArray) 2 16 := ⟨by kernel_rfl, by kernel_rfl, by rfl, by decide⟩
def mRuns (b : Bx) : List Run × Int := (runsOf (mCubes b).1, (mCubes b).2)
theorem runsOf_succ (l : List Cube) (k : Nat) (c : Cube) (h : l[k]? = some c) : runsOf (l.take (k + 1)) = runAdd (runsOf (l.take k)) (mEnc c.at_) (cubeLast c) := by
  unfold runsOf
  rw [List.take_add_one, h, List.foldl_append]
  rfl
theorem runsOf_len (l : List Cube) : (runsOf l).length ≤ l.length := by
  unfold runsOf
  have key : ∀ (l : List Cube) (o : List Run), (l.foldl (fun out c => runAdd out (mEnc c.at_) (cubeLast c)) o).length ≤ o.length + l.length := by
    intro l
    induction l with
    | nil => intro o; exact Nat.le_refl _
    | cons c l ih =>
      intro o
      have h := ih (runAdd o (mEnc c.at_) (cubeLast c))
      have h2 : (runAdd o (mEnc c.at_) (cubeLast c)).length ≤ o.length + 1 := by
        unfold runAdd
        split
        · rw [setLast_length]; omega
        · rw [List.length_append]; exact Nat.le_refl _
      rw [List.foldl_cons, List.length_cons]
      omega
  have h := key l []
  simpa using h
theorem lastOf_mem : ∀ l : List Run, l ≠ [] → ∃ r ∈ l, lastOf l = r.last
  | [], h => absurd rfl h
  | [r], _ => ⟨r, by simp, rfl⟩
  | r :: s :: l, _ => by
    obtain ⟨x, hx, e⟩ := lastOf_mem (s :: l) (by simp)
    exact ⟨x, List.mem_cons_of_mem _ hx, e⟩
theorem setLast_all {M : Int → Prop} {t : Int} (ht : M t) : ∀ l : List Run, (∀ r ∈ l, M r.last) → ∀ r ∈ setLast t l, M r.last
  | [], _, _, h => by cases h
  | [_], _, r, h => by
    simp only [setLast, List.mem_cons, List.not_mem_nil, or_false] at h
    subst h
    exact ht
  | x :: y :: l, hl, r, h => by
    simp only [setLast, List.mem_cons] at h
    rcases h with rfl | h
    · exact hl _ (by simp)
    · exact setLast_all ht (y :: l) (fun z hz => hl z (List.mem_cons_of_mem _ hz)) r h
theorem runsOf_last {M : Int → Prop} (l : List Cube) (hM : ∀ c ∈ l, M (cubeLast c)) : ∀ r ∈ runsOf l, M r.last := by
  unfold runsOf
  have key : ∀ (l : List Cube) (o : List Run), (∀ c ∈ l, M (cubeLast c)) → (∀ r ∈ o, M r.last) → ∀ r ∈ l.foldl (fun out c => runAdd out (mEnc c.at_) (cubeLast c)) o, M r.last := by
    intro l
    induction l with
    | nil => intro o _ ho; exact ho
    | cons c l ih =>
      intro o hl ho
      refine ih _ (fun c hc => hl c (List.mem_cons_of_mem _ hc)) ?_
      show ∀ r ∈ runAdd o (mEnc c.at_) (cubeLast c), M r.last
      unfold runAdd
      split
      · exact setLast_all (hl c (by simp)) o ho
      · intro r hr
        rw [List.mem_append, List.mem_singleton] at hr
        rcases hr with hr | rfl
        · exact ho r hr
        · exact hl c (by simp)
  exact key l [] hM (fun r hr => by cases hr)
theorem cubeLast_in {c : Cube} (h : c.ok) : 0 ≤ cubeLast c ∧ cubeLast c ≤ 8796093022208 := by
  obtain ⟨m, hm, hlv, hal⟩ := h
  have hf := mEnc_in hal.1
  have h3m : 2 ^ (3 * m) ≤ 4398046511104 := Nat.pow_le_pow_right (n := 2) (by decide) (by omega : 3 * m ≤ 42)
  have h1m : 0 < 2 ^ (3 * m) := Nat.pow_pos (by decide)
  unfold cubeLast
  rw [hlv, Int.toNat_natCast, show 8 ^ m = 2 ^ (3 * m) by rw [Nat.pow_mul]]
  generalize 2 ^ (3 * m) = z at *
  omega
theorem cus_at : ∀ (l : List Cube) (k : Nat) (c : Cube), l[k]? = some c → ∀ j u, (ccs c)[j]? = some u → (cus l)[k * 4 + j]? = some u
  | [], k, c, h, _, _, _ => by simp at h
  | d :: l, 0, c, h, j, u, hj => by
    simp only [List.getElem?_cons_zero, Option.some.injEq] at h
    subst h
    have hl := (List.getElem?_eq_some_iff.1 hj).1
    show (ccs d ++ cus l)[_]? = _
    rw [Nat.zero_mul, Nat.zero_add, List.getElem?_append_left hl]
    exact hj
  | d :: l, k + 1, c, h, j, u, hj => by
    have ih := cus_at l k c (by simpa using h) j u hj
    show (ccs d ++ cus l)[_]? = _
    rw [List.getElem?_append_right (by show 4 ≤ _; omega), show (k + 1) * 4 + j - (ccs d).length = k * 4 + j by show _ - 4 = _; omega]
    exact ih

set_option maxRecDepth 100000 in
set_option maxHeartbeats 4000000 in
theorem runs_any (b : Bx) (w : World) : Calls Try.prog 24 #[.agg (bxs b).toArray] w (RetLE w 54 2 (mRuns b).1.length (rus (mRuns b).1) (mRuns b).2) := by
  have HCB := Lib.hid (cubes_any b)
  have HGD := Lib.hid (mCubes_all (b := b))
  have HLE := Lib.hid (show (mCubes b).1.length ≤ 4097 by
    unfold mCubes
    split
    · split
      · exact Nat.zero_le _
      · exact cubesL_le b 14 p0 [] (by decide)
    · exact Nat.zero_le _)
  have HLB := Lib.hid (fun (k : Nat) (hne : runsOf ((mCubes b).1.take k) ≠ []) => show 0 ≤ lastOf (runsOf ((mCubes b).1.take k)) ∧ lastOf (runsOf ((mCubes b).1.take k)) ≤ 8796093022208 by
    obtain ⟨r, hr, e⟩ := lastOf_mem _ hne
    rw [e]
    exact runsOf_last (M := fun t => 0 ≤ t ∧ t ≤ 8796093022208) _ (fun c hc => cubeLast_in (mCubes_all c (List.mem_of_mem_take hc))) r hr)
  have HR : Hid (mRuns b = (runsOf (mCubes b).1, (mCubes b).2)) := Lib.hid rfl
  generalize (mCubes b).2 = err at *
  generalize (mCubes b).1 = L at *
  go_enter Try.func24, Try.ntmps24
  go_wp2_with (with_reducible refine bxArr (cs := bxs b) (.tmp 0) (wn rfl) rfl rfl ?_)
  intro w1 h1 b1
  go_wp2_with (with_reducible refine ldArr (.tmp 1) Try.ag_bx (wn rfl) rfl rfl rfl h1 ?_)
  refine (HCB.out _).mono ?_
  rintro e w2 ⟨v, rfl, own, b2⟩
  obtain ⟨A, c, rfl, hrd⟩ := Rd.of_own own
  have hb := b1.trans (b2.mono b1.size)
  clear h1 b1 b2 own
  go_wp2_with fail
  go_loopw [2, 16] (fun uu kk wr => ∃ (k : Nat) (u : Value), u = uu ∧ k ≤ L.length ∧ kk = .int .i64 (k : Int) ∧ wr.ownsRow w2.heap.size 54 2 u (runsOf (L.take k)).length (rus (runsOf (L.take k))) ∧ Below w2.heap.size w2 wr) (fun _ kk _ => L.length - (intOf kk).toNat)
  case atStart => exact ⟨0, _, rfl, by omega, rfl, World.ownsRow_nil _ _ _ _, Below.refl _ _⟩
  case round =>
    obtain ⟨k, u, rfl, hk, rfl, hown, hB⟩ := hrel
    by_cases hlt : k < L.length
    · obtain ⟨C, hC⟩ : ∃ C, L[k]? = some C := ⟨L[k], List.getElem?_eq_getElem hlt⟩
      have HS := Lib.hid (runsOf_succ L k C hC)
      obtain ⟨m, hm, hlv, hal⟩ := HGD.out C (List.mem_of_getElem? hC)
      have hrl := runsOf_len (L.take k)
      rw [List.length_take] at hrl
      have hle := HLE.out
      obtain ⟨b0, off, rfl, hlt0, hcells⟩ := (hrd.below hB).cells (by omega)
      have HCC := Lib.hid (show ∀ j x, (ccs C)[j]? = some x → wr.cell? ⟨b0, off + k * 4 + j, none⟩ = some x from fun j x hj => by
        rw [Nat.add_assoc]
        exact hcells _ _ (cus_at L k C hC j x hj))
      have hb0 : b0 < w2.heap.size := hlt0
      clear hcells
      have HLB' := HLB.out k
      generalize runsOf (L.take k) = out at *
      have hown0 := hown
      go_wp2_with (first | (with_reducible refine iaRow (.tmp 14) (.tmp 16) k Try.sl_cu (wn rfl) rfl rfl rfl rfl hlt ?_) | (with_reducible refine ldAgg (.tmp 18) (ccs C) Try.ag_cu (wn rfl) rfl rfl rfl HCC.out ?_) | (with_reducible refine alArr (z := ccs c0) Try.ag_cu (wn rfl) rfl ?_))
      intro w3 h6 b3
      have hs2 := hB.size
      replace hown := ownsRow_below hown b3 (Nat.le_refl _)
      have hw2 : w2.heap.size ≤ wr.heap.size := hs2
      replace hB := hB.trans (b3.mono hs2)
      have l6 := h6.lt
      have hvo : some wr.heap.size ≠ u.ownBlock := by
        intro e
        have := (hown0.lt wr.heap.size e.symm).2
        omega
      clear b3
      generalize wr.heap.size = g6 at *
      go_wp2_with (with_reducible refine stArrG (cs := ccs C) (.tmp 6) (.tmp 19) Try.ag_cu (wn rfl) rfl rfl (by kernel_rfl) h6 rfl rfl (ccs_one _) ?_)
      intro w4 h6 k4
      replace hown := hown.kept k4 (Or.inr (Ne.symm hvo))
      replace hB := hB.grown k4 hB.size (fun k e => by cases e; exact hw2)
      replace l6 := h6.lt
      clear k4
      go_wp2_with (with_reducible refine ldAgg (.tmp 20) (pcs C.at_) Try.ag_pt (wn rfl) rfl rfl rfl (fun j x hj => h6.cell (ccs_at C hj)) ?_)
      refine (encode_any C.at_ _).mono ?_
      rintro e w5 ⟨rfl, b5⟩
      replace h6 := h6.below b5 l6
      replace hown := ownsRow_below hown b5 (Nat.le_refl _)
      replace hB := hB.trans (b5.mono hB.size)
      replace l6 := h6.lt
      clear b5
      go_wp2_with (with_reducible refine alArr (z := rcs r0) Try.ag_ru (wn rfl) rfl ?_)
      intro w6 h7 b6
      have hv7 : some w5.heap.size ≠ u.ownBlock := by
        intro e
        have := (hown.lt w5.heap.size e.symm).2
        omega
      replace h6 := h6.below b6 l6
      replace hown := ownsRow_below hown b6 (Nat.le_refl _)
      replace hB := hB.trans (b6.mono hB.size)
      have hw7 : w2.heap.size ≤ w5.heap.size := by omega
      clear b6
      generalize w5.heap.size = g7 at *
      have hf := mEnc_in hal.1
      have HCLS := Lib.hid (show cubeLast C = mEnc C.at_ + ((1 * 2 ^ (3 * m) : Nat) : Int) - 1 by
        unfold cubeLast
        rw [hlv, Int.toNat_natCast, Nat.one_mul, Nat.pow_mul])
      have h3m : 1 * 2 ^ (3 * m) ≤ 4398046511104 := by
        rw [Nat.one_mul]
        exact Nat.pow_le_pow_right (n := 2) (by decide) (by omega : 3 * m ≤ 42)
      rw [HCLS.out] at HS
      clear HCLS
      generalize mEnc C.at_ = f at *
      go_wp2_with (with_reducible refine stArrG (cs := rcs ⟨f, 0⟩) (.tmp 7) (.tmp 23) Try.ag_ru (wn rfl) rfl rfl (by kernel_rfl) h7 rfl rfl (rcs_one _) ?_)
      intro w7 h7 k7
      replace h6 := h6.grown k7 (fun e => by injection e with e; omega)
      replace hown := hown.kept k7 (Or.inr (Ne.symm hv7))
      replace hB := hB.grown k7 hB.size (fun k e => by cases e; omega)
      clear k7
      go_wp2_with fail
      replace h6 := h6.drew
      replace h7 := h7.drew
      replace hB := hB.drew
      replace hown := ownsRow_below hown (drewB w7) (Nat.le_refl _)
      refine lgStart (fun w' => Arr w' g6 27 (ccs C) ∧ Arr w' g7 54 (rcs ⟨f, 0⟩)) 9 (by kernel_rfl) ?_
      have hq : (fun w' : World => Arr w' g6 27 (ccs C) ∧ Arr w' g7 54 (rcs ⟨f, 0⟩)) _ := ⟨h6, h7⟩
      clear h6 h7
      generalize World.drew _ = wd at *
      refine lgTake [0, 1, 2, 3, 4, 5, 6, 7, 8] (S := fun w' => Arr w' g6 27 (ccs C) ∧ Arr w' g7 54 (rcs ⟨f, 0⟩)) (i := 0) (v := .pointer (some ⟨g7, 0, none⟩)) rfl (by kernel_rfl) (by kernel_rfl) (fun _ _ _ h => h) (fun w _ => by kernel_rfl) hq ?_
      refine lgTake [0, 1, 2, 3, 4, 5, 6, 7, 8] (S := fun w' => Arr w' g6 27 (ccs C) ∧ Arr w' g7 54 (rcs ⟨f, 0⟩)) (i := 1) (v := .int .i64 f) rfl (by kernel_rfl) (by kernel_rfl) (fun _ _ _ h => h) (fun w h => ldRun (.tmp 24) (by kernel_rfl) rfl (by kernel_rfl) (h.2.cell (i := 0) rfl)) hq ?_
      refine lgTake [0, 1, 2, 3, 4, 5, 6, 7, 8] (S := fun w' => Arr w' g6 27 (ccs C) ∧ Arr w' g7 54 (rcs ⟨f, 0⟩)) (i := 2) (v := .pointer (some ⟨g6, 3, none⟩)) rfl (by kernel_rfl) (by kernel_rfl) (fun _ _ _ h => h) (fun w _ => by kernel_rfl) hq ?_
      refine lgTake [0, 1, 2, 3, 4, 5, 6, 7, 8] (S := fun w' => Arr w' g6 27 (ccs C) ∧ Arr w' g7 54 (rcs ⟨f, 0⟩)) (i := 3) (v := .int .i64 (m : Int)) rfl (by kernel_rfl) (by kernel_rfl) (fun _ _ _ h => h) (fun w h => ldRun (.tmp 26) (by kernel_rfl) rfl (by kernel_rfl) (h.1.cell (i := 3) (by rw [← hlv]; rfl))) hq ?_
      try simp only [Act.put, List.setIfInBounds_toArray, List.set_cons_succ, List.set_cons_zero]
      refine lgTake [0, 1, 2, 3, 4, 5, 6, 7, 8] (S := fun w' => Arr w' g6 27 (ccs C) ∧ Arr w' g7 54 (rcs ⟨f, 0⟩)) (i := 4) (v := .int .i64 ((3 * m : Nat) : Int)) rfl (by kernel_rfl) (by kernel_rfl) (fun _ _ _ h => h) (fun w _ => mulRun (A := 3) (B := (m : Int)) (.const (.int .i64 3)) (.tmp 27) rfl rfl (by kernel_rfl) (by simp) (by omega)) hq ?_
      refine lgTake [0, 1, 2, 3, 4, 5, 6, 7, 8] (S := fun w' => Arr w' g6 27 (ccs C) ∧ Arr w' g7 54 (rcs ⟨f, 0⟩)) (i := 5) (v := .int .i64 ((1 * 2 ^ (3 * m) : Nat) : Int)) rfl (by kernel_rfl) (by kernel_rfl) (fun _ _ _ h => h) (fun w _ => shlNat (m := 1) (n := 3 * m) (.const (.int .i64 1)) (.tmp 28) rfl rfl (by kernel_rfl) (by omega) (by omega)) hq ?_
      try simp only [Act.put, List.setIfInBounds_toArray, List.set_cons_succ, List.set_cons_zero]
      refine lgTake [0, 1, 2, 3, 4, 5, 6, 7, 8] (S := fun w' => Arr w' g6 27 (ccs C) ∧ Arr w' g7 54 (rcs ⟨f, 0⟩)) (i := 6) (v := .int .i64 (f + ((1 * 2 ^ (3 * m) : Nat) : Int))) rfl (by kernel_rfl) (by kernel_rfl) (fun _ _ _ h => h) (fun w _ => addRun (A := f) (B := ((1 * 2 ^ (3 * m) : Nat) : Int)) (.tmp 25) (.tmp 29) rfl (by kernel_rfl) (by kernel_rfl) rfl (by omega)) hq ?_
      refine lgTake [0, 1, 2, 3, 4, 5, 6, 7, 8] (S := fun w' => Arr w' g6 27 (ccs C) ∧ Arr w' g7 54 (rcs ⟨f, 0⟩)) (i := 7) (v := .int .i64 (f + ((1 * 2 ^ (3 * m) : Nat) : Int) - 1)) rfl (by kernel_rfl) (by kernel_rfl) (fun _ _ _ h => h) (fun w _ => subRun (A := f + ((1 * 2 ^ (3 * m) : Nat) : Int)) (B := 1) (.tmp 30) (.const (.int .i64 1)) rfl (by kernel_rfl) rfl rfl (by omega)) hq ?_
      refine lgTake [0, 1, 2, 3, 4, 5, 6, 7, 8] (S := fun w' => Arr w' g6 27 (ccs C) ∧ Arr w' g7 54 (rcs ⟨f, 0⟩)) (i := 8) (v := .pointer (some ⟨g7, 1, none⟩)) rfl (by kernel_rfl) (by kernel_rfl) (fun _ _ _ h => h) (fun w _ => by kernel_rfl) hq ?_
      try simp only [Act.put, List.setIfInBounds_toArray, List.set_cons_succ, List.set_cons_zero]
      refine lgNext (S := fun w' => Arr w' g6 27 (ccs C) ∧ Arr w' g7 54 (rcs ⟨f, 0⟩)) (i := 9) (by kernel_rfl) rfl (by kernel_rfl) ?_
      refine stCellG (i := 1) (v := .int .i64 (f + ((1 * 2 ^ (3 * m) : Nat) : Int) - 1)) (.tmp 32) (.tmp 31) (by kernel_rfl) (by kernel_rfl) rfl (by kernel_rfl) (by kernel_rfl) hq.2 rfl rfl rfl ?_
      intro w8 h7 k8
      replace h6 := hq.1.grown k8 (fun e => by injection e with e; omega)
      replace hown := hown.kept k8 (Or.inr (Ne.symm hv7))
      replace hB := hB.grown k8 hB.size (fun k e => by cases e; omega)
      clear k8
      refine lgDone (by kernel_rfl) ?_
      try simp only [Act.put, List.setIfInBounds_toArray, List.set_cons_succ, List.set_cons_zero]
      replace h7 : Arr w8 g7 54 (rcs ⟨f, f + ((1 * 2 ^ (3 * m) : Nat) : Int) - 1⟩) := h7
      generalize f + ((1 * 2 ^ (3 * m) : Nat) : Int) - 1 = t at *
      obtain ⟨A', c', rfl, hrd'⟩ := Rd.of_own hown
      go_wp2_with fail
      replace h6 := h6.drew
      replace h7 := h7.drew
      replace hB := hB.drew
      replace hown := ownsRow_below hown (drewB w8) (Nat.le_refl _)
      replace hrd' := hrd'.drew
      by_cases hne : out = []
      · have hz : decide ((0 : Int) < (out.length : Int)) = false := by rw [hne]; rfl
        rw [show runAdd out f t = out ++ [⟨f, t⟩] by unfold runAdd; rw [if_neg (fun h => h.1 hne)]] at HS
        clear hne
        refine rgStart (fun w' => Arr w' g6 27 (ccs C) ∧ Arr w' g7 54 (rcs ⟨f, t⟩)) (by kernel_rfl) ?_
        have hq : (fun w' : World => Arr w' g6 27 (ccs C) ∧ Arr w' g7 54 (rcs ⟨f, t⟩)) _ := ⟨h6, h7⟩
        clear h6 h7
        generalize World.drew _ = wd at *
        refine rgTake (S := fun w' => Arr w' g6 27 (ccs C) ∧ Arr w' g7 54 (rcs ⟨f, t⟩)) (i := 0) (v := .int .i64 (out.length : Int)) rfl (by kernel_rfl) (by kernel_rfl) (fun _ _ _ h => h) (fun w _ => by kernel_rfl) hq ?_
        refine rgTake (S := fun w' => Arr w' g6 27 (ccs C) ∧ Arr w' g7 54 (rcs ⟨f, t⟩)) (i := 1) (v := .bool false) rfl (by kernel_rfl) (by kernel_rfl) (fun _ _ _ h => h) (fun w _ => (gtrRun (.tmp 35) (.const (.int .i64 0)) rfl (by kernel_rfl) rfl).trans (by rw [hz])) hq ?_
        refine rgTake (S := fun w' => Arr w' g6 27 (ccs C) ∧ Arr w' g7 54 (rcs ⟨f, t⟩)) (i := 2) (v := .bool false) rfl (by kernel_rfl) (by kernel_rfl) (fun _ _ _ h => h) (fun w _ => by kernel_rfl) hq ?_
        refine rgSkip (S := fun w' => Arr w' g6 27 (ccs C) ∧ Arr w' g7 54 (rcs ⟨f, t⟩)) (i := 3) rfl (by kernel_rfl) (by kernel_rfl) (fun _ _ _ h => h) hq ?_
        refine rgSkip (S := fun w' => Arr w' g6 27 (ccs C) ∧ Arr w' g7 54 (rcs ⟨f, t⟩)) (i := 4) rfl (by kernel_rfl) (by kernel_rfl) (fun _ _ _ h => h) hq ?_
        refine rgSkip (S := fun w' => Arr w' g6 27 (ccs C) ∧ Arr w' g7 54 (rcs ⟨f, t⟩)) (i := 5) rfl (by kernel_rfl) (by kernel_rfl) (fun _ _ _ h => h) hq ?_
        refine rgSkip (S := fun w' => Arr w' g6 27 (ccs C) ∧ Arr w' g7 54 (rcs ⟨f, t⟩)) (i := 6) rfl (by kernel_rfl) (by kernel_rfl) (fun _ _ _ h => h) hq ?_
        refine rgSkip (S := fun w' => Arr w' g6 27 (ccs C) ∧ Arr w' g7 54 (rcs ⟨f, t⟩)) (i := 7) rfl (by kernel_rfl) (by kernel_rfl) (fun _ _ _ h => h) hq ?_
        refine rgSkip (S := fun w' => Arr w' g6 27 (ccs C) ∧ Arr w' g7 54 (rcs ⟨f, t⟩)) (i := 8) rfl (by kernel_rfl) (by kernel_rfl) (fun _ _ _ h => h) hq ?_
        refine rgSkip (S := fun w' => Arr w' g6 27 (ccs C) ∧ Arr w' g7 54 (rcs ⟨f, t⟩)) (i := 9) rfl (by kernel_rfl) (by kernel_rfl) (fun _ _ _ h => h) hq ?_
        refine rgSkip (S := fun w' => Arr w' g6 27 (ccs C) ∧ Arr w' g7 54 (rcs ⟨f, t⟩)) (i := 10) rfl (by kernel_rfl) (by kernel_rfl) (fun _ _ _ h => h) hq ?_
        refine rgSkip (S := fun w' => Arr w' g6 27 (ccs C) ∧ Arr w' g7 54 (rcs ⟨f, t⟩)) (i := 11) rfl (by kernel_rfl) (by kernel_rfl) (fun _ _ _ h => h) hq ?_
        refine rgSkip (S := fun w' => Arr w' g6 27 (ccs C) ∧ Arr w' g7 54 (rcs ⟨f, t⟩)) (i := 12) rfl (by kernel_rfl) (by kernel_rfl) (fun _ _ _ h => h) hq ?_
        try simp only [Act.put, List.setIfInBounds_toArray, List.set_cons_succ, List.set_cons_zero]
        refine rgTake (S := fun w' => Arr w' g6 27 (ccs C) ∧ Arr w' g7 54 (rcs ⟨f, t⟩)) (i := 13) (v := .bool false) rfl (by kernel_rfl) (by kernel_rfl) (fun _ _ _ h => h) (fun w _ => by kernel_rfl) hq ?_
        refine rgDone (by kernel_rfl) ?_
        try simp only [Act.put, List.setIfInBounds_toArray, List.set_cons_succ, List.set_cons_zero]
        obtain ⟨h6, h7⟩ := hq
        clear hz
        go_wp2_with (first | (with_reducible refine ldArr (.tmp 7) Try.ag_ru (wn rfl) rfl rfl rfl h7 ?_) | (with_reducible refine bsG (.tmp 57) Try.sl_ru (wn rfl) rfl rfl rfl (by decide) ?_))
        intro w9 h9 b9
        have hs9 := hB.size
        replace hown := ownsRow_below hown b9 (Nat.le_refl _)
        replace hB := hB.trans (b9.mono hs9)
        generalize wd.heap.size = g9 at *
        go_wp2_with (at_builtin; with_reducible refine appNB (.tmp 56) (.tmp 58) Try.sl_ru (wn rfl) rfl rfl rfl hown h9 rfl hB (Nat.le_refl _) (rcs_one _) (by omega) (by omega) ?_)
        intro v' w10 o10 b10 k10 s10
        go_wp2_with fail
        refine ⟨?rel, ?measure⟩
        case rel =>
          exact ⟨k + 1, _, rfl, by omega, by simp, by rw [HS.out]; exact ownsRow_count o10 (by simp) (by rw [rus_append, rus_one]), b10⟩
        case measure => simp [intOf]; omega
      · obtain ⟨g, off, rfl, hgl, hcl⟩ := hrd'.cells (by have := List.length_pos_iff.2 hne; omega)
        have hpos := List.length_pos_iff.2 hne
        have hz : decide ((0 : Int) < (out.length : Int)) = true := decide_eq_true (by omega)
        have hlb := HLB' hne
        have hj := (by omega : (out.length - 1) * 2 + 1 < out.length * 2)
        obtain ⟨rfl, _⟩ := own_upd hown hj (.int .i64 t)
        have hlc := hcl _ _ (rus_last out hne)
        rw [← Nat.add_assoc] at hlc
        have hgb : w2.heap.size ≤ g := (hown.lt g rfl).1
        clear hcl
        refine rgStart (fun w' => Arr w' g6 27 (ccs C) ∧ Arr w' g7 54 (rcs ⟨f, t⟩) ∧ w'.cell? ⟨g, 0 + (out.length - 1) * 2 + 1, none⟩ = some (.int .i64 (lastOf out))) (by kernel_rfl) ?_
        have hq : (fun w' : World => Arr w' g6 27 (ccs C) ∧ Arr w' g7 54 (rcs ⟨f, t⟩) ∧ w'.cell? ⟨g, 0 + (out.length - 1) * 2 + 1, none⟩ = some (.int .i64 (lastOf out))) _ := ⟨h6, h7, hlc⟩
        clear h6 h7 hlc
        generalize World.drew _ = wd at *
        refine rgTake (S := fun w' => Arr w' g6 27 (ccs C) ∧ Arr w' g7 54 (rcs ⟨f, t⟩) ∧ w'.cell? ⟨g, 0 + (out.length - 1) * 2 + 1, none⟩ = some (.int .i64 (lastOf out))) (i := 0) (v := .int .i64 (out.length : Int)) rfl (by kernel_rfl) (by kernel_rfl) (fun _ _ _ h => h) (fun w _ => by kernel_rfl) hq ?_
        refine rgTake (S := fun w' => Arr w' g6 27 (ccs C) ∧ Arr w' g7 54 (rcs ⟨f, t⟩) ∧ w'.cell? ⟨g, 0 + (out.length - 1) * 2 + 1, none⟩ = some (.int .i64 (lastOf out))) (i := 1) (v := .bool true) rfl (by kernel_rfl) (by kernel_rfl) (fun _ _ _ h => h) (fun w _ => (gtrRun (.tmp 35) (.const (.int .i64 0)) rfl (by kernel_rfl) rfl).trans (by rw [hz])) hq ?_
        refine rgTake (S := fun w' => Arr w' g6 27 (ccs C) ∧ Arr w' g7 54 (rcs ⟨f, t⟩) ∧ w'.cell? ⟨g, 0 + (out.length - 1) * 2 + 1, none⟩ = some (.int .i64 (lastOf out))) (i := 2) (v := .bool true) rfl (by kernel_rfl) (by kernel_rfl) (fun _ _ _ h => h) (fun w _ => by kernel_rfl) hq ?_
        refine rgTake (S := fun w' => Arr w' g6 27 (ccs C) ∧ Arr w' g7 54 (rcs ⟨f, t⟩) ∧ w'.cell? ⟨g, 0 + (out.length - 1) * 2 + 1, none⟩ = some (.int .i64 (lastOf out))) (i := 3) (v := .slice (some ⟨g, 0, none⟩) out.length c') rfl (by kernel_rfl) (by kernel_rfl) (fun _ _ _ h => h) (fun w _ => by kernel_rfl) hq ?_
        refine rgTake (S := fun w' => Arr w' g6 27 (ccs C) ∧ Arr w' g7 54 (rcs ⟨f, t⟩) ∧ w'.cell? ⟨g, 0 + (out.length - 1) * 2 + 1, none⟩ = some (.int .i64 (lastOf out))) (i := 4) (v := .int .i64 (out.length : Int)) rfl (by kernel_rfl) (by kernel_rfl) (fun _ _ _ h => h) (fun w _ => by kernel_rfl) hq ?_
        refine rgTake (S := fun w' => Arr w' g6 27 (ccs C) ∧ Arr w' g7 54 (rcs ⟨f, t⟩) ∧ w'.cell? ⟨g, 0 + (out.length - 1) * 2 + 1, none⟩ = some (.int .i64 (lastOf out))) (i := 5) (v := .int .i64 ((out.length - 1 : Nat) : Int)) rfl (by kernel_rfl) (by kernel_rfl) (fun _ _ _ h => h) (fun w _ => subRun (A := (out.length : Int)) (B := 1) (.tmp 39) (.const (.int .i64 1)) rfl (by kernel_rfl) rfl (by omega) (by omega)) hq ?_
        try simp only [Act.put, List.setIfInBounds_toArray, List.set_cons_succ, List.set_cons_zero]
        refine rgTake (S := fun w' => Arr w' g6 27 (ccs C) ∧ Arr w' g7 54 (rcs ⟨f, t⟩) ∧ w'.cell? ⟨g, 0 + (out.length - 1) * 2 + 1, none⟩ = some (.int .i64 (lastOf out))) (i := 6) (v := .pointer (some ⟨g, 0 + (out.length - 1) * 2, none⟩)) rfl (by kernel_rfl) (by kernel_rfl) (fun _ _ _ h => h) (fun w _ => iaRowRun (kk := .i64) (n := out.length) (c := c') (.tmp 38) (.tmp 40) (out.length - 1) Try.sl_ru rfl (by kernel_rfl) (by kernel_rfl) rfl (by omega)) hq ?_
        refine rgTake (S := fun w' => Arr w' g6 27 (ccs C) ∧ Arr w' g7 54 (rcs ⟨f, t⟩) ∧ w'.cell? ⟨g, 0 + (out.length - 1) * 2 + 1, none⟩ = some (.int .i64 (lastOf out))) (i := 7) (v := .pointer (some ⟨g, 0 + (out.length - 1) * 2 + 1, none⟩)) rfl (by kernel_rfl) (by kernel_rfl) (fun _ _ _ h => h) (fun w _ => by kernel_rfl) hq ?_
        refine rgTake (S := fun w' => Arr w' g6 27 (ccs C) ∧ Arr w' g7 54 (rcs ⟨f, t⟩) ∧ w'.cell? ⟨g, 0 + (out.length - 1) * 2 + 1, none⟩ = some (.int .i64 (lastOf out))) (i := 8) (v := .int .i64 (lastOf out)) rfl (by kernel_rfl) (by kernel_rfl) (fun _ _ _ h => h) (fun w h => ldRun (.tmp 42) (by kernel_rfl) rfl (by kernel_rfl) h.2.2) hq ?_
        try simp only [Act.put, List.setIfInBounds_toArray, List.set_cons_succ, List.set_cons_zero]
        refine rgTake (S := fun w' => Arr w' g6 27 (ccs C) ∧ Arr w' g7 54 (rcs ⟨f, t⟩) ∧ w'.cell? ⟨g, 0 + (out.length - 1) * 2 + 1, none⟩ = some (.int .i64 (lastOf out))) (i := 9) (v := .int .i64 (lastOf out + 1)) rfl (by kernel_rfl) (by kernel_rfl) (fun _ _ _ h => h) (fun w _ => addRun (A := lastOf out) (B := 1) (.tmp 43) (.const (.int .i64 1)) rfl (by kernel_rfl) rfl rfl (by omega)) hq ?_
        refine rgTake (S := fun w' => Arr w' g6 27 (ccs C) ∧ Arr w' g7 54 (rcs ⟨f, t⟩) ∧ w'.cell? ⟨g, 0 + (out.length - 1) * 2 + 1, none⟩ = some (.int .i64 (lastOf out))) (i := 10) (v := .pointer (some ⟨g7, 0, none⟩)) rfl (by kernel_rfl) (by kernel_rfl) (fun _ _ _ h => h) (fun w _ => by kernel_rfl) hq ?_
        refine rgTake (S := fun w' => Arr w' g6 27 (ccs C) ∧ Arr w' g7 54 (rcs ⟨f, t⟩) ∧ w'.cell? ⟨g, 0 + (out.length - 1) * 2 + 1, none⟩ = some (.int .i64 (lastOf out))) (i := 11) (v := .int .i64 f) rfl (by kernel_rfl) (by kernel_rfl) (fun _ _ _ h => h) (fun w h => ldRun (.tmp 45) (by kernel_rfl) rfl (by kernel_rfl) (h.2.1.cell (i := 0) rfl)) hq ?_
        refine rgTake (S := fun w' => Arr w' g6 27 (ccs C) ∧ Arr w' g7 54 (rcs ⟨f, t⟩) ∧ w'.cell? ⟨g, 0 + (out.length - 1) * 2 + 1, none⟩ = some (.int .i64 (lastOf out))) (i := 12) (v := .bool (decide (lastOf out + 1 = f))) rfl (by kernel_rfl) (by kernel_rfl) (fun _ _ _ h => h) (fun w _ => eqlRun (.tmp 44) (.tmp 46) rfl (by kernel_rfl) (by kernel_rfl)) hq ?_
        try simp only [Act.put, List.setIfInBounds_toArray, List.set_cons_succ, List.set_cons_zero]
        refine rgTake (S := fun w' => Arr w' g6 27 (ccs C) ∧ Arr w' g7 54 (rcs ⟨f, t⟩) ∧ w'.cell? ⟨g, 0 + (out.length - 1) * 2 + 1, none⟩ = some (.int .i64 (lastOf out))) (i := 13) (v := .bool (decide (lastOf out + 1 = f))) rfl (by kernel_rfl) (by kernel_rfl) (fun _ _ _ h => h) (fun w _ => by kernel_rfl) hq ?_
        refine rgDone (by kernel_rfl) ?_
        try simp only [Act.put, List.setIfInBounds_toArray, List.set_cons_succ, List.set_cons_zero]
        obtain ⟨h6, h7, hlc⟩ := hq
        obtain ⟨_, cur, hcur, hci, hset⟩ := own_upd hown hj (.int .i64 t)
        rw [rus_last out hne] at hci
        by_cases hjo : lastOf out + 1 = f
        · rw [show runAdd out f t = setLast t out by unfold runAdd; rw [if_pos ⟨hne, hjo⟩]] at HS
          rw [decide_eq_true hjo]
          go_wp2_with (first | (with_reducible refine iaRow (.tmp 49) (.tmp 51) (out.length - 1) Try.sl_ru (wn rfl) rfl rfl rfl (by omega) (by omega) ?_) | (with_reducible refine ldOne (.tmp 52) (by kernel_rfl) (wn rfl) rfl rfl (h7.cell (i := 1) rfl) ?_) | (with_reducible refine stCellG (i := (out.length - 1) * 2 + 1) (v := .int .i64 t) (.tmp 55) (.tmp 53) (by kernel_rfl) (wn rfl) rfl rfl rfl hcur hci rfl rfl ?_))
          intro w10 h10 k10
          have o10 := hset w10 h10
          replace hB := hB.grown k10 hB.size (fun k e => by cases e; exact hgb)
          go_wp2_with fail
          refine ⟨?rel, ?measure⟩
          case rel =>
            exact ⟨k + 1, _, rfl, by omega, by simp, by rw [HS.out]; exact ownsRow_count o10 (setLast_length _ _).symm (rus_setLast _ _ hne), hB⟩
          case measure => simp [intOf]; omega
        · rw [show runAdd out f t = out ++ [⟨f, t⟩] by unfold runAdd; rw [if_neg (fun h => hjo h.2)]] at HS
          rw [decide_eq_false hjo]
          go_wp2_with (first | (with_reducible refine ldArr (.tmp 7) Try.ag_ru (wn rfl) rfl rfl rfl h7 ?_) | (with_reducible refine bsG (.tmp 57) Try.sl_ru (wn rfl) rfl rfl rfl (by decide) ?_))
          intro w9 h9 b9
          have hs9 := hB.size
          replace hown := ownsRow_below hown b9 (Nat.le_refl _)
          replace hB := hB.trans (b9.mono hs9)
          generalize wd.heap.size = g9 at *
          go_wp2_with (at_builtin; with_reducible refine appNB (.tmp 56) (.tmp 58) Try.sl_ru (wn rfl) rfl rfl rfl hown h9 rfl hB (Nat.le_refl _) (rcs_one _) (by omega) (by omega) ?_)
          intro v' w10 o10 b10 k10 s10
          go_wp2_with fail
          refine ⟨?rel, ?measure⟩
          case rel =>
            exact ⟨k + 1, _, rfl, by omega, by simp, by rw [HS.out]; exact ownsRow_count o10 (by simp) (by rw [rus_append, rus_one]), b10⟩
          case measure => simp [intOf]; omega
    · obtain rfl : k = L.length := by omega
      rw [List.take_length] at hown
      go_wp2_with fail
      go_ret2
      exact ⟨u, by rw [HR.out]; rfl, by rw [HR.out]; exact ownsRow_base (ownsRow_count hown rfl rfl) hb.size, hb.trans (hB.mono hb.size)⟩
end Go.Proofs.Ytkfijpghjjnpkaa
/-
  Runs of the reference. No statement is proved here.
-/
namespace Go.Proofs.Ytkfijpghjjnpkaa
open Go.RowKit
set_option linter.unusedVariables false
set_option linter.unusedSimpArgs false

theorem runAdd_ne (o : List Run) (f t : Int) : runAdd o f t ≠ [] := by
  unfold runAdd
  split
  · rename_i h
    intro e
    have h2 := setLast_length t o
    rw [e] at h2
    exact h.1 (List.length_eq_zero_iff.1 h2.symm)
  · simp
theorem runsOf_ne (l : List Cube) (k : Nat) (hk : k ≤ l.length) (h0 : 0 < k) : runsOf (l.take k) ≠ [] := by
  obtain ⟨j, rfl⟩ : ∃ j, k = j + 1 := ⟨k - 1, by omega⟩
  rw [runsOf_succ l j l[j] (List.getElem?_eq_getElem (by omega))]
  exact runAdd_ne _ _ _
set_option maxRecDepth 100000 in
set_option maxHeartbeats 4000000 in
theorem refRuns_any (b : Bx) (w : World) : Calls Try.prog 25 #[.agg (bxs b).toArray] w (RetLE w 54 2 (mRuns b).1.length (rus (mRuns b).1) (mRuns b).2) := by
  have HCB := Lib.hid (refCubes_any b)
  have HGD := Lib.hid (mCubes_all (b := b))
  have HLE := Lib.hid (show (mCubes b).1.length ≤ 4097 by
    unfold mCubes
    split
    · split
      · exact Nat.zero_le _
      · exact cubesL_le b 14 p0 [] (by decide)
    · exact Nat.zero_le _)
  have HLB := Lib.hid (fun (k : Nat) (hne : runsOf ((mCubes b).1.take k) ≠ []) => show 0 ≤ lastOf (runsOf ((mCubes b).1.take k)) ∧ lastOf (runsOf ((mCubes b).1.take k)) ≤ 8796093022208 by
    obtain ⟨r, hr, e⟩ := lastOf_mem _ hne
    rw [e]
    exact runsOf_last (M := fun t => 0 ≤ t ∧ t ≤ 8796093022208) _ (fun c hc => cubeLast_in (mCubes_all c (List.mem_of_mem_take hc))) r hr)
  have HR : Hid (mRuns b = (runsOf (mCubes b).1, (mCubes b).2)) := Lib.hid rfl
  generalize (mCubes b).2 = err at *
  generalize (mCubes b).1 = L at *
  go_enter Try.func25, Try.ntmps25
  go_wp2_with (with_reducible refine bxArr (cs := bxs b) (.tmp 0) (wn rfl) rfl rfl ?_)
  intro w1 h1 b1
  go_wp2_with (with_reducible refine ldArr (.tmp 1) Try.ag_bx (wn rfl) rfl rfl rfl h1 ?_)
  refine (HCB.out _).mono ?_
  rintro e w2 ⟨v, rfl, own, b2⟩
  obtain ⟨A, c, rfl, hrd⟩ := Rd.of_own own
  have hb := b1.trans (b2.mono b1.size)
  clear h1 b1 b2 own
  go_wp2_with fail
  go_loopw [6, 7] (fun uu kk wr => ∃ (k : Nat) (u : Value), u = uu ∧ k ≤ L.length ∧ kk = .int .i64 (k : Int) ∧ wr.ownsRow w2.heap.size 54 2 u (runsOf (L.take k)).length (rus (runsOf (L.take k))) ∧ Below w2.heap.size w2 wr) (fun _ kk _ => L.length - (intOf kk).toNat)
  case atStart => exact ⟨0, _, rfl, by omega, rfl, World.ownsRow_nil _ _ _ _, Below.refl _ _⟩
  case round =>
    obtain ⟨k, u, rfl, hk, rfl, hown, hB⟩ := hrel
    by_cases hlt : k < L.length
    · obtain ⟨C, hC⟩ : ∃ C, L[k]? = some C := ⟨L[k], List.getElem?_eq_getElem hlt⟩
      have HS := Lib.hid (runsOf_succ L k C hC)
      have HNE := Lib.hid (runsOf_ne L k hk)
      obtain ⟨m, hm, hlv, hal⟩ := HGD.out C (List.mem_of_getElem? hC)
      have hrl := runsOf_len (L.take k)
      rw [List.length_take] at hrl
      have hle := HLE.out
      obtain ⟨b0, off, rfl, hlt0, hcells⟩ := (hrd.below hB).cells (by omega)
      have HCC := Lib.hid (show ∀ j x, (ccs C)[j]? = some x → wr.cell? ⟨b0, off + k * 4 + j, none⟩ = some x from fun j x hj => by
        rw [Nat.add_assoc]
        exact hcells _ _ (cus_at L k C hC j x hj))
      have hb0 : b0 < w2.heap.size := hlt0
      clear hcells
      have HLB' := HLB.out k
      generalize HOUT : runsOf (L.take k) = out at *
      have HOUT := Lib.hid HOUT
      go_wp2_with (first | (with_reducible refine iaRow (.tmp 21) (.tmp 22) k Try.sl_cu (wn rfl) rfl rfl rfl rfl hlt ?_) | (with_reducible refine ldAgg (off := off + k * 4 + 0) (.tmp 24) (pcs C.at_) Try.ag_pt (wn rfl) rfl rfl rfl (fun j u hu => by rw [Nat.add_assoc (off + k * 4)]; exact HCC.out _ _ (ccs_at C hu)) ?_))
      refine (refEncode_any C.at_ _).mono ?_
      rintro e w5 ⟨rfl, b5⟩
      have HC3 := HCC.out 3 (.int .i64 (m : Int)) (by rw [← hlv]; rfl)
      replace HC3 := (b5.cell (p := ⟨b0, _, none⟩) (Nat.lt_of_lt_of_le hb0 hB.size)).trans HC3
      replace hown := ownsRow_below hown b5 (Nat.le_refl _)
      replace hB := hB.trans (b5.mono hB.size)
      clear b5
      have hf := mEnc_in hal.1
      have HCLS := Lib.hid (show cubeLast C = mEnc C.at_ + ((1 * 2 ^ (3 * m) : Nat) : Int) - 1 by
        unfold cubeLast
        rw [hlv, Int.toNat_natCast, Nat.one_mul, Nat.pow_mul])
      have h3m : 1 * 2 ^ (3 * m) ≤ 4398046511104 := by
        rw [Nat.one_mul]
        exact Nat.pow_le_pow_right (n := 2) (by decide) (by omega : 3 * m ≤ 42)
      rw [HCLS.out] at HS
      clear HCLS
      generalize mEnc C.at_ = f at *
      obtain ⟨t, ht⟩ : ∃ t, f + ((1 * 2 ^ (3 * m) : Nat) : Int) - 1 = t := ⟨_, rfl⟩
      rw [ht] at HS
      obtain ⟨A', c', rfl, hrd'⟩ := Rd.of_own hown
      by_cases hk0 : k < 1
      · have hne : out = [] := by rw [← HOUT.out, show k = 0 by omega]; rfl
        rw [show runAdd out f t = out ++ [⟨f, t⟩] by unfold runAdd; rw [if_neg (fun h => h.1 hne)]] at HS
        clear hne
        go_wp2_with (first | (with_reducible refine iaRow (.tmp 28) (.tmp 29) k Try.sl_cu (wn rfl) rfl rfl rfl rfl hlt ?_) | (with_reducible refine ldOne (v := .int .i64 (m : Int)) (.tmp 31) (by kernel_rfl) (wn rfl) rfl rfl HC3 ?_) | (with_reducible refine opVal (v := .int .i64 ((3 * m : Nat) : Int)) (wn rfl) (mulRun (A := 3) (B := (m : Int)) (.const (.int .i64 3)) (.tmp 32) rfl rfl rfl (by simp) (by omega)) ?_) | (with_reducible refine opVal (v := .int .i64 ((1 * 2 ^ (3 * m) : Nat) : Int)) (wn rfl) (shlNat (m := 1) (n := 3 * m) (.const (.int .i64 1)) (.tmp 33) rfl rfl rfl (by omega) (by omega)) ?_) | (with_reducible refine opVal (v := .int .i64 (f + ((1 * 2 ^ (3 * m) : Nat) : Int))) (wn rfl) (addRun (A := f) (B := ((1 * 2 ^ (3 * m) : Nat) : Int)) (.tmp 27) (.tmp 34) rfl rfl rfl rfl (by omega)) ?_) | (with_reducible refine opVal (v := .int .i64 t) (wn rfl) (subRun (A := f + ((1 * 2 ^ (3 * m) : Nat) : Int)) (B := 1) (.tmp 35) (.const (.int .i64 1)) rfl rfl rfl ht (by omega)) ?_) | (with_reducible refine bsG (.tmp 61) Try.sl_ru (cs := rcs ⟨f, t⟩) (wn rfl) rfl rfl rfl (by decide) ?_))
        intro w9 h9 b9
        have hs9 := hB.size
        replace hown := ownsRow_below hown b9 (Nat.le_refl _)
        replace hB := hB.trans (b9.mono hs9)
        go_wp2_with (at_builtin; with_reducible refine appNB (.tmp 58) (.tmp 62) Try.sl_ru (wn rfl) rfl rfl rfl hown h9 rfl hB (Nat.le_refl _) (rcs_one _) (by omega) (by omega) ?_)
        intro v' w10 o10 hB k10 s10
        go_wp2_with fail
        exact ⟨⟨k + 1, _, rfl, by omega, by simp, by rw [HS.out]; exact ownsRow_count o10 (by simp) (by rw [rus_append, rus_one]), hB⟩, by simp [intOf]; omega⟩
      · have hne : out ≠ [] := HNE.out (by omega)
        obtain ⟨g, off', rfl, hgl, hcl⟩ := hrd'.cells (by have := List.length_pos_iff.2 hne; omega)
        have hpos := List.length_pos_iff.2 hne
        have hlb := HLB' hne
        have hj := (by omega : (out.length - 1) * 2 + 1 < out.length * 2)
        obtain ⟨rfl, _⟩ := own_upd hown hj (.int .i64 t)
        have hlc := hcl _ _ (rus_last out hne)
        rw [Nat.zero_add] at hlc
        have hgb : w2.heap.size ≤ g := (hown.lt g rfl).1
        clear hcl
        obtain ⟨_, cur, hcur, hci, hset⟩ := own_upd hown hj (.int .i64 t)
        rw [rus_last out hne] at hci
        by_cases hjo : lastOf out + 1 = f
        · rw [show runAdd out f t = setLast t out by unfold runAdd; rw [if_pos ⟨hne, hjo⟩]] at HS
          go_wp2_with (first | (with_reducible refine iaRow (.tmp 28) (.tmp 29) k Try.sl_cu (wn rfl) rfl rfl rfl rfl hlt ?_) | (with_reducible refine ldOne (v := .int .i64 (m : Int)) (.tmp 31) (by kernel_rfl) (wn rfl) rfl rfl HC3 ?_) | (with_reducible refine opVal (v := .int .i64 ((3 * m : Nat) : Int)) (wn rfl) (mulRun (A := 3) (B := (m : Int)) (.const (.int .i64 3)) (.tmp 32) rfl rfl rfl (by simp) (by omega)) ?_) | (with_reducible refine opVal (v := .int .i64 ((1 * 2 ^ (3 * m) : Nat) : Int)) (wn rfl) (shlNat (m := 1) (n := 3 * m) (.const (.int .i64 1)) (.tmp 33) rfl rfl rfl (by omega) (by omega)) ?_) | (with_reducible refine opVal (v := .int .i64 (f + ((1 * 2 ^ (3 * m) : Nat) : Int))) (wn rfl) (addRun (A := f) (B := ((1 * 2 ^ (3 * m) : Nat) : Int)) (.tmp 27) (.tmp 34) rfl rfl rfl rfl (by omega)) ?_) | (with_reducible refine opVal (v := .int .i64 t) (wn rfl) (subRun (A := f + ((1 * 2 ^ (3 * m) : Nat) : Int)) (B := 1) (.tmp 35) (.const (.int .i64 1)) rfl rfl rfl ht (by omega)) ?_) | (with_reducible refine iaRow (.tmp 40) (.tmp 43) (out.length - 1) Try.sl_ru (wn rfl) rfl rfl rfl (by omega) (by omega) ?_) | (with_reducible refine ldOne (v := .int .i64 (lastOf out)) (.tmp 45) (by kernel_rfl) (wn rfl) rfl rfl hlc ?_) | (with_reducible refine iaRow (.tmp 51) (.tmp 54) (out.length - 1) Try.sl_ru (wn rfl) rfl rfl rfl (by omega) (by omega) ?_) | (with_reducible refine stCellG (i := (out.length - 1) * 2 + 1) (v := .int .i64 t) (.tmp 57) (.tmp 55) (by kernel_rfl) (wn rfl) rfl rfl rfl hcur hci rfl rfl ?_))
          intro w10 h10 k10
          have o10 := hset w10 h10
          replace hB := hB.grown k10 hB.size (fun k e => by cases e; exact hgb)
          go_wp2_with fail
          exact ⟨⟨k + 1, _, rfl, by omega, by simp, by rw [HS.out]; exact ownsRow_count o10 (setLast_length _ _).symm (rus_setLast _ _ hne), hB⟩, by simp [intOf]; omega⟩
        · rw [show runAdd out f t = out ++ [⟨f, t⟩] by unfold runAdd; rw [if_neg (fun h => hjo h.2)]] at HS
          go_wp2_with (first | (with_reducible refine iaRow (.tmp 28) (.tmp 29) k Try.sl_cu (wn rfl) rfl rfl rfl rfl hlt ?_) | (with_reducible refine ldOne (v := .int .i64 (m : Int)) (.tmp 31) (by kernel_rfl) (wn rfl) rfl rfl HC3 ?_) | (with_reducible refine opVal (v := .int .i64 ((3 * m : Nat) : Int)) (wn rfl) (mulRun (A := 3) (B := (m : Int)) (.const (.int .i64 3)) (.tmp 32) rfl rfl rfl (by simp) (by omega)) ?_) | (with_reducible refine opVal (v := .int .i64 ((1 * 2 ^ (3 * m) : Nat) : Int)) (wn rfl) (shlNat (m := 1) (n := 3 * m) (.const (.int .i64 1)) (.tmp 33) rfl rfl rfl (by omega) (by omega)) ?_) | (with_reducible refine opVal (v := .int .i64 (f + ((1 * 2 ^ (3 * m) : Nat) : Int))) (wn rfl) (addRun (A := f) (B := ((1 * 2 ^ (3 * m) : Nat) : Int)) (.tmp 27) (.tmp 34) rfl rfl rfl rfl (by omega)) ?_) | (with_reducible refine opVal (v := .int .i64 t) (wn rfl) (subRun (A := f + ((1 * 2 ^ (3 * m) : Nat) : Int)) (B := 1) (.tmp 35) (.const (.int .i64 1)) rfl rfl rfl ht (by omega)) ?_) | (with_reducible refine iaRow (.tmp 40) (.tmp 43) (out.length - 1) Try.sl_ru (wn rfl) rfl rfl rfl (by omega) (by omega) ?_) | (with_reducible refine ldOne (v := .int .i64 (lastOf out)) (.tmp 45) (by kernel_rfl) (wn rfl) rfl rfl hlc ?_) | (with_reducible refine bsG (.tmp 61) Try.sl_ru (cs := rcs ⟨f, t⟩) (wn rfl) rfl rfl rfl (by decide) ?_))
          intro w9 h9 b9
          have hs9 := hB.size
          replace hown := ownsRow_below hown b9 (Nat.le_refl _)
          replace hB := hB.trans (b9.mono hs9)
          go_wp2_with (at_builtin; with_reducible refine appNB (.tmp 58) (.tmp 62) Try.sl_ru (wn rfl) rfl rfl rfl hown h9 rfl hB (Nat.le_refl _) (rcs_one _) (by omega) (by omega) ?_)
          intro v' w10 o10 hB k10 s10
          go_wp2_with fail
          exact ⟨⟨k + 1, _, rfl, by omega, by simp, by rw [HS.out]; exact ownsRow_count o10 (by simp) (by rw [rus_append, rus_one]), hB⟩, by simp [intOf]; omega⟩
    · obtain rfl : k = L.length := by omega
      rw [List.take_length] at hown
      go_wp2_with fail
      go_ret2
      exact ⟨u, by rw [HR.out]; rfl, by rw [HR.out]; exact ownsRow_base (ownsRow_count hown rfl rfl) hb.size, hb.trans (hB.mono hb.size)⟩
end Go.Proofs.Ytkfijpghjjnpkaa
/-
  The bits of codes; the search for the next code of a box, bit by bit. No program in sight.
-/
namespace Go.Proofs.Ytkfijpghjjnpkaa
set_option linter.unusedSimpArgs false

theorem decL_bit : ∀ (l n j : Nat), (decL l n).testBit j = (decide (j < l) && n.testBit (3 * j))
  | 0, n, j => by simp [decL]
  | l + 1, n, 0 => by
    rw [decL, Nat.testBit_zero, Nat.testBit_zero]
    simp
  | l + 1, n, j + 1 => by
    have h := decL_bit l (n / 8) j
    rw [decL, Nat.testBit_add_one, show (2 * decL l (n / 8) + n % 2) / 2 = decL l (n / 8) by omega, h, show (8 : Nat) = 2 ^ 3 from rfl, Nat.testBit_div_two_pow, show 3 * j + 3 = 3 * (j + 1) by omega]
    simp
theorem encL_bit : ∀ (l x y z j k : Nat), k < 3 → (encL l x y z).testBit (3 * j + k) = (decide (j < l) && (if k = 0 then x else if k = 1 then y else z).testBit j)
  | 0, x, y, z, j, k, _ => by simp [encL]
  | l + 1, x, y, z, 0, k, hk => by
    rw [encL, Nat.mul_zero, Nat.zero_add, Nat.testBit_eq_decide_div_mod_eq, Nat.testBit_eq_decide_div_mod_eq]
    rcases (by omega : k = 0 ∨ k = 1 ∨ k = 2) with rfl | rfl | rfl <;> simp <;> omega
  | l + 1, x, y, z, j + 1, k, hk => by
    have h := encL_bit l (x / 2) (y / 2) (z / 2) j k hk
    rw [encL, show 3 * (j + 1) + k = 3 * j + k + 3 by omega, ← Nat.testBit_div_two_pow, show (8 * encL l (x / 2) (y / 2) (z / 2) + (x % 2 + 2 * (y % 2) + 4 * (z % 2))) / 2 ^ 3 = encL l (x / 2) (y / 2) (z / 2) by omega, h]
    rw [Nat.testBit_add_one]
    rcases (by omega : k = 0 ∨ k = 1 ∨ k = 2) with rfl | rfl | rfl <;> simp
/-- The code of three coordinates, and the coordinates of a code. -/
def code (f : Nat → Nat) : Nat := encL 14 (f 0) (f 1) (f 2)
def cds (n : Nat) (k : Nat) : Nat := decL 14 (n / 2 ^ k)
theorem code_bit (f : Nat → Nat) (j k : Nat) (hk : k < 3) : (code f).testBit (3 * j + k) = (decide (j < 14) && (f k).testBit j) := by
  unfold code
  rw [encL_bit _ _ _ _ _ _ hk]
  rcases (by omega : k = 0 ∨ k = 1 ∨ k = 2) with rfl | rfl | rfl <;> simp
theorem cds_bit (n j k : Nat) : (cds n k).testBit j = (decide (j < 14) && n.testBit (3 * j + k)) := by
  unfold cds
  rw [decL_bit, Nat.testBit_div_two_pow]
theorem code_lt (f : Nat → Nat) : code f < 4398046511104 := encL_lt 14 _ _ _
theorem cds_lt (n k : Nat) : cds n k < 16384 := decL_lt 14 _
theorem split3 (s : Nat) : ∃ j k, k < 3 ∧ s = 3 * j + k := ⟨s / 3, s % 3, Nat.mod_lt _ (by decide), by omega⟩
theorem big_bit {x m s : Nat} (h : x < 2 ^ m) (hs : m ≤ s) : x.testBit s = false := Nat.testBit_lt_two_pow (Nat.lt_of_lt_of_le h (Nat.pow_le_pow_right (by decide) hs))
theorem code_cds {n : Nat} (h : n < 4398046511104) : code (cds n) = n := by
  apply Nat.eq_of_testBit_eq
  intro s
  obtain ⟨j, k, hk, rfl⟩ := split3 s
  rw [code_bit _ _ _ hk, cds_bit]
  by_cases hj : j < 14
  · simp [hj]
  · rw [big_bit (m := 42) h (by omega)]
    simp
theorem cds_code {f : Nat → Nat} {k : Nat} (hk : k < 3) (h : f k < 16384) : cds (code f) k = f k := by
  apply Nat.eq_of_testBit_eq
  intro s
  rw [cds_bit, code_bit _ _ _ hk]
  by_cases hj : s < 14
  · simp [hj]
  · rw [big_bit (m := 14) h (by omega)]
    simp
theorem encL_inj {l x y z x' y' z' : Nat} (h : encL l x y z = encL l x' y' z') (h1 : x < 2 ^ l) (h2 : y < 2 ^ l) (h3 : z < 2 ^ l) (h1' : x' < 2 ^ l) (h2' : y' < 2 ^ l) (h3' : z' < 2 ^ l) : x = x' ∧ y = y' ∧ z = z' := by
  have a := dec_enc l x y z
  have b := dec_enc l x' y' z'
  rw [h] at a
  rw [Nat.mod_eq_of_lt h1, Nat.mod_eq_of_lt h2, Nat.mod_eq_of_lt h3] at a
  rw [Nat.mod_eq_of_lt h1', Nat.mod_eq_of_lt h2', Nat.mod_eq_of_lt h3'] at b
  omega
theorem encL_mono : ∀ (l x y z x' y' z' : Nat), x ≤ x' → y ≤ y' → z ≤ z' → x' < 2 ^ l → y' < 2 ^ l → z' < 2 ^ l → encL l x y z ≤ encL l x' y' z'
  | 0, _, _, _, _, _, _, _, _, _, _, _, _ => Nat.le_refl _
  | l + 1, x, y, z, x', y', z', hx, hy, hz, h1, h2, h3 => by
    rw [Nat.pow_succ] at h1 h2 h3
    have h := encL_mono l (x / 2) (y / 2) (z / 2) (x' / 2) (y' / 2) (z' / 2) (by omega) (by omega) (by omega) (by omega) (by omega) (by omega)
    rw [encL, encL]
    by_cases he : encL l (x / 2) (y / 2) (z / 2) = encL l (x' / 2) (y' / 2) (z' / 2)
    · obtain ⟨e1, e2, e3⟩ := encL_inj he (by omega) (by omega) (by omega) (by omega) (by omega) (by omega)
      rw [he]
      omega
    · omega
theorem code_mono {f g : Nat → Nat} (h : ∀ k, k < 3 → f k ≤ g k) (hg : ∀ k, k < 3 → g k < 16384) : code f ≤ code g :=
  encL_mono 14 _ _ _ _ _ _ (h 0 (by decide)) (h 1 (by decide)) (h 2 (by decide)) (hg 0 (by decide)) (hg 1 (by decide)) (hg 2 (by decide))
/-- The bits of a coordinate below its bit j, as bits of the code. -/
def maskL : Nat → Nat → Nat
  | 0, _ => 0
  | j + 1, k => maskL j k ||| 2 ^ (3 * j + k)
theorem maskL_bit : ∀ (j k i k' : Nat), k < 3 → k' < 3 → (maskL j k).testBit (3 * i + k') = (decide (i < j) && decide (k' = k))
  | 0, k, i, k', _, _ => by simp [maskL]
  | j + 1, k, i, k', hk, hk' => by
    rw [maskL, Nat.testBit_or, maskL_bit j k i k' hk hk', Nat.testBit_two_pow]
    by_cases h1 : k' = k
    · subst h1
      by_cases h2 : i < j
      · simp [h2]; omega
      · by_cases h3 : i = j
        · subst h3; simp
        · simp [h2]; omega
    · simp [h1]; omega
theorem maskL_lt : ∀ (j k : Nat), maskL j k < 2 ^ (3 * j + k)
  | 0, k => by rw [maskL]; exact Nat.two_pow_pos _
  | j + 1, k => by
    rw [maskL]
    have h := maskL_lt j k
    refine Nat.or_lt_two_pow (Nat.lt_of_lt_of_le h (Nat.pow_le_pow_right (by decide) (by omega))) (Nat.pow_lt_pow_right (by decide) (by omega))
/-- 'a &^ b' of numbers below 2 to the 63. -/
def nAnd (a b : Nat) : Nat := a &&& (b ^^^ 9223372036854775807)
theorem nAnd_bit (a b s : Nat) (ha : a < 9223372036854775808) : (nAnd a b).testBit s = (a.testBit s && !b.testBit s) := by
  unfold nAnd
  rw [Nat.testBit_and, Nat.testBit_xor, show 9223372036854775807 = 2 ^ 63 - 1 from rfl, Nat.testBit_two_pow_sub_one]
  by_cases hs : s < 63
  · simp [hs]
  · rw [big_bit (m := 63) ha (by omega)]
    simp
/-- The number with bit j, the bits of x above, and none below; and the one before it. -/
def upB (x j : Nat) : Nat := 2 ^ (j + 1) * (x / 2 ^ (j + 1)) + 2 ^ j
theorem upB_bit (x j s : Nat) : (upB x j).testBit s = (decide (s = j) || (decide (j < s) && x.testBit s)) := by
  unfold upB
  rw [Nat.testBit_two_pow_mul_add (x / 2 ^ (j + 1)) (Nat.pow_lt_pow_right (by decide) (by omega : j < j + 1)) s]
  by_cases h : s < j + 1
  · rw [if_pos h, Nat.testBit_two_pow]
    by_cases h2 : j = s
    · subst h2; simp
    · simp [h2]; omega
  · rw [if_neg h, Nat.testBit_div_two_pow, show s - (j + 1) + (j + 1) = s by omega]
    have h1 : ¬ s = j := by omega
    have h2 : j < s := by omega
    simp [h1, h2]
theorem upB_pred (x j s : Nat) : (upB x j - 1).testBit s = (decide (s < j) || (decide (j < s) && x.testBit s)) := by
  unfold upB
  have hp := Nat.two_pow_pos j
  rw [show 2 ^ (j + 1) * (x / 2 ^ (j + 1)) + 2 ^ j - 1 = 2 ^ (j + 1) * (x / 2 ^ (j + 1)) + (2 ^ j - 1) by omega]
  rw [Nat.testBit_two_pow_mul_add (x / 2 ^ (j + 1)) (Nat.lt_of_lt_of_le (Nat.sub_lt hp (by decide)) (Nat.pow_le_pow_right (by decide) (by omega : j ≤ j + 1))) s]
  by_cases h : s < j + 1
  · rw [if_pos h, Nat.testBit_two_pow_sub_one]
    by_cases h2 : s = j
    · subst h2; simp
    · have : s < j := by omega
      simp [this]
  · rw [if_neg h, Nat.testBit_div_two_pow, show s - (j + 1) + (j + 1) = s by omega]
    have h1 : ¬ s < j := by omega
    have h2 : j < s := by omega
    simp [h1, h2]
def setAt (f : Nat → Nat) (k v : Nat) : Nat → Nat := fun i => if i = k then v else f i
theorem code_up (f : Nat → Nat) (j k : Nat) (hj : j < 14) (hk : k < 3) : code (setAt f k (upB (f k) j)) = nAnd (code f) (maskL j k) ||| 2 ^ (3 * j + k) := by
  have hl := code_lt f
  apply Nat.eq_of_testBit_eq
  intro s
  obtain ⟨i, k', hk', rfl⟩ := split3 s
  rw [code_bit _ _ _ hk', Nat.testBit_or, nAnd_bit _ _ _ (by omega), code_bit _ _ _ hk', maskL_bit _ _ _ _ hk hk', Nat.testBit_two_pow]
  unfold setAt
  by_cases h1 : k' = k
  · subst h1
    rw [if_pos rfl, upB_bit]
    by_cases h2 : i = j
    · subst h2; simp [hj]
    · have h3 : ¬ 3 * j = 3 * i := by omega
      by_cases h4 : j < i
      · have h5 : ¬ i < j := by omega
        simp [h2, h3, h4, h5]
      · have h5 : i < j := by omega
        simp [h2, h3, h4, h5]
  · have h3 : ¬ 3 * j + k = 3 * i + k' := by omega
    rw [if_neg h1]
    simp [h1, h3]
theorem code_down (f : Nat → Nat) (j k : Nat) (hj : j < 14) (hk : k < 3) : code (setAt f k (upB (f k) j - 1)) = nAnd (code f) (2 ^ (3 * j + k)) ||| maskL j k := by
  have hl := code_lt f
  apply Nat.eq_of_testBit_eq
  intro s
  obtain ⟨i, k', hk', rfl⟩ := split3 s
  rw [code_bit _ _ _ hk', Nat.testBit_or, nAnd_bit _ _ _ (by omega), code_bit _ _ _ hk', maskL_bit _ _ _ _ hk hk', Nat.testBit_two_pow]
  unfold setAt
  by_cases h1 : k' = k
  · subst h1
    rw [if_pos rfl, upB_pred]
    by_cases h2 : i = j
    · subst h2; simp
    · have h3 : ¬ 3 * j = 3 * i := by omega
      by_cases h4 : j < i
      · have h5 : ¬ i < j := by omega
        simp [h3, h4, h5]
      · have h5 : i < j := by omega
        have h6 : i < 14 := by omega
        simp [h3, h4, h5, h6]
  · have h3 : ¬ 3 * j + k = 3 * i + k' := by omega
    rw [if_neg h1]
    simp [h1, h3]
/-- The search, bit by bit, from bit t - 1 on. -/
def nextL (n : Nat) : Nat → Nat → Nat → Int → Int
  | 0, _, _, _ => n
  | t + 1, lo, hi, best =>
    if n.testBit t = false ∧ lo.testBit t = false ∧ hi.testBit t = true then nextL n t lo (nAnd hi (2 ^ t) ||| maskL (t / 3) (t % 3)) ((nAnd lo (maskL (t / 3) (t % 3)) ||| 2 ^ t : Nat) : Int)
    else if n.testBit t = false ∧ lo.testBit t = true ∧ hi.testBit t = true then lo
    else if n.testBit t = true ∧ lo.testBit t = false ∧ hi.testBit t = false then best
    else if n.testBit t = true ∧ lo.testBit t = false ∧ hi.testBit t = true then nextL n t (nAnd lo (maskL (t / 3) (t % 3)) ||| 2 ^ t) hi best
    else nextL n t lo hi best
/-- A code between two corners. -/
def Inb (L H : Nat → Nat) (c : Nat) : Prop := c < 4398046511104 ∧ ∀ k, k < 3 → L k ≤ cds c k ∧ cds c k ≤ H k
/-- r is the least code, at least n, between two corners, or best. -/
def IsNxt (L H : Nat → Nat) (n : Nat) (best r : Int) : Prop := (∃ c : Nat, Inb L H c ∧ n ≤ c ∧ r = (c : Int) ∧ ∀ d, Inb L H d → n ≤ d → c ≤ d) ∨ ((∀ c, Inb L H c → c < n) ∧ r = best)
theorem half_eq (x t : Nat) : x / 2 ^ t = 2 * (x / 2 ^ (t + 1)) + (x.testBit t).toNat := by
  rw [Nat.pow_succ, ← Nat.div_div_eq_div_mul, Nat.testBit_eq_decide_div_mod_eq]
  have := Nat.mod_two_eq_zero_or_one (x / 2 ^ t)
  rcases this with h | h <;> rw [h] <;> simp <;> omega
theorem lt_of_half {x y t : Nat} (h : x / 2 ^ t < y / 2 ^ t) : x < y := by
  by_cases hxy : x < y
  · exact hxy
  · exact absurd (Nat.div_le_div_right (c := 2 ^ t) (Nat.le_of_not_lt hxy)) (by omega)
/-- Bits above: equal quotients of the codes are equal quotients of the coordinates. -/
theorem pre_co {f g : Nat → Nat} {j k : Nat} (hk : k < 3) (hf : f k < 16384) (hg : g k < 16384) (h : code f / 2 ^ (3 * j + k + 1) = code g / 2 ^ (3 * j + k + 1)) : f k / 2 ^ (j + 1) = g k / 2 ^ (j + 1) := by
  apply Nat.eq_of_testBit_eq
  intro s
  rw [Nat.testBit_div_two_pow, Nat.testBit_div_two_pow]
  by_cases hs : s + (j + 1) < 14
  · have h1 := code_bit f (s + (j + 1)) k hk
    have h2 := code_bit g (s + (j + 1)) k hk
    have h3 : (code f).testBit (3 * (s + (j + 1)) + k) = (code g).testBit (3 * (s + (j + 1)) + k) := by
      have e := congrArg (fun x => x.testBit (3 * (s + (j + 1)) + k - (3 * j + k + 1))) h
      simp only [Nat.testBit_div_two_pow] at e
      rw [show 3 * (s + (j + 1)) + k - (3 * j + k + 1) + (3 * j + k + 1) = 3 * (s + (j + 1)) + k by omega] at e
      exact e
    rw [h1, h2] at h3
    simpa [hs] using h3
  · rw [big_bit (m := 14) hf (by omega), big_bit (m := 14) hg (by omega)]
theorem setAt_same (f : Nat → Nat) (k v : Nat) : setAt f k v k = v := if_pos rfl
theorem setAt_ne (f : Nat → Nat) {k i : Nat} (v : Nat) (h : i ≠ k) : setAt f k v i = f i := if_neg h
theorem nextL_ok (n : Nat) : ∀ (t : Nat), t ≤ 42 → ∀ (L H : Nat → Nat) (best : Int), (∀ k, k < 3 → L k ≤ H k) → (∀ k, k < 3 → H k < 16384) → n / 2 ^ t = code L / 2 ^ t → code H / 2 ^ t = code L / 2 ^ t → IsNxt L H n best (nextL n t (code L) (code H) best)
  | 0, _, L, H, best, hLH, hH, h1, h2 => by
    rw [Nat.pow_zero, Nat.div_one, Nat.div_one] at h1
    refine Or.inl ⟨n, ?_, Nat.le_refl _, rfl, fun d _ hd => hd⟩
    refine ⟨by rw [h1]; exact code_lt L, fun k hk => ?_⟩
    have e := cds_code (f := L) hk (Nat.lt_of_le_of_lt (hLH k hk) (hH k hk))
    rw [h1, e]
    exact ⟨Nat.le_refl _, hLH k hk⟩
  | t + 1, ht, L, H, best, hLH, hH, h1, h2 => by
    obtain ⟨j, k, hk, rfl⟩ := split3 t
    have hj : j < 14 := by omega
    have ej : (3 * j + k) / 3 = j := by omega
    have ek : (3 * j + k) % 3 = k := by omega
    have hL : ∀ k, k < 3 → L k < 16384 := fun k hk => Nat.lt_of_le_of_lt (hLH k hk) (hH k hk)
    have hpre := pre_co hk (hH k hk) (hL k hk) h2
    have bL : (code L).testBit (3 * j + k) = (L k).testBit j := by rw [code_bit _ _ _ hk]; simp [hj]
    have bH : (code H).testBit (3 * j + k) = (H k).testBit j := by rw [code_bit _ _ _ hk]; simp [hj]
    have hmin : ∀ c, Inb L H c → code L ≤ c := fun c hc => by
      have := code_mono (f := L) (g := cds c) (fun k hk => (hc.2 k hk).1) (fun k _ => cds_lt c k)
      rwa [code_cds hc.1] at this
    have hmax : ∀ c, Inb L H c → c ≤ code H := fun c hc => by
      have := code_mono (f := cds c) (g := H) (fun k hk => (hc.2 k hk).2) hH
      rwa [code_cds hc.1] at this
    have hLin : Inb L H (code L) := ⟨code_lt L, fun k hk => by rw [cds_code hk (hL k hk)]; exact ⟨Nat.le_refl _, hLH k hk⟩⟩
    have qn := half_eq n (3 * j + k)
    have qL := half_eq (code L) (3 * j + k)
    have qH := half_eq (code H) (3 * j + k)
    have xL := half_eq (L k) j
    have xH := half_eq (H k) j
    rw [nextL, ej, ek]
    -- both halves have cells
    have both : (code L).testBit (3 * j + k) = false → (code H).testBit (3 * j + k) = true →
        (∀ i, i < 3 → L i ≤ setAt H k (upB (H k) j - 1) i) ∧ (∀ i, i < 3 → setAt H k (upB (H k) j - 1) i < 16384) ∧ (∀ i, i < 3 → setAt L k (upB (L k) j) i ≤ H i) ∧ (∀ c, Inb L H c → Inb L (setAt H k (upB (H k) j - 1)) c ∨ Inb (setAt L k (upB (L k) j)) H c) ∧
        (∀ c, Inb L (setAt H k (upB (H k) j - 1)) c → Inb L H c) ∧ (∀ c, Inb (setAt L k (upB (L k) j)) H c → Inb L H c) ∧
        code (setAt H k (upB (H k) j - 1)) / 2 ^ (3 * j + k) = code L / 2 ^ (3 * j + k) ∧ code (setAt L k (upB (L k) j)) / 2 ^ (3 * j + k) = code H / 2 ^ (3 * j + k) := fun e1 e2 => by
      rw [bL] at e1
      rw [bH] at e2
      have hp := Nat.two_pow_pos j
      have hmid : upB (L k) j = upB (H k) j := by unfold upB; rw [hpre]
      have dL := Nat.div_add_mod (L k) (2 ^ j)
      have dH := Nat.div_add_mod (H k) (2 ^ j)
      have mL := Nat.mod_lt (L k) hp
      have mH := Nat.mod_lt (H k) hp
      rw [e1] at xL
      rw [e2] at xH
      rw [xL] at dL
      rw [xH, hpre] at dH
      have hup : upB (L k) j = 2 ^ j * (2 * (L k / 2 ^ (j + 1))) + 2 ^ j := by
        unfold upB
        rw [Nat.pow_succ, Nat.mul_assoc]
      have lt1 : L k < upB (L k) j := by
        rw [hup]
        have : 2 ^ j * (2 * (L k / 2 ^ (j + 1)) + false.toNat) = 2 ^ j * (2 * (L k / 2 ^ (j + 1))) := rfl
        omega
      have le2 : upB (L k) j ≤ H k := by
        rw [hup]
        have : 2 ^ j * (2 * (L k / 2 ^ (j + 1)) + true.toNat) = 2 ^ j * (2 * (L k / 2 ^ (j + 1))) + 2 ^ j := by
          show 2 ^ j * (2 * (L k / 2 ^ (j + 1)) + 1) = _
          rw [Nat.mul_add, Nat.mul_one]
        omega
      refine ⟨fun i hi => ?_, fun i hi => ?_, fun i hi => ?_, fun c hc => ?_, fun c hc => ⟨hc.1, fun i hi => ?_⟩, fun c hc => ⟨hc.1, fun i hi => ?_⟩, ?_, ?_⟩
      · by_cases h : i = k
        · subst h; rw [setAt_same, ← hmid]; omega
        · rw [setAt_ne _ _ h]; exact hLH i hi
      · by_cases h : i = k
        · subst h; rw [setAt_same, ← hmid]; have := hH i hi; omega
        · rw [setAt_ne _ _ h]; exact hH i hi
      · by_cases h : i = k
        · subst h; rw [setAt_same]; exact le2
        · rw [setAt_ne _ _ h]; exact hLH i hi
      · by_cases hc2 : cds c k < upB (L k) j
        · refine Or.inl ⟨hc.1, fun i hi => ⟨(hc.2 i hi).1, ?_⟩⟩
          by_cases h : i = k
          · subst h; rw [setAt_same, ← hmid]; omega
          · rw [setAt_ne _ _ h]; exact (hc.2 i hi).2
        · refine Or.inr ⟨hc.1, fun i hi => ⟨?_, (hc.2 i hi).2⟩⟩
          by_cases h : i = k
          · subst h; rw [setAt_same]; omega
          · rw [setAt_ne _ _ h]; exact (hc.2 i hi).1
      · have h3 := hc.2 i hi
        refine ⟨h3.1, ?_⟩
        by_cases h : i = k
        · subst h; rw [setAt_same, ← hmid] at h3; omega
        · rw [setAt_ne _ _ h] at h3; exact h3.2
      · have h3 := hc.2 i hi
        refine ⟨?_, h3.2⟩
        by_cases h : i = k
        · subst h; rw [setAt_same] at h3; omega
        · rw [setAt_ne _ _ h] at h3; exact h3.1
      · rw [half_eq (code _), half_eq (code L), bL, e1, ← h2]
        congr 1
        · congr 1
          apply Nat.eq_of_testBit_eq
          intro s
          obtain ⟨i, k', hk', e⟩ := split3 (s + (3 * j + k + 1))
          rw [Nat.testBit_div_two_pow, Nat.testBit_div_two_pow, e, code_bit _ _ _ hk', code_bit _ _ _ hk']
          by_cases h : k' = k
          · subst h
            have : j < i := by omega
            have h4 : ¬ i < j := by omega
            rw [setAt_same, upB_pred]
            simp [this, h4]
          · rw [setAt_ne _ _ h]
        · rw [code_bit _ _ _ hk, setAt_same, upB_pred]
          simp
      · rw [half_eq (code _), half_eq (code H), bH, e2, h2]
        congr 1
        · congr 1
          apply Nat.eq_of_testBit_eq
          intro s
          obtain ⟨i, k', hk', e⟩ := split3 (s + (3 * j + k + 1))
          rw [Nat.testBit_div_two_pow, Nat.testBit_div_two_pow, e, code_bit _ _ _ hk', code_bit _ _ _ hk']
          by_cases h : k' = k
          · subst h
            have : j < i := by omega
            have h4 : ¬ i = j := by omega
            rw [setAt_same, upB_bit]
            simp [this, h4]
          · rw [setAt_ne _ _ h]
        · rw [code_bit _ _ _ hk, setAt_same, upB_bit]
          simp [hj]
    have maxOf : ∀ {A B : Nat → Nat} (c : Nat), Inb A B c → (∀ i, i < 3 → B i < 16384) → code A ≤ c ∧ c ≤ code B := fun {A B} c hc hB => by
      have h3 := code_mono (f := A) (g := cds c) (fun k hk => (hc.2 k hk).1) (fun k _ => cds_lt c k)
      have h4 := code_mono (f := cds c) (g := B) (fun k hk => (hc.2 k hk).2) hB
      rw [code_cds hc.1] at h3 h4
      exact ⟨h3, h4⟩
    cases hn : n.testBit (3 * j + k) <;> cases hl : (code L).testBit (3 * j + k) <;> cases hh : (code H).testBit (3 * j + k) <;> simp only [hn, hl, hh, reduceCtorEq, and_true, true_and, and_false, false_and, if_true, if_false, ↓reduceIte]
    · exact nextL_ok n (3 * j + k) (by omega) L H best hLH hH (by rw [qn, qL, hn, hl, h1]) (by rw [qH, qL, hh, hl, h2])
    · obtain ⟨a1, a2, a3, a4, a5, a6, a7, a8⟩ := both hl hh
      rw [← code_down H j k hj hk, ← code_up L j k hj hk]
      have ih := nextL_ok n (3 * j + k) (by omega) L (setAt H k (upB (H k) j - 1)) (code (setAt L k (upB (L k) j)) : Nat) a1 a2 (by rw [qn, qL, hn, hl, h1]) a7
      have up : n < code (setAt L k (upB (L k) j)) := lt_of_half (t := 3 * j + k) (by rw [a8, qn, qH, hn, hh, h1, h2]; simp)
      have ln : ∀ c, Inb L (setAt H k (upB (H k) j - 1)) c → c < code (setAt L k (upB (L k) j)) := fun c hc =>
        Nat.lt_of_le_of_lt (maxOf c hc a2).2 (lt_of_half (t := 3 * j + k) (by rw [a8, a7, qL, qH, hl, hh, h2]; simp))
      have ui : Inb (setAt L k (upB (L k) j)) H (code (setAt L k (upB (L k) j))) := ⟨code_lt _, fun i hi => by
        rw [cds_code hi (Nat.lt_of_le_of_lt (a3 i hi) (hH i hi))]
        exact ⟨Nat.le_refl _, a3 i hi⟩⟩
      rcases ih with ⟨c, hc, hnc, hr, hmn⟩ | ⟨hno, hr⟩
      · refine Or.inl ⟨c, a5 c hc, hnc, hr, fun d hd hnd => ?_⟩
        rcases a4 d hd with h | h
        · exact hmn d h hnd
        · exact Nat.le_of_lt (Nat.lt_of_lt_of_le (ln c hc) (maxOf d h hH).1)
      · refine Or.inl ⟨_, a6 _ ui, Nat.le_of_lt up, hr, fun d hd hnd => ?_⟩
        rcases a4 d hd with h | h
        · exact absurd (hno d h) (by omega)
        · exact (maxOf d h hH).1
    · exact absurd (code_mono hLH hH) (Nat.not_le_of_lt (lt_of_half (t := 3 * j + k) (by rw [qH, qL, hh, hl, h2]; simp)))
    · exact Or.inl ⟨code L, hLin, Nat.le_of_lt (lt_of_half (t := 3 * j + k) (by rw [qn, qL, hn, hl, h1]; simp)), rfl, fun d hd _ => hmin d hd⟩
    · exact Or.inr ⟨fun c hc => Nat.lt_of_le_of_lt (hmax c hc) (lt_of_half (t := 3 * j + k) (by rw [qn, qH, hn, hh, h1, h2]; simp)), rfl⟩
    · obtain ⟨a1, a2, a3, a4, a5, a6, a7, a8⟩ := both hl hh
      rw [← code_up L j k hj hk]
      have ih := nextL_ok n (3 * j + k) (by omega) (setAt L k (upB (L k) j)) H best a3 hH (by rw [a8, qn, qH, hn, hh, h1, h2]) a8.symm
      have ln : ∀ c, Inb L (setAt H k (upB (H k) j - 1)) c → c < n := fun c hc =>
        Nat.lt_of_le_of_lt (maxOf c hc a2).2 (lt_of_half (t := 3 * j + k) (by rw [a7, qL, qn, hl, hn, h1]; simp))
      rcases ih with ⟨c, hc, hnc, hr, hmn⟩ | ⟨hno, hr⟩
      · refine Or.inl ⟨c, a6 c hc, hnc, hr, fun d hd hnd => ?_⟩
        rcases a4 d hd with h | h
        · exact absurd (ln d h) (by omega)
        · exact hmn d h hnd
      · refine Or.inr ⟨fun c hc => ?_, hr⟩
        rcases a4 c hc with h | h
        · exact ln c h
        · exact hno c h
    · exact absurd (code_mono hLH hH) (Nat.not_le_of_lt (lt_of_half (t := 3 * j + k) (by rw [qH, qL, hh, hl, h2]; simp)))
    · exact nextL_ok n (3 * j + k) (by omega) L H best hLH hH (by rw [qn, qL, hn, hl, h1]) (by rw [qH, qL, hh, hl, h2])
end Go.Proofs.Ytkfijpghjjnpkaa
/-
  The least code of a cell of a box, as the reference finds it; it is what the search bit by bit finds. No program in sight, but for the cells.
-/
namespace Go.Proofs.Ytkfijpghjjnpkaa
set_option linter.unusedSimpArgs false

theorem mEnc_code {p : Pt} (h : p.In) : mEnc p = (code p.nat : Nat) := by
  unfold mEnc
  rw [if_pos h]
  rfl
theorem cds_dec (c k : Nat) (hk : k < 3) : ((mDecP c).at k) = (cds c k : Nat) := by
  rcases (by omega : k = 0 ∨ k = 1 ∨ k = 2) with rfl | rfl | rfl <;> simp [mDecP, Pt.at, cds]
/-- Corners have codes at their place. -/
theorem al_code {p : Pt} {l : Nat} (h : p.al l) : code p.nat % 8 ^ l = 0 := by
  rw [show (8 : Nat) ^ l = 2 ^ (3 * l) by rw [Nat.pow_mul]]
  apply Nat.eq_of_testBit_eq
  intro s
  rw [Nat.testBit_mod_two_pow, Nat.zero_testBit]
  obtain ⟨j, k, hk, rfl⟩ := split3 s
  by_cases hs : 3 * j + k < 3 * l
  · rw [code_bit _ _ _ hk]
    have h2 := congrArg (fun x => x.testBit j) (h.2 k hk)
    simp only [Nat.testBit_mod_two_pow, Nat.zero_testBit] at h2
    have h3 : j < l := by omega
    simp only [h3, decide_true, Bool.true_and] at h2
    rw [h2]
    simp
  · simp [hs]
theorem same_div {a d m : Nat} (h0 : a % m = 0) (h1 : a ≤ d) (h2 : d < a + m) : d / m = a / m := by
  have hm : 0 < m := by omega
  obtain ⟨q, rfl⟩ : ∃ q, a = m * q := ⟨a / m, by have e := Nat.div_add_mod a m; omega⟩
  obtain ⟨r, rfl⟩ : ∃ r, d = m * q + r := ⟨d - m * q, by omega⟩
  rw [Nat.mul_add_div hm, Nat.div_eq_of_lt (by omega), Nat.mul_div_cancel_left _ hm, Nat.add_zero]
/-- The codes of a cube are those of its cells. -/
theorem cube_co {p : Pt} {l d : Nat} (h : p.al l) (h1 : code p.nat ≤ d) (h2 : d < code p.nat + 8 ^ l) (k : Nat) (hk : k < 3) : p.nat k ≤ cds d k ∧ cds d k ≤ p.nat k + (2 ^ l - 1) := by
  have hd := same_div (al_code h) h1 h2
  have hp := Nat.two_pow_pos l
  have e : cds d k / 2 ^ l = p.nat k / 2 ^ l := by
    apply Nat.eq_of_testBit_eq
    intro s
    rw [Nat.testBit_div_two_pow, Nat.testBit_div_two_pow, cds_bit]
    by_cases hs : s + l < 14
    · have e2 := congrArg (fun x => x.testBit (3 * s + k)) hd
      rw [show (8 : Nat) ^ l = 2 ^ (3 * l) by rw [Nat.pow_mul]] at e2
      simp only [Nat.testBit_div_two_pow] at e2
      rw [show 3 * s + k + 3 * l = 3 * (s + l) + k by omega, code_bit _ _ _ hk] at e2
      rw [e2]
      simp [hs]
    · rw [big_bit (m := 14) (h.1.nat k).2 (by omega)]
      simp [hs]
  have e1 := Nat.div_add_mod (cds d k) (2 ^ l)
  have e2 := Nat.div_add_mod (p.nat k) (2 ^ l)
  have m1 := Nat.mod_lt (cds d k) hp
  rw [h.2 k hk] at e2
  rw [e] at e1
  omega
theorem child_nat {p : Pt} (h : p.In) (l i k : Nat) (hk : k < 3) : (p.child l i).nat k = p.nat k + 2 ^ l * (i / 2 ^ k % 2) := by
  have e0 : p.x = (p.nat 0 : Int) := (h.nat 0).1
  have e1 : p.y = (p.nat 1 : Int) := (h.nat 1).1
  have e2 : p.z = (p.nat 2 : Int) := (h.nat 2).1
  rcases (by omega : k = 0 ∨ k = 1 ∨ k = 2) with rfl | rfl | rfl
  · show (p.x + ((2 ^ l * (i % 2) : Nat) : Int)).toNat = _
    rw [Nat.pow_zero, Nat.div_one]
    omega
  · show (p.y + ((2 ^ l * (i / 2 % 2) : Nat) : Int)).toNat = _
    rw [Nat.pow_one]
    omega
  · show (p.z + ((2 ^ l * (i / 4 % 2) : Nat) : Int)).toNat = _
    rw [show (2 : Nat) ^ 2 = 4 from rfl]
    omega
theorem code_child {p : Pt} {l i : Nat} (h : p.al (l + 1)) (hl : l ≤ 13) (hi : i < 8) : code (p.child l i).nat = code p.nat + i * 8 ^ l := by
  have h8 : (8 : Nat) ^ l = 2 ^ (3 * l) := by rw [Nat.pow_mul]
  have hc := al_code h
  have e := Nat.div_add_mod (code p.nat) (8 ^ (l + 1))
  rw [hc, Nat.add_zero] at e
  rw [show (8 : Nat) ^ (l + 1) = 2 ^ (3 * l + 3) by rw [show 3 * l + 3 = 3 * (l + 1) by omega, Nat.pow_mul]] at e
  apply Nat.eq_of_testBit_eq
  intro s
  obtain ⟨j, k, hk, rfl⟩ := split3 s
  have hR : (code p.nat + i * 8 ^ l).testBit (3 * j + k) = if j < l then false else if j = l then i.testBit k else (code p.nat).testBit (3 * j + k) := by
    conv => lhs; rw [← e, h8]
    rw [Nat.testBit_two_pow_mul_add _ (by rw [Nat.pow_add, Nat.mul_comm]; exact Nat.mul_lt_mul_of_pos_left (by omega) (Nat.two_pow_pos _))]
    by_cases h1 : j < l
    · rw [if_pos h1, if_pos (by omega), Nat.testBit_mul_two_pow]
      have : ¬ 3 * l ≤ 3 * j + k := by omega
      simp [this]
    · rw [if_neg h1]
      by_cases h2 : j = l
      · subst h2
        rw [if_pos (by omega), if_pos rfl, Nat.testBit_mul_two_pow, show 3 * j + k - 3 * j = k by omega]
        simp
      · rw [if_neg h2, if_neg (by omega), Nat.testBit_div_two_pow, show 3 * j + k - (3 * l + 3) + (3 * l + 3) = 3 * j + k by omega]
  rw [hR, code_bit _ _ _ hk, child_nat h.1 _ _ _ hk]
  have e2 := Nat.div_add_mod (p.nat k) (2 ^ (l + 1))
  rw [h.2 k hk, Nat.add_zero] at e2
  have hb : i / 2 ^ k % 2 < 2 := Nat.mod_lt _ (by decide)
  have hx : (p.nat k + 2 ^ l * (i / 2 ^ k % 2)).testBit j = if j < l then false else if j = l then i.testBit k else (p.nat k).testBit j := by
    conv => lhs; rw [← e2]
    rw [Nat.testBit_two_pow_mul_add _ (by rw [Nat.pow_succ]; exact Nat.mul_lt_mul_of_pos_left hb (Nat.two_pow_pos _))]
    by_cases h1 : j < l
    · rw [if_pos h1, if_pos (by omega), Nat.mul_comm, Nat.testBit_mul_two_pow]
      have : ¬ l ≤ j := by omega
      simp [this]
    · rw [if_neg h1]
      by_cases h2 : j = l
      · subst h2
        rw [if_pos (by omega), if_pos rfl, Nat.mul_comm, Nat.testBit_mul_two_pow, Nat.sub_self, Nat.testBit_zero, Nat.testBit_eq_decide_div_mod_eq]
        simp
      · rw [if_neg h2, if_neg (by omega), Nat.testBit_div_two_pow, show j - (l + 1) + (l + 1) = j by omega]
  rw [hx, code_bit _ _ _ hk]
  by_cases h1 : j < l
  · simp [h1]
  · by_cases h2 : j = l
    · subst h2
      have : j < 14 := by omega
      simp [this]
    · simp [h1, h2]
theorem far_at2 (p : Pt) (l k : Nat) : (p.far l).at k = p.at k + ((2 ^ l : Nat) - 1 : Int) := by
  unfold Pt.at Pt.far
  split <;> rfl
theorem has_at {b : Bx} {p : Pt} : b.has p ↔ ∀ k, k < 3 → b.mn.at k ≤ p.at k ∧ p.at k < b.mx.at k :=
  ⟨fun h k hk => by rcases (by omega : k = 0 ∨ k = 1 ∨ k = 2) with rfl | rfl | rfl <;> first | exact h.1 | exact h.2.1 | exact h.2.2, fun h => ⟨h 0 (by decide), h 1 (by decide), h 2 (by decide)⟩⟩
theorem apart_at {b : Bx} {p f : Pt} : b.apart p f ↔ ∃ k, k < 3 ∧ (f.at k < b.mn.at k ∨ b.mx.at k ≤ p.at k) := by
  constructor
  · rintro ((h | h | h) | (h | h | h))
    · exact ⟨0, by decide, Or.inl h⟩
    · exact ⟨1, by decide, Or.inl h⟩
    · exact ⟨2, by decide, Or.inl h⟩
    · exact ⟨0, by decide, Or.inr h⟩
    · exact ⟨1, by decide, Or.inr h⟩
    · exact ⟨2, by decide, Or.inr h⟩
  · rintro ⟨k, hk, h⟩
    rcases (by omega : k = 0 ∨ k = 1 ∨ k = 2) with rfl | rfl | rfl
    · rcases h with h | h
      · exact Or.inl (Or.inl h)
      · exact Or.inr (Or.inl h)
    · rcases h with h | h
      · exact Or.inl (Or.inr (Or.inl h))
      · exact Or.inr (Or.inr (Or.inl h))
    · rcases h with h | h
      · exact Or.inl (Or.inr (Or.inr h))
      · exact Or.inr (Or.inr (Or.inr h))
/-- The code d is that of a cell of the box. -/
def Bx.cell (b : Bx) (d : Nat) : Prop := b.has (mDecP d)
instance (b : Bx) (d : Nat) : Decidable (b.cell d) := by unfold Bx.cell; infer_instance
theorem cube_at {p : Pt} {l d : Nat} (h : p.al l) (h1 : code p.nat ≤ d) (h2 : d < code p.nat + 8 ^ l) (k : Nat) (hk : k < 3) : p.at k ≤ (mDecP d).at k ∧ (mDecP d).at k ≤ (p.far l).at k := by
  have h3 := cube_co h h1 h2 k hk
  have h4 := (h.1.nat k).1
  have hp := Nat.two_pow_pos l
  rw [cds_dec _ _ hk, far_at2, h4]
  omega
theorem apart_no {b : Bx} {p : Pt} {l d : Nat} (h : p.al l) (ha : b.apart p (p.far l)) (h1 : code p.nat ≤ d) (h2 : d < code p.nat + 8 ^ l) : ¬ b.cell d := by
  intro hc
  obtain ⟨k, hk, hx⟩ := apart_at.1 ha
  have h3 := cube_at h h1 h2 k hk
  have h4 := has_at.1 hc k hk
  omega
theorem whole_all {b : Bx} {p : Pt} {l d : Nat} (h : p.al l) (ha : b.whole p l) (h1 : code p.nat ≤ d) (h2 : d < code p.nat + 8 ^ l) : b.cell d := by
  refine has_at.2 fun k hk => ?_
  have h3 := cube_at h h1 h2 k hk
  have h4 := has_at.1 ha.1.2 k hk
  have h5 := has_at.1 ha.2.2 k hk
  omega
/-- The first number at least 0 among f i, f (i + 1), .. -/
def firstFrom (f : Nat → Int) : Nat → Nat → Int
  | 0, _ => -1
  | m + 1, i => if 0 ≤ f i then f i else firstFrom f m (i + 1)
/-- The least code, at least n, of a cell of a box in a cube. -/
def leastL (b : Bx) (n : Int) : Nat → Pt → Int
  | 0, p => if b.apart p (p.far 0) ∨ mEnc p + ((8 ^ 0 : Nat) : Int) - 1 < n then -1 else max (mEnc p) n
  | l + 1, p => if b.apart p (p.far (l + 1)) ∨ mEnc p + ((8 ^ (l + 1) : Nat) : Int) - 1 < n then -1 else if b.whole p (l + 1) then max (mEnc p) n else firstFrom (fun i => leastL b n l (p.child l i)) 8 0
/-- r is the least code, at least n, of a cell in a stretch of codes, or -1. -/
def IsLst (b : Bx) (n : Int) (lo hi : Nat) (r : Int) : Prop := (∃ c : Nat, lo ≤ c ∧ c < hi ∧ b.cell c ∧ n ≤ c ∧ r = (c : Int) ∧ ∀ d, lo ≤ d → d < hi → b.cell d → n ≤ d → c ≤ d) ∨ ((∀ d : Nat, lo ≤ d → d < hi → b.cell d → (d : Int) < n) ∧ r = -1)
theorem IsLst.unique {b : Bx} {n : Int} {lo hi : Nat} {r s : Int} (h : IsLst b n lo hi r) (g : IsLst b n lo hi s) : r = s := by
  rcases h with ⟨c, h1, h2, h3, h4, rfl, h6⟩ | ⟨h1, rfl⟩
  · rcases g with ⟨d, g1, g2, g3, g4, rfl, g6⟩ | ⟨g1, rfl⟩
    · have := h6 d g1 g2 g3 g4
      have := g6 c h1 h2 h3 h4
      omega
    · have := g1 c h1 h2 h3
      omega
  · rcases g with ⟨d, g1, g2, g3, g4, rfl, g6⟩ | ⟨g1, rfl⟩
    · have := h1 d g1 g2 g3
      omega
    · rfl
theorem IsLst.join {b : Bx} {n : Int} {lo m hi : Nat} {r s : Int} (h : IsLst b n lo m r) (g : IsLst b n m hi s) (hm : lo ≤ m) (hh : m ≤ hi) : IsLst b n lo hi (if 0 ≤ r then r else s) := by
  rcases h with ⟨c, h1, h2, h3, h4, rfl, h6⟩ | ⟨h1, rfl⟩
  · rw [if_pos (Int.natCast_nonneg c)]
    refine Or.inl ⟨c, h1, by omega, h3, h4, rfl, fun d d1 d2 d3 d4 => ?_⟩
    by_cases hd : d < m
    · exact h6 d d1 hd d3 d4
    · omega
  · rw [if_neg (by decide)]
    rcases g with ⟨c, g1, g2, g3, g4, rfl, g6⟩ | ⟨g1, rfl⟩
    · refine Or.inl ⟨c, by omega, g2, g3, g4, rfl, fun d d1 d2 d3 d4 => ?_⟩
      by_cases hd : d < m
      · have := h1 d d1 hd d3
        omega
      · exact g6 d (by omega) d2 d3 d4
    · refine Or.inr ⟨fun d d1 d2 d3 => ?_, rfl⟩
      by_cases hd : d < m
      · exact h1 d d1 hd d3
      · exact g1 d (by omega) d2 d3
theorem first_ok {b : Bx} {n : Int} {f : Nat → Int} {e s : Nat} : ∀ (m i : Nat), i + m = 8 → (∀ j, j < 8 → IsLst b n (e + j * s) (e + j * s + s) (f j)) → IsLst b n (e + i * s) (e + 8 * s) (firstFrom f m i)
  | 0, i, hi, _ => by
    obtain rfl : i = 8 := by omega
    exact Or.inr ⟨fun d d1 d2 => by omega, rfl⟩
  | m + 1, i, hi, h => by
    have ih := first_ok (f := f) m (i + 1) (by omega) h
    rw [Nat.add_mul, Nat.one_mul, ← Nat.add_assoc] at ih
    have hm := Nat.mul_le_mul_right s (by omega : i + 1 ≤ 8)
    rw [Nat.add_mul, Nat.one_mul] at hm
    exact (h i (by omega)).join ih (by omega) (by omega)
theorem least_cut {b : Bx} {n : Int} {l : Nat} {p : Pt} (hp : p.al l) (h : b.apart p (p.far l) ∨ mEnc p + ((8 ^ l : Nat) : Int) - 1 < n) : IsLst b n (code p.nat) (code p.nat + 8 ^ l) (-1) := by
  refine Or.inr ⟨fun d d1 d2 d3 => ?_, rfl⟩
  rcases h with h | h
  · exact absurd d3 (apart_no hp h d1 d2)
  · rw [mEnc_code hp.1] at h
    omega
theorem least_whole {b : Bx} {n : Int} {l : Nat} {p : Pt} (hp : p.al l) (h : ¬ (b.apart p (p.far l) ∨ mEnc p + ((8 ^ l : Nat) : Int) - 1 < n)) (hw : b.whole p l) : IsLst b n (code p.nat) (code p.nat + 8 ^ l) (max (mEnc p) n) := by
  have h2 : ¬ (mEnc p + ((8 ^ l : Nat) : Int) - 1 < n) := fun e => h (Or.inr e)
  rw [mEnc_code hp.1] at h2 ⊢
  have h8 : 0 < 8 ^ l := Nat.pow_pos (by decide)
  have hall := fun d => whole_all (b := b) (d := d) hp hw
  generalize 8 ^ l = s at *
  refine Or.inl ⟨(max (code p.nat : Int) n).toNat, by omega, by omega, ?_, by omega, by omega, fun d d1 _ _ d4 => by omega⟩
  exact hall _ (by omega) (by omega)
theorem leastL_ok (b : Bx) (n : Int) : ∀ (l : Nat) (p : Pt), l ≤ 14 → p.al l → IsLst b n (code p.nat) (code p.nat + 8 ^ l) (leastL b n l p)
  | 0, p, _, hp => by
    rw [leastL]
    split
    · rename_i h; exact least_cut hp h
    · rename_i h; exact least_whole hp h (whole_zero hp.1 (fun e => h (Or.inl e)))
  | l + 1, p, hl, hp => by
    rw [leastL]
    split
    · rename_i h; exact least_cut hp h
    · rename_i h
      split
      · rename_i hw; exact least_whole hp h hw
      · have h8 := first_ok (b := b) (n := n) (f := fun i => leastL b n l (p.child l i)) (e := code p.nat) (s := 8 ^ l) 8 0 rfl (fun j hj => by
          have ih := leastL_ok b n l (p.child l j) (by omega) (al_child hp (by omega) hj)
          rw [code_child hp (by omega) hj] at ih
          exact ih)
        rw [Nat.zero_mul, Nat.add_zero, Nat.mul_comm, ← Nat.pow_succ] at h8
        exact h8
/-- Next. -/
def mNext (b : Bx) (n : Int) : Int := if b.ne then leastL b n 14 p0 else -1
theorem mNext_ok (b : Bx) (n : Int) : IsLst b n 0 4398046511104 (mNext b n) := by
  unfold mNext
  split
  · have h := leastL_ok b n 14 p0 (by omega) al_top
    rw [show code p0.nat = 0 by decide, show 0 + 8 ^ 14 = 4398046511104 from rfl] at h
    exact h
  · rename_i hne
    refine Or.inr ⟨fun d _ _ hd => ?_, rfl⟩
    unfold Bx.cell Bx.has at hd
    unfold Bx.ne at hne
    exact absurd ⟨by omega, by omega, by omega⟩ hne
/-- The search bit by bit. -/
def bNext (b : Bx) (n : Int) : Int := if b.ok ∧ n < 4398046511104 then nextL (max n 0).toNat 42 (code b.lo.nat) (code b.hi.nat) (-1) else -1
theorem bNext_ok (b : Bx) (n : Int) : IsLst b n 0 4398046511104 (bNext b n) := by
  unfold bNext
  have hcell : ∀ d : Nat, b.cell d → ∀ k, k < 3 → b.lo.at k ≤ (cds d k : Nat) ∧ ((cds d k : Nat) : Int) ≤ b.hi.at k := fun d hd k hk => by
    have h := has_at.1 hd k hk
    have h2 := cds_lt d k
    rw [cds_dec _ _ hk] at h
    rw [lo_at, hi_at]
    omega
  split
  · rename_i h
    obtain ⟨hok, hn⟩ := h
    have hlo : ∀ k, k < 3 → b.lo.at k = (b.lo.nat k : Nat) ∧ b.hi.at k = (b.hi.nat k : Nat) ∧ b.lo.nat k ≤ b.hi.nat k ∧ b.hi.nat k < 16384 := fun k hk => by
      have h1 := hok k hk
      have e1 : b.lo.nat k = (b.lo.at k).toNat := rfl
      have e2 : b.hi.nat k = (b.hi.at k).toNat := rfl
      rw [e1, e2]
      rw [lo_at, hi_at] at h1 ⊢
      omega
    have hin : ∀ c : Nat, Inb b.lo.nat b.hi.nat c ↔ c < 4398046511104 ∧ b.cell c := fun c => by
      constructor
      · rintro ⟨h1, h2⟩
        refine ⟨h1, has_at.2 fun k hk => ?_⟩
        have h3 := h2 k hk
        have h4 := hlo k hk
        rw [lo_at, hi_at] at h4
        rw [cds_dec _ _ hk]
        omega
      · rintro ⟨h1, h2⟩
        refine ⟨h1, fun k hk => ?_⟩
        have h3 := hcell c h2 k hk
        have h4 := hlo k hk
        omega
    have hd : ∀ x : Nat, x < 4398046511104 → x / 2 ^ 42 = 0 := fun x hx => Nat.div_eq_of_lt hx
    have hx := nextL_ok (max n 0).toNat 42 (by omega) b.lo.nat b.hi.nat (-1) (fun k hk => (hlo k hk).2.2.1) (fun k hk => (hlo k hk).2.2.2) (by rw [hd _ (by omega), hd _ (code_lt _)]) (by rw [hd _ (code_lt _), hd _ (code_lt _)])
    rcases hx with ⟨c, h1, h2, h3, h4⟩ | ⟨h1, h2⟩
    · have h5 := (hin c).1 h1
      exact Or.inl ⟨c, Nat.zero_le _, h5.1, h5.2, by omega, h3, fun d _ d2 d3 d4 => h4 d ((hin d).2 ⟨d2, d3⟩) (by omega)⟩
    · refine Or.inr ⟨fun d _ d2 d3 => ?_, h2⟩
      have := h1 d ((hin d).2 ⟨d2, d3⟩)
      omega
  · rename_i h
    refine Or.inr ⟨fun d _ d2 d3 => ?_, rfl⟩
    by_cases hok : b.ok
    · have hn : ¬ n < 4398046511104 := fun e => h ⟨hok, e⟩
      omega
    · refine absurd (fun k hk => ?_) hok
      have := hcell d d3 k hk
      omega
theorem bNext_eq (b : Bx) (n : Int) : bNext b n = mNext b n := (bNext_ok b n).unique (mNext_ok b n)
end Go.Proofs.Ytkfijpghjjnpkaa
/-
  'or' and 'and not' of ints at an operation. No statement is proved here.
-/
namespace Go.Proofs.Ytkfijpghjjnpkaa
open Go.RowKit
theorem i64_andNot_n (a b : Nat) (ha : a < 9223372036854775808) (hb : b < 9223372036854775808) : bits .andNot .i64 (a : Int) (b : Int) = ((nAnd a b : Nat) : Int) := by
  have hx : nAnd a b < 2 ^ 63 := Nat.lt_of_le_of_lt Nat.and_le_left (by omega)
  have e : (BitVec.ofInt 64 (a : Int) &&& ~~~ BitVec.ofInt 64 (b : Int)).toNat = nAnd a b := by
    apply Nat.eq_of_testBit_eq
    intro s
    rw [nAnd_bit _ _ _ ha, BitVec.toNat_and, Nat.testBit_and, ofInt_i64 a ha, BitVec.toNat_not, ofInt_i64 b hb]
    by_cases hs : s < 63
    · rw [Nat.sub_sub, Nat.add_comm 1 b, Nat.testBit_two_pow_sub_succ (by omega)]
      have : s < 64 := by omega
      simp [this]
    · rw [big_bit (m := 63) ha (by omega)]
      simp
  show IntKind.i64.wrap ((BitVec.ofInt 64 (a : Int) &&& ~~~ BitVec.ofInt 64 (b : Int)).toNat : Int) = _
  rw [e, IntKind.wrap_i64]
  omega
section
variable {P : Program} {w : World} {o : Oper} {a : Act} {t ty : TypeId}
theorem orNat {m n : Nat} (x y : Operand) (ho : o.op = .binOp .or t x y ty) (hx : a.eval x = .int .i64 (m : Int)) (hy : a.eval y = .int .i64 (n : Int)) (hm : m < 9223372036854775808) (hn : n < 9223372036854775808) : (execOp a.eval o).run P w = .ok (.value (.int .i64 ((m ||| n : Nat) : Int))) w := by
  have h3 := i64_or_n m n hm hn
  unfold execOp
  simp [ho, hx, hy, eqGuard, binOp_or, Op.intBits]
  exact h3
theorem andNotNat {m n : Nat} (x y : Operand) (ho : o.op = .binOp .andNot t x y ty) (hx : a.eval x = .int .i64 (m : Int)) (hy : a.eval y = .int .i64 (n : Int)) (hm : m < 9223372036854775808) (hn : n < 9223372036854775808) : (execOp a.eval o).run P w = .ok (.value (.int .i64 ((nAnd m n : Nat) : Int))) w := by
  have h3 := i64_andNot_n m n hm hn
  unfold execOp
  simp [ho, hx, hy, eqGuard, binOp_andNot, Op.intBits]
  simp [bits] at h3
  exact h3
end
def RetN (w : World) (n : Int) (e : Ending) (w' : World) : Prop := e = .returned (.int .i64 n) ∧ Below w.heap.size w w'
set_option maxRecDepth 100000 in
set_option maxHeartbeats 2000000 in
theorem below_any (j k : Nat) (hk : k < 3) (hj : 3 * j + k ≤ 41) (w : World) : Calls Try.prog 44 #[.int .i64 ((3 * j + k : Nat) : Int)] w (RetI w (maskL j k : Nat)) := by
  have hml := maskL_lt j k
  have hM : maskL j k < 2 ^ 42 := Nat.lt_of_lt_of_le hml (Nat.pow_le_pow_right (n := 2) (by decide) (by omega))
  have HML := Lib.hid (show ∀ m, maskL (m + 1) k = maskL m k ||| 2 ^ (3 * m + k) from fun m => rfl)
  have HM0 := Lib.hid (show maskL 0 k = 0 from rfl)
  clear hml
  obtain ⟨t, ht⟩ : ∃ t, t = 3 * j + k := ⟨_, rfl⟩
  rw [← ht]
  have HT := Lib.hid ht
  have ht41 : t ≤ 41 := by omega
  clear ht hj
  go_enter Try.func44, Try.ntmps44
  go_wp2_with fail
  go_loopw [3, 4] (fun mm ii wr => ∃ m acc : Nat, mm = .int .i64 (acc : Int) ∧ ii = .int .i64 (((3 * m + k : Nat) : Int) - 3) ∧ acc ||| maskL m k = maskL j k ∧ m ≤ j ∧ Below w.heap.size w wr) (fun _ ii _ => (intOf ii + 3).toNat)
  case atStart => exact ⟨j, 0, rfl, by rw [HT.out], by rw [Nat.zero_or], Nat.le_refl _, Below.refl _ _⟩
  case round =>
    obtain ⟨m, acc, rfl, rfl, hm, hmj, hb⟩ := hrel
    cases m with
    | zero =>
      go_wp2_with fail
      go_ret
      rw [HM0.out, Nat.or_zero] at hm
      rw [hm]
      exact ⟨rfl, hb⟩
    | succ m =>
      have hacc : acc ≤ maskL j k := by rw [← hm]; exact Nat.left_le_or
      have hpw : 1 * 2 ^ (3 * m + k) ≤ 2 ^ 41 := by
        rw [Nat.one_mul]
        exact Nat.pow_le_pow_right (n := 2) (by decide) (by have := HT.out; omega)
      rw [HML.out] at hm
      obtain ⟨x, hx⟩ : ∃ x, x = 3 * m + k := ⟨_, rfl⟩
      rw [show (((3 * (m + 1) + k : Nat) : Int) - 3) = (x : Int) by omega]
      rw [← hx] at hpw hm
      have HX := Lib.hid hx
      have hx41 : x ≤ 41 := by have := HT.out; omega
      clear hx
      have hcond : (0 : Int) ≤ (x : Int) := Int.natCast_nonneg _
      go_wp2_with (first | (with_reducible refine opVal (v := .int .i64 ((1 * 2 ^ x : Nat) : Int)) (wn rfl) (shlNat (m := 1) (n := x) (.const (.int .i64 1)) (.tmp 12) rfl rfl rfl (by omega) (by omega)) ?_) | (with_reducible refine opVal (v := .int .i64 ((acc ||| 1 * 2 ^ x : Nat) : Int)) (wn rfl) (orNat (.tmp 11) (.tmp 13) rfl rfl rfl (by omega) (by omega)) ?_))
      refine ⟨⟨m, acc ||| 1 * 2 ^ x, ?_, ?_, ?_, by omega, hb⟩, ?_⟩
      · first | rfl | simp
      · rw [HX.out]
      · rw [Nat.one_mul, Nat.or_assoc, Nat.or_comm (2 ^ x)]; exact hm
      · simp [intOf]; omega
end Go.Proofs.Ytkfijpghjjnpkaa
/-
  Next. No statement is proved here.
-/
namespace Go.Proofs.Ytkfijpghjjnpkaa
open Go.RowKit
set_option linter.unusedVariables false
set_option linter.unusedSimpArgs false

theorem shlU {P : Program} {w : World} {o : Oper} {a : Act} {t ty : TypeId} {m n : Nat} (x y : Operand) (ho : o.op = .binOp .shl t x y ty) (hx : a.eval x = .int .i64 (m : Int)) (hy : a.eval y = .int .u64 (n : Int)) (hn : n ≤ 64) (h : m * 2 ^ n < 9223372036854775808) : (execOp a.eval o).run P w = .ok (.value (.int .i64 ((m * 2 ^ n : Nat) : Int))) w := by
  have hC : (m : Int) * 2 ^ n = ((m * 2 ^ n : Nat) : Int) := by simp
  generalize m * 2 ^ n = C at *
  have hw := IntWalk.i64_in (C : Int) (by omega)
  have hn2 : ¬ (64 : Int) < (n : Int) := by omega
  unfold execOp
  simp [ho, hx, hy, eqGuard, binOp_shl]
  rw [hC]
  exact hw
theorem below_t (t : Nat) (ht : t ≤ 41) (w : World) : Calls Try.prog 44 #[.int .i64 (t : Int)] w (RetI w (maskL (t / 3) (t % 3) : Nat)) := by
  have h := below_any (t / 3) (t % 3) (Nat.mod_lt _ (by decide)) (by omega) w
  rw [show 3 * (t / 3) + t % 3 = t by omega] at h
  exact h
theorem shlZ {P : Program} {w : World} {o : Oper} {a : Act} {t ty : TypeId} {n z : Nat} (hz : z = 1 * 2 ^ n) (x y : Operand) (ho : o.op = .binOp .shl t x y ty) (hx : a.eval x = .int .i64 1) (hy : a.eval y = .int .i64 (n : Int)) (hn : n ≤ 64) (h : z < 9223372036854775808) : (execOp a.eval o).run P w = .ok (.value (.int .i64 (z : Int))) w := by
  subst hz
  exact shlNat (m := 1) x y ho hx hy hn h
def vOf (n lo hi t : Nat) : Nat := (n / 2 ^ t % 2 * 2 ^ 2 ||| lo / 2 ^ t % 2 * 2 ^ 1) ||| hi / 2 ^ t % 2
theorem nextL_step (n t lo hi : Nat) (best : Int) : nextL n (t + 1) lo hi best =
    if vOf n lo hi t = 1 then nextL n t lo (nAnd hi (1 * 2 ^ t) ||| maskL (t / 3) (t % 3)) ((nAnd lo (maskL (t / 3) (t % 3)) ||| 1 * 2 ^ t : Nat) : Int)
    else if vOf n lo hi t = 3 then (lo : Int) else if vOf n lo hi t = 4 then best
    else if vOf n lo hi t = 5 then nextL n t (nAnd lo (maskL (t / 3) (t % 3)) ||| 1 * 2 ^ t) hi best else nextL n t lo hi best := by
  rw [nextL, Nat.one_mul]
  unfold vOf
  rw [Nat.testBit_eq_decide_div_mod_eq, Nat.testBit_eq_decide_div_mod_eq, Nat.testBit_eq_decide_div_mod_eq]
  rcases Nat.mod_two_eq_zero_or_one (n / 2 ^ t) with h1 | h1 <;> rcases Nat.mod_two_eq_zero_or_one (lo / 2 ^ t) with h2 | h2 <;> rcases Nat.mod_two_eq_zero_or_one (hi / 2 ^ t) with h3 | h3 <;> rw [h1, h2, h3] <;> simp
theorem lt42 {t : Nat} (h : t ≤ 41) : 1 * 2 ^ t ≤ 2 ^ 41 := by
  rw [Nat.one_mul]
  exact Nat.pow_le_pow_right (n := 2) (by decide) h
theorem nAnd_le (a b : Nat) : nAnd a b ≤ a := Nat.and_le_left
theorem vOf_lt (n lo hi t : Nat) : vOf n lo hi t < 8 := by
  unfold vOf
  rcases Nat.mod_two_eq_zero_or_one (n / 2 ^ t) with h1 | h1 <;> rcases Nat.mod_two_eq_zero_or_one (lo / 2 ^ t) with h2 | h2 <;> rcases Nat.mod_two_eq_zero_or_one (hi / 2 ^ t) with h3 | h3 <;> rw [h1, h2, h3] <;> decide
set_option maxRecDepth 100000 in
set_option maxHeartbeats 4000000 in
theorem next_any (b : Bx) (nn : Int) (w : World) : Calls Try.prog 28 #[.agg (bxs b).toArray, .int .i64 nn] w (RetI w (mNext b nn)) := by
  rw [← bNext_eq]
  have HCL := Lib.hid (clip_any b)
  have HEL := Lib.hid (encode_any b.lo)
  have HEH := Lib.hid (encode_any b.hi)
  have HR : Hid (bNext b nn = if b.ok ∧ nn < 4398046511104 then nextL (max nn 0).toNat 42 (code b.lo.nat) (code b.hi.nat) (-1) else -1) := Lib.hid rfl
  have HLO : Hid (b.ok → b.lo.In ∧ b.hi.In) := Lib.hid (fun h => by
    have key : ∀ k, k < 3 → (0 ≤ b.lo.at k ∧ b.lo.at k < 16384) ∧ (0 ≤ b.hi.at k ∧ b.hi.at k < 16384) := fun k hk => by
      have h1 := h k hk
      rw [lo_at, hi_at] at h1 ⊢
      omega
    exact ⟨.of fun k hk => (key k hk).1, .of fun k hk => (key k hk).2⟩)
  generalize bNext b nn = RES at *
  go_enter Try.func28, Try.ntmps28
  go_wp2_with (with_reducible refine bxArr (cs := bxs b) (.tmp 0) (wn rfl) rfl rfl ?_)
  intro w1 h1 hb
  go_wp2_with (with_reducible refine ldArr (.tmp 2) Try.ag_bx (wn rfl) rfl rfl rfl h1 ?_)
  refine (HCL.out _).mono ?_
  rintro e w3 ⟨f, l, rfl, hfl, b3⟩
  replace hb := hb.trans (b3.mono hb.size)
  clear b3 h1
  go_wp2_with (with_reducible refine alArr (z := pcs p0) Try.ag_i3 (wn rfl) rfl ?_)
  intro w4 h5 b4
  go_wp2_with (with_reducible refine alArr (z := pcs p0) Try.ag_i3 (wn rfl) rfl ?_)
  intro w5 h6 b5
  have l4 := h5.lt
  have s4 := b4.size
  have ls3 := hb.size
  replace h5 := h5.below b5 l4
  replace hb := (hb.trans (b4.mono ls3)).trans (b5.mono (Nat.le_trans ls3 s4))
  clear b4 b5
  generalize w3.heap.size = g5 at *
  generalize w4.heap.size = g6 at *
  go_wp2_with (with_reducible refine stArrG (cs := pcs f) (.tmp 5) (.tmp 16) Try.ag_i3 (wn rfl) rfl rfl (by kernel_rfl) h5 rfl rfl (pcs_one _) ?_)
  intro w6 h5 k6
  replace h6 := h6.grown k6 (fun e => by injection e with e; omega)
  replace hb := hb.grown k6 hb.size (fun k e => by cases e; omega)
  clear k6
  go_wp2_with (with_reducible refine stArrG (cs := pcs l) (.tmp 6) (.tmp 17) Try.ag_i3 (wn rfl) rfl rfl (by kernel_rfl) h6 rfl rfl (pcs_one _) ?_)
  intro w7 h6 k7
  replace h5 := h5.grown k7 (fun e => by injection e with e; omega)
  replace hb := hb.grown k7 hb.size (fun k e => by cases e; omega)
  clear k7
  by_cases hok : b.ok
  · obtain ⟨rfl, rfl⟩ := hfl hok
    have hin := HLO.out hok
    have HMN := Lib.hid (mEnc_code hin.1)
    have HMX := Lib.hid (mEnc_code hin.2)
    rw [HMN.out] at HEL
    rw [HMX.out] at HEH
    have hlo := code_lt b.lo.nat
    have hhi := code_lt b.hi.nat
    generalize code b.lo.nat = lo0 at *
    generalize code b.hi.nat = hi0 at *
    rw [decide_eq_true hok]
    by_cases hn : nn < 4398046511104
    · have HR2 := Lib.hid (show RES = nextL (max nn 0).toNat 42 lo0 hi0 (-1) by rw [HR.out, if_pos ⟨hok, hn⟩])
      obtain ⟨n, hnn⟩ : ∃ n : Nat, max nn 0 = (n : Int) := ⟨(max nn 0).toNat, by omega⟩
      rw [hnn, Int.toNat_natCast] at HR2
      have hn42 : n < 4398046511104 := by omega
      have HN := Lib.hid hnn
      clear hnn hok hfl HR HCL HLO HMN HMX hin
      go_wp2_with fail
      first | rw [HN.out] | trace_state
      replace h5 := h5.drew
      replace h6 := h6.drew
      replace hb := hb.drew
      refine rgStart (fun w' => Arr w' g5 57 (pcs b.lo) ∧ Arr w' g6 57 (pcs b.hi)) (by kernel_rfl) ?_
      have hq : (fun w' : World => Arr w' g5 57 (pcs b.lo) ∧ Arr w' g6 57 (pcs b.hi)) _ := ⟨h5, h6⟩
      clear h5 h6
      generalize World.drew _ = wd at *
      refine rgLoad (S := fun w' => Arr w' g5 57 (pcs b.lo) ∧ Arr w' g6 57 (pcs b.hi)) (i := 0) (b := g5) (off := 0) (.tmp 5) (pcs b.lo) Try.ag_i3 rfl (by kernel_rfl) (by kernel_rfl) (fun _ _ _ h => h) rfl (by kernel_rfl) rfl (fun w h j u hu => by rw [Nat.zero_add]; exact (h.1).cell hu) hq ?_
      refine rgLoad (S := fun w' => Arr w' g5 57 (pcs b.lo) ∧ Arr w' g6 57 (pcs b.hi)) (i := 3) (b := g6) (off := 0) (.tmp 6) (pcs b.hi) Try.ag_i3 rfl (by kernel_rfl) (by kernel_rfl) (fun _ _ _ h => h) rfl (by kernel_rfl) rfl (fun w h j u hu => by rw [Nat.zero_add]; exact (h.2).cell hu) hq ?_
      try simp only [Act.put, List.setIfInBounds_toArray, List.set_cons_succ, List.set_cons_zero]
      refine rgNext (S := fun w' => Arr w' g5 57 (pcs b.lo) ∧ Arr w' g6 57 (pcs b.hi)) (i := 1) (by kernel_rfl) rfl ?_
      refine callOp 34 [.agg (pcs b.lo).toArray] [] [] (by kernel_rfl) (by kernel_rfl) rfl rfl rfl ?_
      refine (point_any b.lo _).mono ?_
      rintro e wz ⟨rfl, bz⟩
      replace hq := And.intro (hq.1.below bz hq.1.lt) (hq.2.below bz hq.2.lt)
      replace hb := hb.trans (bz.mono hb.size)
      clear bz
      refine ⟨_, rfl, ?_⟩
      refine rgBack hq ?_
      try simp only [Act.put, List.setIfInBounds_toArray, List.set_cons_succ, List.set_cons_zero]
      refine rgNext (S := fun w' => Arr w' g5 57 (pcs b.lo) ∧ Arr w' g6 57 (pcs b.hi)) (i := 2) (by kernel_rfl) rfl ?_
      refine callOp 13 [.agg (pcs b.lo).toArray] [] [] (by kernel_rfl) (by kernel_rfl) rfl rfl rfl ?_
      refine (HEL.out _).mono ?_
      rintro e wz ⟨rfl, bz⟩
      replace hq := And.intro (hq.1.below bz hq.1.lt) (hq.2.below bz hq.2.lt)
      replace hb := hb.trans (bz.mono hb.size)
      clear bz
      refine ⟨_, rfl, ?_⟩
      refine rgBack hq ?_
      try simp only [Act.put, List.setIfInBounds_toArray, List.set_cons_succ, List.set_cons_zero]
      refine rgNext (S := fun w' => Arr w' g5 57 (pcs b.lo) ∧ Arr w' g6 57 (pcs b.hi)) (i := 4) (by kernel_rfl) rfl ?_
      refine callOp 34 [.agg (pcs b.hi).toArray] [] [] (by kernel_rfl) (by kernel_rfl) rfl rfl rfl ?_
      refine (point_any b.hi _).mono ?_
      rintro e wz ⟨rfl, bz⟩
      replace hq := And.intro (hq.1.below bz hq.1.lt) (hq.2.below bz hq.2.lt)
      replace hb := hb.trans (bz.mono hb.size)
      clear bz
      refine ⟨_, rfl, ?_⟩
      refine rgBack hq ?_
      try simp only [Act.put, List.setIfInBounds_toArray, List.set_cons_succ, List.set_cons_zero]
      refine rgNext (S := fun w' => Arr w' g5 57 (pcs b.lo) ∧ Arr w' g6 57 (pcs b.hi)) (i := 5) (by kernel_rfl) rfl ?_
      refine callOp 13 [.agg (pcs b.hi).toArray] [] [] (by kernel_rfl) (by kernel_rfl) rfl rfl rfl ?_
      refine (HEH.out _).mono ?_
      rintro e wz ⟨rfl, bz⟩
      replace hq := And.intro (hq.1.below bz hq.1.lt) (hq.2.below bz hq.2.lt)
      replace hb := hb.trans (bz.mono hb.size)
      clear bz
      refine ⟨_, rfl, ?_⟩
      refine rgBack hq ?_
      try simp only [Act.put, List.setIfInBounds_toArray, List.set_cons_succ, List.set_cons_zero]
      refine rgTake (S := fun w' => Arr w' g5 57 (pcs b.lo) ∧ Arr w' g6 57 (pcs b.hi)) (i := 6) (v := .int .i64 (lo0 : Int)) rfl (by kernel_rfl) (by kernel_rfl) (fun _ _ _ h => h) (fun w _ => by kernel_rfl) hq ?_
      refine rgTake (S := fun w' => Arr w' g5 57 (pcs b.lo) ∧ Arr w' g6 57 (pcs b.hi)) (i := 7) (v := .int .i64 (hi0 : Int)) rfl (by kernel_rfl) (by kernel_rfl) (fun _ _ _ h => h) (fun w _ => by kernel_rfl) hq ?_
      refine rgTake (S := fun w' => Arr w' g5 57 (pcs b.lo) ∧ Arr w' g6 57 (pcs b.hi)) (i := 8) (v := .int .i64 (-1)) rfl (by kernel_rfl) (by kernel_rfl) (fun _ _ _ h => h) (fun w _ => by kernel_rfl) hq ?_
      refine rgDone (by kernel_rfl) ?_
      try simp only [Act.put, List.setIfInBounds_toArray, List.set_cons_succ, List.set_cons_zero]
      replace hb := hb
      have hB := hb
      clear hq hb
      go_wp2_with fail
      go_loopw [8, 9, 10, 11] (fun aa bb cc tt wr => ∃ (t lo hi : Nat) (best : Int), aa = .int .i64 (lo : Int) ∧ bb = .int .i64 (hi : Int) ∧ cc = .int .i64 best ∧ tt = .int .i64 ((t : Int) - 1) ∧ t ≤ 42 ∧ lo < 4398046511104 ∧ hi < 4398046511104 ∧ nextL n t lo hi best = RES ∧ Below w.heap.size w wr) (fun _ _ _ tt _ => (intOf tt + 1).toNat)
      case atStart => exact ⟨42, lo0, hi0, -1, rfl, rfl, rfl, rfl, by omega, hlo, hhi, HR2.out.symm, hB⟩
      case round =>
        clear hB
        obtain ⟨t, lo, hi, best, rfl, rfl, rfl, rfl, ht, hlo', hhi', hE, hb⟩ := hrel
        cases t with
        | zero =>
          go_wp2_with fail
          go_ret
          exact ⟨by rw [← hE]; rfl, hb⟩
        | succ t =>
          rw [show (((t + 1 : Nat) : Int) - 1) = (t : Int) by omega]
          have hcond : (0 : Int) ≤ (t : Int) := Int.natCast_nonneg _
          have HBE := Lib.hid (below_t t (by omega))
          have hM := maskL_lt (t / 3) (t % 3)
          rw [show 3 * (t / 3) + t % 3 = t by omega] at hM
          have hpw := lt42 (t := t) (by omega)
          have hv8 := vOf_lt n lo hi t
          rw [nextL_step] at hE
          have hM : maskL (t / 3) (t % 3) < 2 ^ 41 := by omega
          have ha1 := nAnd_le lo (maskL (t / 3) (t % 3))
          have ha2 := nAnd_le hi (1 * 2 ^ t)
          have ho1 : nAnd lo (maskL (t / 3) (t % 3)) ||| 1 * 2 ^ t < 2 ^ 42 := Nat.or_lt_two_pow (by omega) (by omega)
          have ho2 : nAnd hi (1 * 2 ^ t) ||| maskL (t / 3) (t % 3) < 2 ^ 42 := Nat.or_lt_two_pow (by omega) (by omega)
          obtain ⟨z, hz⟩ : ∃ z, z = 1 * 2 ^ t := ⟨_, rfl⟩
          rw [← hz] at hE hpw ha2 ho1 ho2
          have HZ := Lib.hid hz
          have hE := Lib.hid hE
          clear hz
          generalize maskL (t / 3) (t % 3) = M at *
          go_wp2_with fail
          refine (HBE.out _).mono ?_
          rintro e w9 ⟨rfl, b9⟩
          replace hb := hb.trans (b9.mono hb.size)
          clear b9
          go_wp2_with fail
          refine rgStart (fun w' => True) (by kernel_rfl) ?_
          have hq : (fun w' : World => True) w9.drew := trivial
          replace hb := hb.drew
          generalize World.drew _ = wd at *
          refine rgTake (S := fun w' => True) (i := 0) (v := .int .i64 (n : Int)) rfl (by kernel_rfl) (by kernel_rfl) (fun _ _ _ h => h) (fun w _ => by kernel_rfl) hq ?_
          refine rgTake (S := fun w' => True) (i := 1) (v := .int .i64 (t : Int)) rfl (by kernel_rfl) (by kernel_rfl) (fun _ _ _ h => h) (fun w _ => by kernel_rfl) hq ?_
          refine rgTake (S := fun w' => True) (i := 2) (v := .int .i64 ((n / 2 ^ t : Nat) : Int)) rfl (by kernel_rfl) (by kernel_rfl) (fun _ _ _ h => h) (fun w _ => shrNat (m := n) (n := t) (.tmp 39) (.tmp 40) rfl (by kernel_rfl) (by kernel_rfl) (by omega)) hq ?_
          refine rgTake (S := fun w' => True) (i := 3) (v := .int .i64 ((n / 2 ^ t % 2 : Nat) : Int)) rfl (by kernel_rfl) (by kernel_rfl) (fun _ _ _ h => h) (fun w _ => bit0Nat (m := n / 2 ^ t) (.tmp 41) (.const (.int .i64 1)) rfl (by kernel_rfl) rfl (Nat.lt_of_le_of_lt (Nat.div_le_self _ _) (by omega))) hq ?_
          try simp only [Act.put, List.setIfInBounds_toArray, List.set_cons_succ, List.set_cons_zero]
          refine rgTake (S := fun w' => True) (i := 4) (v := .int .i64 ((n / 2 ^ t % 2 * 2 ^ 2 : Nat) : Int)) rfl (by kernel_rfl) (by kernel_rfl) (fun _ _ _ h => h) (fun w _ => shlU (m := n / 2 ^ t % 2) (n := 2) (.tmp 42) (.const (.int .u64 2)) rfl (by kernel_rfl) rfl (by omega) (by omega)) hq ?_
          refine rgTake (S := fun w' => True) (i := 5) (v := .int .i64 (lo : Int)) rfl (by kernel_rfl) (by kernel_rfl) (fun _ _ _ h => h) (fun w _ => by kernel_rfl) hq ?_
          refine rgTake (S := fun w' => True) (i := 6) (v := .int .i64 (t : Int)) rfl (by kernel_rfl) (by kernel_rfl) (fun _ _ _ h => h) (fun w _ => by kernel_rfl) hq ?_
          refine rgTake (S := fun w' => True) (i := 7) (v := .int .i64 ((lo / 2 ^ t : Nat) : Int)) rfl (by kernel_rfl) (by kernel_rfl) (fun _ _ _ h => h) (fun w _ => shrNat (m := lo) (n := t) (.tmp 44) (.tmp 45) rfl (by kernel_rfl) (by kernel_rfl) (by omega)) hq ?_
          refine rgTake (S := fun w' => True) (i := 8) (v := .int .i64 ((lo / 2 ^ t % 2 : Nat) : Int)) rfl (by kernel_rfl) (by kernel_rfl) (fun _ _ _ h => h) (fun w _ => bit0Nat (m := lo / 2 ^ t) (.tmp 46) (.const (.int .i64 1)) rfl (by kernel_rfl) rfl (Nat.lt_of_le_of_lt (Nat.div_le_self _ _) (by omega))) hq ?_
          try simp only [Act.put, List.setIfInBounds_toArray, List.set_cons_succ, List.set_cons_zero]
          refine rgTake (S := fun w' => True) (i := 9) (v := .int .i64 ((lo / 2 ^ t % 2 * 2 ^ 1 : Nat) : Int)) rfl (by kernel_rfl) (by kernel_rfl) (fun _ _ _ h => h) (fun w _ => shlU (m := lo / 2 ^ t % 2) (n := 1) (.tmp 47) (.const (.int .u64 1)) rfl (by kernel_rfl) rfl (by omega) (by omega)) hq ?_
          refine rgTake (S := fun w' => True) (i := 10) (v := .int .i64 ((n / 2 ^ t % 2 * 2 ^ 2 ||| lo / 2 ^ t % 2 * 2 ^ 1 : Nat) : Int)) rfl (by kernel_rfl) (by kernel_rfl) (fun _ _ _ h => h) (fun w _ => orNat (.tmp 43) (.tmp 48) rfl (by kernel_rfl) (by kernel_rfl) (by omega) (by omega)) hq ?_
          try simp only [Act.put, List.setIfInBounds_toArray, List.set_cons_succ, List.set_cons_zero]
          refine rgTake (S := fun w' => True) (i := 11) (v := .int .i64 (hi : Int)) rfl (by kernel_rfl) (by kernel_rfl) (fun _ _ _ h => h) (fun w _ => by kernel_rfl) hq ?_
          refine rgTake (S := fun w' => True) (i := 12) (v := .int .i64 (t : Int)) rfl (by kernel_rfl) (by kernel_rfl) (fun _ _ _ h => h) (fun w _ => by kernel_rfl) hq ?_
          refine rgTake (S := fun w' => True) (i := 13) (v := .int .i64 ((hi / 2 ^ t : Nat) : Int)) rfl (by kernel_rfl) (by kernel_rfl) (fun _ _ _ h => h) (fun w _ => shrNat (m := hi) (n := t) (.tmp 50) (.tmp 51) rfl (by kernel_rfl) (by kernel_rfl) (by omega)) hq ?_
          refine rgTake (S := fun w' => True) (i := 14) (v := .int .i64 ((hi / 2 ^ t % 2 : Nat) : Int)) rfl (by kernel_rfl) (by kernel_rfl) (fun _ _ _ h => h) (fun w _ => bit0Nat (m := hi / 2 ^ t) (.tmp 52) (.const (.int .i64 1)) rfl (by kernel_rfl) rfl (Nat.lt_of_le_of_lt (Nat.div_le_self _ _) (by omega))) hq ?_
          try simp only [Act.put, List.setIfInBounds_toArray, List.set_cons_succ, List.set_cons_zero]
          refine rgTake (S := fun w' => True) (i := 15) (v := .int .i64 (vOf n lo hi t : Nat)) rfl (by kernel_rfl) (by kernel_rfl) (fun _ _ _ h => h) (fun w _ => orNat (m := n / 2 ^ t % 2 * 2 ^ 2 ||| lo / 2 ^ t % 2 * 2 ^ 1) (n := hi / 2 ^ t % 2) (.tmp 49) (.tmp 53) rfl (by kernel_rfl) (by kernel_rfl) (Nat.lt_trans (Nat.or_lt_two_pow (n := 4) (by omega) (by omega)) (by decide)) (by omega)) hq ?_
          refine rgDone (by kernel_rfl) ?_
          try simp only [Act.put, List.setIfInBounds_toArray, List.set_cons_succ, List.set_cons_zero]
          generalize vOf n lo hi t = v at *
          clear hq
          by_cases h1 : v = 1
          · subst h1
            go_wp2_with (first | (with_reducible refine opVal (v := .int .i64 ((nAnd lo M : Nat) : Int)) (wn rfl) (andNotNat (.tmp 57) (.tmp 58) rfl rfl rfl (by omega) (by omega)) ?_) | (with_reducible refine opVal (v := .int .i64 (z : Int)) (wn rfl) (shlZ HZ.out (.const (.int .i64 1)) (.tmp 60) rfl rfl rfl (by omega) (by omega)) ?_) | (with_reducible refine opVal (v := .int .i64 ((nAnd lo M ||| z : Nat) : Int)) (wn rfl) (orNat (.tmp 59) (.tmp 61) rfl rfl rfl (by omega) (by omega)) ?_) | (with_reducible refine opVal (v := .int .i64 (z : Int)) (wn rfl) (shlZ HZ.out (.const (.int .i64 1)) (.tmp 64) rfl rfl rfl (by omega) (by omega)) ?_) | (with_reducible refine opVal (v := .int .i64 ((nAnd hi z : Nat) : Int)) (wn rfl) (andNotNat (.tmp 63) (.tmp 65) rfl rfl rfl (by omega) (by omega)) ?_) | (with_reducible refine opVal (v := .int .i64 ((nAnd hi z ||| M : Nat) : Int)) (wn rfl) (orNat (.tmp 66) (.tmp 67) rfl rfl rfl (by omega) (by omega)) ?_))
            have hE := hE.out
            rw [if_pos rfl] at hE
            exact ⟨⟨t, lo, _, _, rfl, rfl, rfl, rfl, by omega, hlo', ho2, hE, hb⟩, by first | (simp [intOf]; done) | (simp [intOf]; omega)⟩
          · by_cases h3 : v = 3
            · subst h3
              go_wp2_with fail
              go_ret
              have hE := hE.out
              replace hE : (lo : Int) = RES := by simpa using hE
              exact ⟨congrArg (fun x => Ending.returned (.int .i64 x)) hE, hb⟩
            · by_cases h4 : v = 4
              · subst h4
                go_wp2_with fail
                go_ret
                have hE := hE.out
                replace hE : best = RES := by simpa using hE
                exact ⟨congrArg (fun x => Ending.returned (.int .i64 x)) hE, hb⟩
              · by_cases h5 : v = 5
                · subst h5
                  go_wp2_with (first | (with_reducible refine opVal (v := .int .i64 ((nAnd lo M : Nat) : Int)) (wn rfl) (andNotNat (.tmp 77) (.tmp 78) rfl rfl rfl (by omega) (by omega)) ?_) | (with_reducible refine opVal (v := .int .i64 (z : Int)) (wn rfl) (shlZ HZ.out (.const (.int .i64 1)) (.tmp 80) rfl rfl rfl (by omega) (by omega)) ?_) | (with_reducible refine opVal (v := .int .i64 ((nAnd lo M ||| z : Nat) : Int)) (wn rfl) (orNat (.tmp 79) (.tmp 81) rfl rfl rfl (by omega) (by omega)) ?_))
                  have hE := hE.out
                  rw [if_neg (by decide), if_neg (by decide), if_neg (by decide), if_pos rfl] at hE
                  exact ⟨⟨t, _, hi, best, rfl, rfl, rfl, rfl, by omega, ho1, hhi', hE, hb⟩, by first | (simp [intOf]; done) | (simp [intOf]; omega)⟩
                · go_wp2_with fail
                  have hE := hE.out
                  rw [if_neg h1, if_neg h3, if_neg h4, if_neg h5] at hE
                  exact ⟨⟨t, lo, hi, best, rfl, rfl, rfl, rfl, by omega, hlo', hhi', hE, hb⟩, by first | (simp [intOf]; done) | (simp [intOf]; omega)⟩
    · have HR2 := Lib.hid (show RES = -1 by rw [HR.out, if_neg (fun h => hn h.2)])
      go_wp2_with fail
      go_ret
      rw [HR2.out]
      exact ⟨rfl, hb⟩
  · have HR2 := Lib.hid (show RES = -1 by rw [HR.out, if_neg (fun h => hok h.1)])
    rw [decide_eq_false hok]
    go_wp2_with fail
    go_ret
    rw [HR2.out]
    exact ⟨rfl, hb⟩
end Go.Proofs.Ytkfijpghjjnpkaa
