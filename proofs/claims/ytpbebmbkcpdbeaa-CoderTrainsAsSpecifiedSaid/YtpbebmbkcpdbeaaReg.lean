/-
  Regions that draw their order, taken by hand: an operation taken first, two new arrays in either order, and what is left one by one. No statement is proved here.
-/
import Derived.Test.YtpbebmbkcpdbeaaArr
import Derived.OrdersHeld
namespace Go.Proofs.Ytpbebmbkcpdbeaa
open Go.RowKit

/-- Number i may be taken first. -/
def mayFirst (ops : Array Oper) (listed : Array Bool) (i : Nat) : Bool :=
  Region.noSelect ops && Region.free .any ops listed i && (Region.ready .any ops listed).contains i

section
variable {P : Program} {ops : Array Oper} {Q : Exit → Act → World → Prop} {S : World → Prop} {listed : Array Bool} {a : Act} {w : World} {fuel : Nat}
theorem rgStart {id : Nat} (S : World → Prop) (hm : P.follows .mixedOrders = true) (h : wpAnyH P .any ops Q S ops.size (Array.replicate ops.size false) a w.drew) : (Code.region id ops true).wp P Q a w :=
  wp_region_held hm h
theorem wpOp_of_list {i : Nat} {o : Oper} {K : Act → World → Prop} (hi : ops[i]? = some o) (h : wpList P ops (Exit.then K Q) [o] a w) : wpOp P ops Q i K a w := by
  unfold wpOp
  simp only [hi]
  unfold wpList at h
  split
  · rename_i hw
    rw [if_pos hw] at h
    refine h.imp (fun h => ?_) (fun h => ⟨h.1, h.2⟩)
    unfold Oper.wp at h ⊢
    generalize (execOp a.eval o).run P w = r at h ⊢
    cases r with
    | ok n w' =>
      cases n <;> simp only [Oper.upon] at h ⊢
      case value v => exact h
      case skip => exact h
      case defer d => exact h
      case enter f args =>
        refine h.mono fun e w'' he => ?_
        cases e with
        | returned u => exact he
        | panicked c => exact he
        | outgrown => exact he
      case row row args => exact h.mono fun _ _ he => he
    | halt x w' => cases x <;> simp only [Oper.upon] at h ⊢; exact h
  · rename_i hw
    rw [if_neg hw] at h
    exact h
/-- An operation taken first. -/
theorem rgTake {i : Nat} {o : Oper} {v : Value} (hi' : ops.toList[i]? = some o) (hm : mayFirst ops listed i = true) (hw : Region.wanted o (yielded ops a.tmps) = true)
    (hQ : ∀ c a w, Q (.panic c) (a.put o.dst v) w → Q (.panic c) a w) (hy : ∀ w, S w → (execOp a.eval o).run P w = .ok (.value v) w) (hS : S w)
    (h : wpAnyH P .any ops Q S fuel (listed.setIfInBounds i true) (a.put o.dst v) w) : wpAnyH P .any ops Q S (fuel + 1) listed a w := by
  have hi : ops[i]? = some o := by rw [← hi']; simp
  simp only [mayFirst, Bool.and_eq_true] at hm
  exact wpAnyH_take hi hm.1.1 hm.1.2 hm.2 hQ (Or.inl ⟨hw, hy⟩) hS h
/-- A struct or an array is loaded whole, first. -/
theorem rgLoad {i : Nat} {o : Oper} {ty : TypeId} {z : Array Value} {n b off : Nat} (x : Operand) (cs : List Value) (T : AgTy P ty z n) (hi' : ops.toList[i]? = some o) (hm : mayFirst ops listed i = true) (hw : Region.wanted o (yielded ops a.tmps) = true)
    (hQ : ∀ c a w, Q (.panic c) (a.put o.dst (.agg cs.toArray)) w → Q (.panic c) a w) (ho : o.op = .load ty x) (hx : a.eval x = .pointer (some ⟨b, off, none⟩)) (hl : cs.length = n)
    (hc : ∀ w, S w → ∀ j u, cs[j]? = some u → w.cell? ⟨b, off + j, none⟩ = some u) (hS : S w)
    (h : wpAnyH P .any ops Q S fuel (listed.setIfInBounds i true) (a.put o.dst (.agg cs.toArray)) w) : wpAnyH P .any ops Q S (fuel + 1) listed a w := by
  refine rgTake hi' hm hw hQ (fun w hw => ?_) hS h
  unfold execOp
  simp only [ho, hx, Instr.loadAt, Instr.sureAddr, Sem.run_bind, Sem.run_pure, Result.andThen_ok, run_loadAgg T b off cs hl (hc w hw)]
/-- The conversion of bytes to a string, first. -/
theorem rgConvStr {i : Nat} {o : Oper} {B n c : Nat} {A : Option Addr} {src e dst : TypeId} (x : Operand) (l : List UInt8) (hs : P.underlying src = some (.slice e)) (he : P.underlying e = some (.int .u8)) (hd : P.underlying dst = some .string)
    (hi : ops.toList[i]? = some o) (hm : mayFirst ops listed i = true) (hw : Region.wanted o (yielded ops a.tmps) = true) (hQ : ∀ c a w, Q (.panic c) (a.put o.dst (.string ⟨l.toArray⟩)) w → Q (.panic c) a w)
    (ho : o.op = .convert src dst x) (hx : a.eval x = .slice A n c) (hr : ∀ w, S w → Rd w B 1 A n c (bcs l)) (hS : S w)
    (h : wpAnyH P .any ops Q S fuel (listed.setIfInBounds i true) (a.put o.dst (.string ⟨l.toArray⟩)) w) : wpAnyH P .any ops Q S (fuel + 1) listed a w := by
  refine rgTake hi hm hw hQ (fun w hw => ?_) hS h
  unfold execOp
  simp only [ho, hx, Sem.run_bind, Sem.run_pure, conv_bs hs he hd (hr w hw), Result.andThen_ok]
/-- A byte of a text, first. -/
theorem rgIndexStr {i : Nat} {o : Oper} {t : TypeId} {kk : IntKind} {K : Int} (x y : Operand) (l : List UInt8) (k : Nat) (b : UInt8) (ht : P.underlying t = some .string)
    (hi : ops.toList[i]? = some o) (hm : mayFirst ops listed i = true) (hw : Region.wanted o (yielded ops a.tmps) = true) (hQ : ∀ c a w, Q (.panic c) (a.put o.dst (.int .u8 (b.toNat : Int))) w → Q (.panic c) a w)
    (ho : o.op = .index t x y) (hx : a.eval x = .string ⟨l.toArray⟩) (hy : a.eval y = .int kk K) (hK : K = (k : Int)) (hb : l[k]? = some b) (hS : S w)
    (h : wpAnyH P .any ops Q S fuel (listed.setIfInBounds i true) (a.put o.dst (.int .u8 (b.toNat : Int))) w) : wpAnyH P .any ops Q S (fuel + 1) listed a w := by
  subst hK
  refine rgTake hi hm hw hQ (fun w _ => ?_) hS h
  unfold execOp
  have hk := (List.getElem?_eq_some_iff.1 hb).1
  have hg : (⟨l.toArray⟩ : ByteArray)[k]? = some b := by
    rw [← hb]
    simp only [getElem?_def, ByteArray.size, List.size_toArray]
    by_cases h : k < l.length
    · rw [dif_pos h, dif_pos h]; rfl
    · omega
  simp [ho, hx, hy, Instr.index, asIntOf, run_underlying ht, hg]
/-- The one that comes up next. -/
theorem rgNext {i : Nat} {o : Oper} (hr : Region.ready .any ops listed = [i]) (hi' : ops.toList[i]? = some o)
    (h : wpList P ops (Exit.then (fun a' w' => S w' ∧ wpAnyH P .any ops Q S fuel (listed.setIfInBounds i true) a' w') Q) [o] a w) : wpAnyH P .any ops Q S (fuel + 1) listed a w := by
  have hi : ops[i]? = some o := by rw [← hi']; simp
  refine wpAnyH_all hr (by simp) fun j hj => ?_
  rw [List.mem_singleton] at hj
  subst hj
  exact wpOp_of_list hi h
theorem rgBack {K : Act → World → Prop} (hS : S w) (h : K a w) : wpList P ops (Exit.then (fun a' w' => S w' ∧ K a' w') Q) [] a w := ⟨hS, h⟩
theorem rgDone (hr : Region.ready .any ops listed = []) (h : Q .normal a w) : wpAnyH P .any ops Q S fuel listed a w := wpAnyH_done hr h _
/-- Two new variables of struct or array types, in either order. -/
theorem rgAlloc2 {i j : Nat} {oi oj : Oper} {ti tj : TypeId} {zi zj : List Value} {ni nj : Nat} (Ti : AgTy P ti zi.toArray ni) (Tj : AgTy P tj zj.toArray nj)
    (hr : Region.ready .any ops listed = [i, j]) (hi' : ops.toList[i]? = some oi) (hj' : ops.toList[j]? = some oj)
    (hri : Region.ready .any ops (listed.setIfInBounds i true) = [j]) (hrj : Region.ready .any ops (listed.setIfInBounds j true) = [i])
    (hgi : oi.guard = none) (hgj : oj.guard = none) (hoi : oi.op = .alloc ti) (hoj : oj.op = .alloc tj) (hd : oi.dst ≠ oj.dst) (hij : i ≠ j)
    (hS : ∀ w', Below w.heap.size w w' → S w')
    (h : ∀ g1 g2 w', g1 ≠ g2 → w.heap.size ≤ g1 → w.heap.size ≤ g2 → Arr w' g1 ti zi → Arr w' g2 tj zj → Below w.heap.size w w' →
      wpAnyH P .any ops Q S fuel ((listed.setIfInBounds i true).setIfInBounds j true) ((a.put oi.dst (.pointer (some ⟨g1, 0, none⟩))).put oj.dst (.pointer (some ⟨g2, 0, none⟩))) w') :
    wpAnyH P .any ops Q S (fuel + 2) listed a w := by
  have hi : ops[i]? = some oi := by rw [← hi']; simp
  have hj : ops[j]? = some oj := by rw [← hj']; simp
  have key : ∀ (k l : Nat) (ok ol : Oper) (tk tl : TypeId) (zk zl : List Value) (nk nl : Nat), AgTy P tk zk.toArray nk → AgTy P tl zl.toArray nl → ops[k]? = some ok → ops[l]? = some ol →
      Region.ready .any ops (listed.setIfInBounds k true) = [l] → ok.guard = none → ol.guard = none → ok.op = .alloc tk → ol.op = .alloc tl →
      (∀ g1 g2 w', g1 ≠ g2 → w.heap.size ≤ g1 → w.heap.size ≤ g2 → Arr w' g1 tk zk → Arr w' g2 tl zl → Below w.heap.size w w' →
        wpAnyH P .any ops Q S fuel ((listed.setIfInBounds k true).setIfInBounds l true) ((a.put ok.dst (.pointer (some ⟨g1, 0, none⟩))).put ol.dst (.pointer (some ⟨g2, 0, none⟩))) w') →
      wpOp P ops Q k (fun a' w' => S w' ∧ wpAnyH P .any ops Q S (fuel + 1) (listed.setIfInBounds k true) a' w') a w := by
    intro k l ok ol tk tl zk zl nk nl Tk Tl hk hl hrk hgk hgl hok hol H
    refine wpOp_of_list hk (alArr Tk (wn hgk) hok fun w1 hA1 hb1 => ⟨hS _ hb1, wpAnyH_all hrk (by simp) fun m hm => ?_⟩)
    rw [List.mem_singleton] at hm
    subst hm
    refine wpOp_of_list hl (alArr Tl (wn hgl) hol fun w2 hA2 hb2 => ?_)
    have hb := hb1.trans (hb2.mono hb1.size)
    refine ⟨hS _ hb, H _ _ _ ?_ (Nat.le_refl _) hb1.size (hA1.below hb2 hA1.lt) hA2 hb⟩
    have := hA1.lt
    omega
  refine wpAnyH_all hr (by simp) fun k hk => ?_
  rcases List.mem_cons.1 hk with rfl | hk
  · exact key _ _ _ _ _ _ _ _ _ _ Ti Tj hi hj hri hgi hgj hoi hoj h
  · rw [List.mem_singleton] at hk
    subst hk
    refine key _ _ _ _ _ _ _ _ _ _ Tj Ti hj hi hrj hgj hgi hoj hoi fun g1 g2 w' h1 h2 h3 h4 h5 h6 => ?_
    rw [Act.put_comm a _ _ (fun d e1 e2 => hd (e2.trans e1.symm)), Array.setIfInBounds_comm _ _ (Ne.symm hij)]
    exact h g2 g1 w' (Ne.symm h1) h3 h2 h5 h4 h6
end
end Go.Proofs.Ytpbebmbkcpdbeaa
