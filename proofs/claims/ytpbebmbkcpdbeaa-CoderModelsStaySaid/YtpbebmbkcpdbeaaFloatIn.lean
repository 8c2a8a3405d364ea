/-
  A region that draws its order within a fence, whose operations (all but the last) turn no world: each is shown once. No statement is proved here.
-/
import Derived.Test.YtpbebmbkcpdbeaaFloat
import Derived.OrdersIn
import Derived.TacticsIn
import Derived.RangeFuncCalls
namespace Go.Proofs.Ytpbebmbkcpdbeaa
open Go.RowKit

section
variable {F : Fence} {n : Nat} {P : Program} {ops : Array Oper} {Q : Exit → Act → World → Prop} {X : List (Nat × Nat)} {G : Nat → Value → World → Prop} {a0 : Act} {w0 : World} {listed0 : Array Bool}
theorem wpOpIn_of_list {i : Nat} {o : Oper} {K : Act → World → Prop} {a : Act} {w : World} (hi : ops[i]? = some o) (h : wpListIn F n P ops (Exit.then K Q) [o] a w) : wpOpIn F n P ops Q i K a w := by
  unfold wpOpIn
  simp only [hi]
  unfold wpListIn at h
  split
  · rename_i hw
    rw [if_pos hw] at h
    refine ⟨h.1, ?_⟩
    have h2 := h.2
    generalize (o.semAt F.round a.eval).run P w = r at h2 ⊢
    cases r with
    | ok n' w' =>
      cases n' <;> simp only [Oper.uponIn] at h2 ⊢
      case value v => exact h2
      case skip => exact h2
      case defer d => exact h2
      case enter f args =>
        refine ⟨h2.1, h2.2.mono fun e w'' he => ?_⟩
        cases e with
        | returned u => exact he
        | panicked c => exact he
        | outgrown => exact he
      case row row args => exact ⟨h2.1, h2.2.mono fun _ _ he => he⟩
      case round l f tm as bo =>
        refine ⟨h2.1, h2.2.mono fun e w'' he => ?_⟩
        cases e with
        | returned u => exact he
        | panicked c => exact he
        | outgrown => exact he
    | halt x w' => cases x <;> simp only [Oper.uponIn] at h2 ⊢; exact h2
  · rename_i hw
    rw [if_neg hw] at h
    exact ⟨h.1, h.2⟩
theorem float_goIn (hB : floatB ops listed0 a0.tmps.size X = true)
    (hstep : ∀ p ∈ X, ∃ o, ops.toList[p.1]? = some o ∧ o.dst = some p.2 ∧ ∀ a w, FrameX a0 X a → w = w0 → (∀ q ∈ X, waitsFor ops p.1 q.1 = true → G q.1 (a.tmps.getD q.2 undef) w) →
      wpListIn F n P ops (Exit.then (fun a' w' => ∃ v, a' = a.put o.dst v ∧ w' = w ∧ G p.1 v w') Q) [o] a w)
    (fuel : Nat) (hend : ∀ a w, FrameX a0 X a → w = w0 → (∀ p ∈ X, G p.1 (a.tmps.getD p.2 undef) w) → wpAnyIn F n P .any ops Q fuel (listX X listed0) a w) :
    ∀ (m : Nat) (listed : Array Bool) (a : Act) (w : World), (X.filter fun p => !listed.getD p.1 true).length = m → listed.size = ops.size →
      (∀ k, X.any (·.1 == k) = false → listed.getD k true = listed0.getD k true) → FrameX a0 X a → w = w0 → (∀ p ∈ X, listed.getD p.1 true = true → G p.1 (a.tmps.getD p.2 undef) w) →
      (∀ q ∈ X, listed.getD q.1 true = true → ∀ p ∈ X, waitsFor ops q.1 p.1 = true → listed.getD p.1 true = true) →
      wpAnyIn F n P .any ops Q (m + fuel) listed a w := by
  unfold floatB at hB
  simp only [Bool.and_eq_true, List.all_eq_true, decide_eq_true_eq, Bool.or_eq_true, Bool.not_eq_true', beq_iff_eq] at hB
  obtain ⟨⟨⟨⟨hpair, hls⟩, hnd⟩, hX⟩, hrest⟩ := hB
  have hpair' : ∀ p ∈ X, ∀ q ∈ X, (p.1 = q.1 ↔ p.2 = q.2) := fun p hp q hq => by
    have := hpair p hp q hq
    rw [Bool.eq_iff_iff] at this
    simpa using this
  intro m
  induction m with
  | zero =>
    intro listed a w hm hsz hk hF hE hG _
    have hall : ∀ p ∈ X, listed.getD p.1 true = true := fun p hp => by
      have := List.length_eq_zero_iff.1 hm
      rw [List.filter_eq_nil_iff] at this
      simpa using this p hp
    have hl : listed = listX X listed0 := by
      apply Array.ext
      · rw [listX_size, hsz, hls]
      · intro k h1 h2
        have e1 : listed.getD k true = listed[k] := by simp [h1]
        have e2 : (listX X listed0).getD k true = (listX X listed0)[k] := by simp [h2]
        rw [← e1, ← e2, listX_get X listed0 k (by rw [hls, ← hsz]; exact h1)]
        cases hx : X.any (·.1 == k) with
        | false => rw [hk k hx, Bool.or_false]
        | true =>
          rw [Bool.or_true]
          obtain ⟨p, hp, hpk⟩ := List.any_eq_true.1 hx
          rw [beq_iff_eq] at hpk
          rw [← hpk]; exact hall p hp
    rw [hl, Nat.zero_add]
    exact hend a w hF hE fun p hp => hG p hp (hall p hp)
  | succ m ih =>
    intro listed a w hm hsz hk hF hE hG hinv
    have hun : ∃ p ∈ X, listed.getD p.1 true = false := by
      cases hf : X.filter fun p => !listed.getD p.1 true with
      | nil => rw [hf] at hm; simp at hm
      | cons p r =>
        have : p ∈ X.filter fun p => !listed.getD p.1 true := by rw [hf]; exact List.mem_cons_self
        rw [List.mem_filter] at this
        exact ⟨p, this.1, by simpa using this.2⟩
    have hin : ∀ i ∈ Region.ready .any ops listed, ∃ p ∈ X, p.1 = i := by
      intro i hi
      obtain ⟨hiu, o, ho, hall⟩ := mem_ready.1 hi
      have hio : i < ops.size := (Array.getElem?_eq_some_iff.1 ho).1
      cases hx : X.any (·.1 == i) with
      | true =>
        obtain ⟨p, hp, hpk⟩ := List.any_eq_true.1 hx
        exact ⟨p, hp, by simpa using hpk⟩
      | false =>
        exfalso
        have h1 := hk i hx
        rcases hrest i (List.mem_range.2 hio) with (h | h) | h
        · rw [h1, h] at hiu; cases hiu
        · rw [hx] at h; cases h
        · obtain ⟨p, hp, hpu⟩ := hun
          have hdir : ∀ q ∈ X, waitsFor ops i q.1 = true → listed.getD q.1 true = true := by
            intro q _ hw
            unfold waitsFor at hw
            have ho' : ops.toList[i]? = some o := by rw [← ho]; simp
            rw [ho'] at hw
            simp only [Option.map_some, Option.getD_some] at hw
            obtain ⟨e, he, hbe⟩ := Array.any_eq_true'.1 hw
            simp only [Bool.and_eq_true, beq_iff_eq] at hbe
            have h2 := hall e he hbe.1
            rw [hbe.2] at h2
            rcases Nat.lt_or_ge q.1 listed.size with h' | h'
            · simp [h'] at h2 ⊢; exact h2
            · simp [Array.getElem?_eq_none h'] at h2
          have hpl : listed.getD p.1 true = true := by
            rcases h p hp with h3 | h3
            · exact hdir p hp h3
            · exact reach_listed hinv _ i hdir p hp h3
          rw [hpl] at hpu; cases hpu
    rw [Nat.succ_add]
    refine ⟨fun h0 => ?_, fun i hi => ?_⟩
    · -- something may come up
      exfalso
      have key : ∀ (n' : Nat) (p : Nat × Nat), p ∈ X → listed.getD p.1 true = false → p.1 ≤ n' → False := by
        intro n'
        induction n' using Nat.strongRecOn with
        | ind n' ihn =>
          intro p hp hpu hpn
          have hXp := hX p hp
          obtain ⟨⟨⟨h1, h2⟩, h3⟩, h4⟩ := hXp
          obtain ⟨o, ho⟩ : ∃ o, ops.toList[p.1]? = some o := ⟨ops.toList[p.1]'(by simpa using h2), List.getElem?_eq_getElem _⟩
          have ho' : ops[p.1]? = some o := by rw [← ho]; simp
          rw [ho] at h4
          simp only [Option.map_some, Option.getD_some] at h4
          have hr : p.1 ∈ Region.ready .any ops listed := by
            refine mem_ready.2 ⟨hpu, o, ho', fun e he hb => ?_⟩
            have h5 := Array.all_eq_true'.1 h4 e he
            simp only [hb, Bool.not_true, Bool.false_or, Bool.and_eq_true, decide_eq_true_eq, Bool.or_eq_true] at h5
            obtain ⟨h6, h7⟩ := h5
            have hlt : e.on < listed.size := by rw [hsz]; omega
            have hsame : listed.getD e.on false = listed.getD e.on true := by simp [hlt]
            rw [hsame]
            cases hx : X.any (·.1 == e.on) with
            | false =>
              rw [hk _ hx]
              rcases h7 with h7 | h7
              · have : e.on < listed0.size := by rw [hls]; omega
                simp [this] at h7 ⊢; exact h7
              · rw [hx] at h7; cases h7
            | true =>
              obtain ⟨q, hq, hqk⟩ := List.any_eq_true.1 hx
              rw [beq_iff_eq] at hqk
              cases hqu : listed.getD e.on true with
              | true => rfl
              | false => exact (ihn e.on (by omega) q hq (by rw [hqk]; exact hqu) (by omega)).elim
          rw [h0] at hr
          cases hr
      obtain ⟨p, hp, hpu⟩ := hun
      exact key p.1 p hp hpu (Nat.le_refl _)
    · obtain ⟨p, hp, rfl⟩ := hin i hi
      obtain ⟨hiu, o', ho', hall⟩ := mem_ready.1 hi
      obtain ⟨o, ho, hd, hw⟩ := hstep p hp
      have hoo : ops[p.1]? = some o := by rw [← ho]; simp
      obtain rfl : o' = o := Option.some.inj (ho'.symm.trans hoo)
      have hstep' := hw a w hF hE fun q hq hqw => by
        refine hG q hq ?_
        unfold waitsFor at hqw
        rw [ho] at hqw
        simp only [Option.map_some, Option.getD_some] at hqw
        obtain ⟨e, he, hbe⟩ := Array.any_eq_true'.1 hqw
        simp only [Bool.and_eq_true, beq_iff_eq] at hbe
        have h2 := hall e he hbe.1
        rw [hbe.2] at h2
        rcases Nat.lt_or_ge q.1 listed.size with h' | h'
        · simp [h'] at h2 ⊢; exact h2
        · simp [Array.getElem?_eq_none h'] at h2
      refine wpOpIn_mono (fun a' w' h' => ?_) (wpOpIn_of_list hoo hstep')
      obtain ⟨v, rfl, hEw, hGv⟩ := h'
      rw [hd]
      obtain ⟨⟨⟨h1, h2⟩, h3⟩, h4⟩ := hX p hp
      have hpl : p.1 < listed.size := by rw [hsz]; exact h2
      refine ih _ _ _ ?_ (by simpa using hsz) (fun k hx => ?_) ⟨by rw [← hF.size]; simp [Act.put], by rw [← hF.defers]; rfl, fun t ht => by rw [getD_put_other (ht p hp)]; exact hF.same t ht⟩ (hEw.trans hE) (fun q hq hql => ?_) (fun q hq hql q' hq' hw' => ?_)
      · -- one less
        have hf : (X.filter fun q => !(listed.setIfInBounds p.1 true).getD q.1 true) = (X.filter fun q => !listed.getD q.1 true).filter (· != p) := by
          rw [List.filter_filter]
          apply List.filter_congr
          intro q hq
          by_cases hpq : q.1 = p.1
          · have hqp : q = p := Prod.ext hpq ((hpair' q hq p hp).1 hpq)
            subst hqp
            simp [hpl]
          · have h1 : (q != p) = true := by rw [bne_iff_ne]; exact fun e => hpq (by rw [e])
            have h2 : p.1 ≠ q.1 := fun e => hpq e.symm
            rw [h1, Bool.true_and]
            congr 1
            simp [h2]
        rw [hf, ← List.Nodup.erase_eq_filter (hnd.filter _), List.length_erase_of_mem (List.mem_filter.2 ⟨hp, by simpa using hiu⟩), hm]
        rfl
      · have hne' : p.1 ≠ k := fun e => by
          rw [List.any_eq_false] at hx
          exact hx p hp (by simpa using e)
        rw [← hk k hx]
        simp [hne']
      · by_cases hpq : q.1 = p.1
        · have h2' := (hpair' q hq p hp).1 hpq
          rw [h2', hpq, getD_put_same (by rw [hF.size]; exact h1)]
          exact hGv
        · have h2' : p.2 ≠ q.2 := fun e => hpq ((hpair' q hq p hp).2 e.symm)
          rw [getD_put_other h2']
          subst hEw
          refine hG q hq ?_
          have h5 : p.1 ≠ q.1 := fun e => hpq e.symm
          have h6 : (listed.setIfInBounds p.1 true).getD q.1 true = listed.getD q.1 true := by simp [h5]
          rw [h6] at hql
          exact hql
      · have hset : ∀ k : Nat, listed.getD k true = true → (listed.setIfInBounds p.1 true).getD k true = true := by
          intro k hk'
          by_cases e : p.1 = k
          · subst e; simp [hpl]
          · have : (listed.setIfInBounds p.1 true).getD k true = listed.getD k true := by simp [e]
            rw [this]; exact hk'
        refine hset q'.1 ?_
        by_cases hpq : q.1 = p.1
        · rw [hpq] at hw'
          unfold waitsFor at hw'
          rw [ho] at hw'
          simp only [Option.map_some, Option.getD_some] at hw'
          obtain ⟨e, he, hbe⟩ := Array.any_eq_true'.1 hw'
          simp only [Bool.and_eq_true, beq_iff_eq] at hbe
          have h2 := hall e he hbe.1
          rw [hbe.2] at h2
          rcases Nat.lt_or_ge q'.1 listed.size with h' | h'
          · simp [h'] at h2 ⊢; exact h2
          · simp [Array.getElem?_eq_none h'] at h2
        · have h5 : p.1 ≠ q.1 := fun e => hpq e.symm
          have h6 : (listed.setIfInBounds p.1 true).getD q.1 true = listed.getD q.1 true := by simp [h5]
          rw [h6] at hql
          exact hinv q hq hql q' hq' hw'
/-- The operations X, each shown once, in whatever order; what follows is asked of whatever values they have left. -/
theorem rgFloatIn (X : List (Nat × Nat)) (G : Nat → Value → World → Prop) (k : Nat) (fuel : Nat) (hk : k = X.length + fuel) (hB : floatB ops listed0 a0.tmps.size X = true)
    (hstep : ∀ p ∈ X, ∃ o, ops.toList[p.1]? = some o ∧ o.dst = some p.2 ∧ ∀ a w, FrameX a0 X a → w = w0 → (∀ q ∈ X, waitsFor ops p.1 q.1 = true → G q.1 (a.tmps.getD q.2 undef) w) →
      wpListIn F n P ops (Exit.then (fun a' w' => ∃ v, a' = a.put o.dst v ∧ w' = w ∧ G p.1 v w') Q) [o] a w)
    (hend : ∀ a w, FrameX a0 X a → w = w0 → (∀ p ∈ X, G p.1 (a.tmps.getD p.2 undef) w) → wpAnyIn F n P .any ops Q fuel (listX X listed0) a w) :
    wpAnyIn F n P .any ops Q k listed0 a0 w0 := by
  subst hk
  have hB' := hB
  unfold floatB at hB'
  simp only [Bool.and_eq_true, List.all_eq_true, decide_eq_true_eq, Bool.or_eq_true, Bool.not_eq_true', beq_iff_eq] at hB'
  obtain ⟨⟨⟨⟨_, hls⟩, _⟩, hX⟩, _⟩ := hB'
  have hall : (X.filter fun p => !listed0.getD p.1 true) = X := List.filter_eq_self.2 fun p hp => by
    have := (hX p hp).1.2
    simpa using this
  exact float_goIn hB hstep fuel hend _ listed0 a0 w0 (by rw [hall]) hls (fun _ _ => rfl) ⟨rfl, rfl, fun _ _ => rfl⟩ rfl (fun p hp h => by have := (hX p hp).1.2; rw [h] at this; cases this) (fun q hq h => by have := (hX q hq).1.2; rw [h] at this; cases this)
theorem aNextIn {fuel : Nat} {listed : Array Bool} {a : Act} {w : World} {i : Nat} {o : Oper} (hr : Region.ready .any ops listed = [i]) (hi' : ops.toList[i]? = some o)
    (h : wpListIn F n P ops (Exit.then (wpAnyIn F n P .any ops Q fuel (listed.setIfInBounds i true)) Q) [o] a w) : wpAnyIn F n P .any ops Q (fuel + 1) listed a w := by
  have hi : ops[i]? = some o := by rw [← hi']; simp
  refine wpAnyIn_all hr (by simp) fun j hj => ?_
  rw [List.mem_singleton] at hj
  subst hj
  exact wpOpIn_of_list hi h
end
section
variable {n l : Nat} {P : Program} {ops : Array Oper} {Q : Exit → Act → World → Prop} {a : Act} {w : World} {o : Oper} {rest : List Oper}
theorem opValIn {v : Value} (hgd : Region.wanted o (yielded ops a.tmps) = true) (hnd : ∀ c, o.op ≠ .defer c) (hrun : (execOp a.eval o).run P w = .ok (.value v) w)
    (h : wpListIn (Fence.wide.inRound l) n P ops Q rest (a.put o.dst v) w) : wpListIn (Fence.wide.inRound l) n P ops Q (o :: rest) a w := by
  unfold wpListIn
  rw [if_pos hgd]
  refine ⟨fun f _ => trivial, ?_⟩
  rw [Oper.semAt_eq _ _ _ hnd, hrun]
  exact h
/-- A call of a Go function within a round. -/
theorem callOpIn {c : Operand} {args : Array Operand} {argTypes : Array TypeId} (f : FuncId) (vals first caps : List Value)
    (hf : callable P f = true) (hgd : Region.wanted o (yielded ops a.tmps) = true) (ho : o.op = .call { callee := .value c, args, argTypes }) (hc : a.eval c = .func (.func f) first.toArray caps.toArray) (hargs : args.toList.map a.eval = vals)
    (h : Calls P f (first ++ vals ++ caps).toArray w (fun e w' => ∃ v, e = .returned v ∧ wpListIn (Fence.wide.inRound l) n P ops Q rest (a.put o.dst v) w')) : wpListIn (Fence.wide.inRound l) n P ops Q (o :: rest) a w := by
  unfold callable at hf
  cases hfn : P.funcs[f]? with
  | none => rw [hfn] at hf; cases hf
  | some fn =>
    rw [hfn] at hf
    simp only [Bool.and_eq_true, Bool.not_eq_true', beq_eq_false_iff_ne] at hf
    obtain ⟨h1, h2⟩ := hf
    obtain ⟨b, hb⟩ := Option.isSome_iff_exists.1 h2
    unfold wpListIn
    rw [if_pos hgd]
    refine ⟨fun f _ => trivial, ?_⟩
    rw [Oper.semAt_eq _ _ _ (fun c e => by rw [ho] at e; cases e)]
    unfold execOp
    have hargs' : args.map a.eval = vals.toArray := by
      apply Array.ext'
      rw [Array.toList_map, hargs]
    have hrun : ∀ vs, (callFunc f vs).run P w = .ok (.enter f vs) w := fun vs => by simp [callFunc, hfn, h1, hb]
    have happ : first.toArray ++ vals.toArray ++ caps.toArray = (first ++ vals ++ caps).toArray := by simp
    simp only [ho, resolve, hc, Deferred.ofValue, invoke, Sem.run_bind, Sem.run_pure, Result.andThen_ok, hargs', hrun, Oper.uponIn, happ]
    refine ⟨fun hd => (by cases hd), CallsIn.inRound l (callsIn_wide.2 (h.mono fun e w' ⟨v, he, hw⟩ => ?_))⟩
    subst he
    exact hw
end
end Go.Proofs.Ytpbebmbkcpdbeaa
