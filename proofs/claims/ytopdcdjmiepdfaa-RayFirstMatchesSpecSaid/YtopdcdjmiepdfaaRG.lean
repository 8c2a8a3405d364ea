/-
  RG: several texts in one. No statement is proved here.
-/
import Derived.Test.YtopdcdjmiepdfaaRF
import Derived.Test.YtopdcdjmiepdfaaRB
import Derived.Test.YtopdcdjmiepdfaaRC
set_option linter.unusedVariables false
set_option linter.unusedSimpArgs false
namespace Go.Proofs.Ytopdcdjmiepdfaa
open Go.RowKit
set_option linter.unusedVariables false
set_option linter.unusedSimpArgs false
set_option maxRecDepth 100000 in
set_option maxHeartbeats 4000000 in
theorem cross0_any {w0 w : World} {M : List Res} (g : Nat) (s : Ax3) (hp : -1073741824 ≤ s.x.pos ∧ s.x.pos ≤ 1073741824) (hs : -1 ≤ s.x.step ∧ s.x.step ≤ 1) (hn : -1073741824 ≤ s.x.n ∧ s.x.n ≤ 1073741824) (hm : Mem w0 w (.arr g 87 (a3 s) :: M)) : Calls Try.prog 49 #[.pointer (some ⟨g, 0, none⟩)] w (fun e w' => e = .returned (.tuple #[]) ∧ Mem w0 w' (.arr g 87 (a3 ⟨s.x.inc, s.y, s.z⟩) :: M)) := by
  have hm0 := hm
  go_enter Try.func49, Try.ntmps49
  refine litStart 22 [(0, .pointer (some ⟨g, 0, none⟩))] (by kernel_rfl) (fun X0 => ?_)
  refine wp_seq_k fun K1 hK1 => ?_
  refine aoStart (aoV [fun _ => .pointer (some ⟨g, 0, none⟩), fun _ => .pointer (some ⟨g, 0, none⟩), fun _ => .pointer (some ⟨g, 0, none⟩), fun _ => .int .i64 s.x.pos, fun _ => .pointer (some ⟨g, 0, none⟩), fun _ => .pointer (some ⟨g, 0, none⟩), fun _ => .pointer (some ⟨g, 1, none⟩), fun _ => .int .i64 s.x.step, fun _ => .int .i64 (s.x.pos + s.x.step), fun _ => .pointer (some ⟨g, 0, none⟩), fun _ => .pointer (some ⟨g, 0, none⟩), fun _ => undef]) (aoA [0, 1, 2, 3, 4, 5, 6, 7, 8, 9, 10, 11]) (fun b_ g_ => ((.arr g 87 (bsel (b_ 11) [.int .i64 (s.x.pos + s.x.step), .int .i64 s.x.step, .int .i64 s.x.n, .int .i64 s.x.d, .int .i64 s.y.pos, .int .i64 s.y.step, .int .i64 s.y.n, .int .i64 s.y.d, .int .i64 s.z.pos, .int .i64 s.z.step, .int .i64 s.z.n, .int .i64 s.z.d] (a3 s))) :: M)) hm0 (by kernel_rfl) (by kernel_rfl) (fun w_ h_ => h_) (fun b_ g_ h_ => by show (fun (x11_ : Bool) => (((.arr g 87 (bsel x11_ [.int .i64 (s.x.pos + s.x.step), .int .i64 s.x.step, .int .i64 s.x.n, .int .i64 s.x.d, .int .i64 s.y.pos, .int .i64 s.y.step, .int .i64 s.y.n, .int .i64 s.y.d, .int .i64 s.z.pos, .int .i64 s.z.step, .int .i64 s.z.n, .int .i64 s.z.d] (a3 s))) :: M) : List Res)) (b_ 11) = _; rw [h_ 11 (by decide)]) ?_ ?_
  · refine aoNext rfl (aoVal (fun g_ => [(0, .pointer (some ⟨g, 0, none⟩))]) (fun g_ a_ h_k => ⟨(h_k.out 0 (by kernel_rfl)).trans (litGet (by kernel_rfl)), trivial⟩) (fun g_ X_ => (wn rfl)) (fun b_ g_ => by kernel_rfl) (fun b_ g_ X_ w_ h_b h_ => valTo (b := .pointer (some ⟨g, 0, none⟩)) (by kernel_rfl) (litRun (by kernel_rfl)))) ?_
    refine aoNext rfl (aoVal (fun g_ => [(2, .pointer (some ⟨g, 0, none⟩))]) (fun g_ a_ h_k => ⟨(h_k.inn 0 _ _ (by kernel_rfl) rfl rfl).trans (by kernel_rfl), trivial⟩) (fun g_ X_ => (wn rfl)) (fun b_ g_ => by kernel_rfl) (fun b_ g_ X_ w_ h_b h_ => valTo (b := .pointer (some ⟨g, 0, none⟩)) (by kernel_rfl) (litRun (by kernel_rfl)))) ?_
    refine aoNext rfl (aoVal (fun g_ => [(3, .pointer (some ⟨g, 0, none⟩))]) (fun g_ a_ h_k => ⟨(h_k.inn 1 _ _ (by kernel_rfl) rfl rfl).trans (by kernel_rfl), trivial⟩) (fun g_ X_ => (wn rfl)) (fun b_ g_ => by kernel_rfl) (fun b_ g_ X_ w_ h_b h_ => valTo (b := .pointer (some ⟨g, 0, none⟩)) (by kernel_rfl) (litRun (by kernel_rfl)))) ?_
    refine aoNext rfl (aoVal (fun g_ => [(4, .pointer (some ⟨g, 0, none⟩))]) (fun g_ a_ h_k => ⟨(h_k.inn 2 _ _ (by kernel_rfl) rfl rfl).trans (by kernel_rfl), trivial⟩) (fun g_ X_ => (wn rfl)) (fun b_ g_ => by kernel_rfl) (fun b_ g_ X_ w_ h_b h_ => valTo (b := .int .i64 s.x.pos) (by kernel_rfl) ((fun (h_ : Mem _ w_ ((.arr g 87 (a3 s)) :: M)) => gLoad (v := .int .i64 s.x.pos) (k := 0) 0 h_ rfl (by kernel_rfl) (.tmp 4) (by kernel_rfl) rfl (litEv (by kernel_rfl))) (by have h2_ : Mem w0 w_ ((.arr g 87 (bsel (b_ 11) [.int .i64 (s.x.pos + s.x.step), .int .i64 s.x.step, .int .i64 s.x.n, .int .i64 s.x.d, .int .i64 s.y.pos, .int .i64 s.y.step, .int .i64 s.y.n, .int .i64 s.y.d, .int .i64 s.z.pos, .int .i64 s.z.step, .int .i64 s.z.n, .int .i64 s.z.d] (a3 s))) :: M) := h_; rw [bselF (h_b.post 11 (by kernel_rfl))] at h2_; exact h2_)))) ?_
    refine aoNext rfl (aoVal (fun g_ => [(0, .pointer (some ⟨g, 0, none⟩))]) (fun g_ a_ h_k => ⟨(h_k.out 0 (by kernel_rfl)).trans (litGet (by kernel_rfl)), trivial⟩) (fun g_ X_ => (wn rfl)) (fun b_ g_ => by kernel_rfl) (fun b_ g_ X_ w_ h_b h_ => valTo (b := .pointer (some ⟨g, 0, none⟩)) (by kernel_rfl) (litRun (by kernel_rfl)))) ?_
    refine aoNext rfl (aoVal (fun g_ => [(6, .pointer (some ⟨g, 0, none⟩))]) (fun g_ a_ h_k => ⟨(h_k.inn 4 _ _ (by kernel_rfl) rfl rfl).trans (by kernel_rfl), trivial⟩) (fun g_ X_ => (wn rfl)) (fun b_ g_ => by kernel_rfl) (fun b_ g_ X_ w_ h_b h_ => valTo (b := .pointer (some ⟨g, 0, none⟩)) (by kernel_rfl) (litRun (by kernel_rfl)))) ?_
    refine aoNext rfl (aoVal (fun g_ => [(7, .pointer (some ⟨g, 0, none⟩))]) (fun g_ a_ h_k => ⟨(h_k.inn 5 _ _ (by kernel_rfl) rfl rfl).trans (by kernel_rfl), trivial⟩) (fun g_ X_ => (wn rfl)) (fun b_ g_ => by kernel_rfl) (fun b_ g_ X_ w_ h_b h_ => valTo (b := .pointer (some ⟨g, 1, none⟩)) (by kernel_rfl) (litRun (by kernel_rfl)))) ?_
    refine aoNext rfl (aoVal (fun g_ => [(8, .pointer (some ⟨g, 1, none⟩))]) (fun g_ a_ h_k => ⟨(h_k.inn 6 _ _ (by kernel_rfl) rfl rfl).trans (by kernel_rfl), trivial⟩) (fun g_ X_ => (wn rfl)) (fun b_ g_ => by kernel_rfl) (fun b_ g_ X_ w_ h_b h_ => valTo (b := .int .i64 s.x.step) (by kernel_rfl) ((fun (h_ : Mem _ w_ ((.arr g 87 (a3 s)) :: M)) => gLoad (v := .int .i64 s.x.step) (k := 1) 0 h_ rfl (by kernel_rfl) (.tmp 8) (by kernel_rfl) rfl (litEv (by kernel_rfl))) (by have h2_ : Mem w0 w_ ((.arr g 87 (bsel (b_ 11) [.int .i64 (s.x.pos + s.x.step), .int .i64 s.x.step, .int .i64 s.x.n, .int .i64 s.x.d, .int .i64 s.y.pos, .int .i64 s.y.step, .int .i64 s.y.n, .int .i64 s.y.d, .int .i64 s.z.pos, .int .i64 s.z.step, .int .i64 s.z.n, .int .i64 s.z.d] (a3 s))) :: M) := h_; rw [bselF (h_b.post 11 (by kernel_rfl))] at h2_; exact h2_)))) ?_
    refine aoNext rfl (aoVal (fun g_ => [(5, .int .i64 s.x.pos), (9, .int .i64 s.x.step)]) (fun g_ a_ h_k => ⟨(h_k.inn 3 _ _ (by kernel_rfl) rfl rfl).trans (by kernel_rfl), (h_k.inn 7 _ _ (by kernel_rfl) rfl rfl).trans (by kernel_rfl), trivial⟩) (fun g_ X_ => (wn rfl)) (fun b_ g_ => by kernel_rfl) (fun b_ g_ X_ w_ h_b h_ => valTo (b := .int .i64 (s.x.pos + s.x.step)) (by kernel_rfl) (addRun (A := s.x.pos) (B := s.x.step) (C := s.x.pos + s.x.step) (.tmp 5) (.tmp 9) rfl (litEv (by kernel_rfl)) (litEv (by kernel_rfl)) rfl (by omega)))) ?_
    refine aoNext rfl (aoVal (fun g_ => [(2, .pointer (some ⟨g, 0, none⟩))]) (fun g_ a_ h_k => ⟨(h_k.inn 0 _ _ (by kernel_rfl) rfl rfl).trans (by kernel_rfl), trivial⟩) (fun g_ X_ => (wn rfl)) (fun b_ g_ => by kernel_rfl) (fun b_ g_ X_ w_ h_b h_ => valTo (b := .pointer (some ⟨g, 0, none⟩)) (by kernel_rfl) (litRun (by kernel_rfl)))) ?_
    refine aoNext rfl (aoVal (fun g_ => [(11, .pointer (some ⟨g, 0, none⟩))]) (fun g_ a_ h_k => ⟨(h_k.inn 9 _ _ (by kernel_rfl) rfl rfl).trans (by kernel_rfl), trivial⟩) (fun g_ X_ => (wn rfl)) (fun b_ g_ => by kernel_rfl) (fun b_ g_ X_ w_ h_b h_ => valTo (b := .pointer (some ⟨g, 0, none⟩)) (by kernel_rfl) (litRun (by kernel_rfl)))) ?_
    refine aoNext rfl (aoStore1 (gb := fun g_ => g) (k := 0) (cur := fun g_ => a3 s) (v := fun g_ => .int .i64 (s.x.pos + s.x.step)) (v0 := fun g_ => .int .i64 s.x.pos) 0 (fun g_ => [(10, .int .i64 (s.x.pos + s.x.step)), (12, .pointer (some ⟨g, 0, none⟩))]) (fun g_ a_ h_k => ⟨(h_k.inn 8 _ _ (by kernel_rfl) rfl rfl).trans (by kernel_rfl), (h_k.inn 10 _ _ (by kernel_rfl) rfl rfl).trans (by kernel_rfl), trivial⟩) (by kernel_rfl) (fun b_ g_ h_b => by show some (Res.arr g 87 (bsel (b_ 11) [.int .i64 (s.x.pos + s.x.step), .int .i64 s.x.step, .int .i64 s.x.n, .int .i64 s.x.d, .int .i64 s.y.pos, .int .i64 s.y.step, .int .i64 s.y.n, .int .i64 s.y.d, .int .i64 s.z.pos, .int .i64 s.z.step, .int .i64 s.z.n, .int .i64 s.z.d] (a3 s))) = some (Res.arr g 87 (a3 s)); rw [bselF h_b.no]) (fun g_ X_ => (wn rfl)) rfl (fun g_ X_ => litEv (by kernel_rfl)) (fun g_ X_ => litEv (by kernel_rfl)) (fun _ => rfl) (fun _ => rfl) (fun _ => rfl) (fun b_ g_ h_b => by kernel_rfl) rfl) ?_
    exact aoDone (by decide)
  intro g_ a_ w3 hF_ hm2
  obtain ⟨X4, rfl⟩ := frLit (⟨hF_.size, hF_.defers, ⟨(hF_.out 0 (by kernel_rfl)).trans (litGet (by kernel_rfl)), (hF_.inn 0 _ _ rfl rfl).trans (by kernel_rfl), (hF_.inn 1 _ _ rfl rfl).trans (by kernel_rfl), (hF_.inn 2 _ _ rfl rfl).trans (by kernel_rfl), (hF_.inn 3 _ _ rfl rfl).trans (by kernel_rfl), (hF_.inn 4 _ _ rfl rfl).trans (by kernel_rfl), (hF_.inn 5 _ _ rfl rfl).trans (by kernel_rfl), (hF_.inn 6 _ _ rfl rfl).trans (by kernel_rfl), (hF_.inn 7 _ _ rfl rfl).trans (by kernel_rfl), (hF_.inn 8 _ _ rfl rfl).trans (by kernel_rfl), (hF_.inn 9 _ _ rfl rfl).trans (by kernel_rfl), (hF_.inn 10 _ _ rfl rfl).trans (by kernel_rfl), trivial⟩⟩ : Fr _ 22 [(0, .pointer (some ⟨g, 0, none⟩)), (2, .pointer (some ⟨g, 0, none⟩)), (3, .pointer (some ⟨g, 0, none⟩)), (4, .pointer (some ⟨g, 0, none⟩)), (5, .int .i64 s.x.pos), (6, .pointer (some ⟨g, 0, none⟩)), (7, .pointer (some ⟨g, 0, none⟩)), (8, .pointer (some ⟨g, 1, none⟩)), (9, .int .i64 s.x.step), (10, .int .i64 (s.x.pos + s.x.step)), (11, .pointer (some ⟨g, 0, none⟩)), (12, .pointer (some ⟨g, 0, none⟩))])
  clear hF_
  have hm5 : Mem w0 w3 ((.arr g 87 ([.int .i64 (s.x.pos + s.x.step), .int .i64 s.x.step, .int .i64 s.x.n, .int .i64 s.x.d, .int .i64 s.y.pos, .int .i64 s.y.step, .int .i64 s.y.n, .int .i64 s.y.d, .int .i64 s.z.pos, .int .i64 s.z.step, .int .i64 s.z.n, .int .i64 s.z.d])) :: M) := hm2
  clear hm2 hm0
  refine then_normal (hK1 _ _ ?_)
  refine plStart ?_
  refine lk (v := .pointer (some ⟨g, 0, none⟩)) rfl rfl rfl ?_
  refine lk (v := .pointer (some ⟨g, 0, none⟩)) rfl rfl rfl ?_
  refine lk (v := .pointer (some ⟨g, 2, none⟩)) rfl rfl rfl ?_
  refine lk (v := .pointer (some ⟨g, 2, none⟩)) rfl rfl rfl ?_
  refine litVal (v := .int .i64 s.x.n) rfl (wn rfl) (gLoad (v := .int .i64 s.x.n) (k := 2) 0 hm5 rfl (by kernel_rfl) (.tmp 16) (by kernel_rfl) rfl (litEv (by kernel_rfl))) rfl (by decide) ?_
  refine litVal (v := .int .i64 (s.x.n + 2)) rfl (wn rfl) (addRun (A := s.x.n) (B := 2) (C := s.x.n + 2) (.tmp 17) (.const (.int .i64 2)) rfl (litEv (by kernel_rfl)) (litEv (by kernel_rfl)) rfl (by omega)) rfl (by decide) ?_
  refine lk (v := .pointer (some ⟨g, 0, none⟩)) rfl rfl rfl ?_
  refine lk (v := .pointer (some ⟨g, 2, none⟩)) rfl rfl rfl ?_
  refine lk (v := .pointer (some ⟨g, 2, none⟩)) rfl rfl rfl ?_
  refine plStore1 (v := .int .i64 (s.x.n + 2)) (k := 2) 0 (by kernel_rfl) hm5 rfl (i := 9) rfl (wn rfl) rfl (litEv (by kernel_rfl)) (litEv (by kernel_rfl)) rfl rfl rfl ?_
  intro w7 hm6
  clear hm5
  try simp only [List.cons_append, List.nil_append, List.set_cons_succ, List.set_cons_zero] at hm6
  refine qNone rfl ?_
  refine plD ?_
  refine bodyPost_end (v := .tuple #[]) (gRes0 rfl ) rfl ?_
  exact ⟨rfl, by have h2_ := hm6; exact h2_⟩
set_option maxRecDepth 100000 in
set_option maxHeartbeats 4000000 in
theorem cross1_any {w0 w : World} {M : List Res} (g : Nat) (s : Ax3) (hp : -1073741824 ≤ s.y.pos ∧ s.y.pos ≤ 1073741824) (hs : -1 ≤ s.y.step ∧ s.y.step ≤ 1) (hn : -1073741824 ≤ s.y.n ∧ s.y.n ≤ 1073741824) (hm : Mem w0 w (.arr g 87 (a3 s) :: M)) : Calls Try.prog 49 #[.pointer (some ⟨g, 4, none⟩)] w (fun e w' => e = .returned (.tuple #[]) ∧ Mem w0 w' (.arr g 87 (a3 ⟨s.x, s.y.inc, s.z⟩) :: M)) := by
  have hm0 := hm
  go_enter Try.func49, Try.ntmps49
  refine litStart 22 [(0, .pointer (some ⟨g, 4, none⟩))] (by kernel_rfl) (fun X0 => ?_)
  refine wp_seq_k fun K1 hK1 => ?_
  refine aoStart (aoV [fun _ => .pointer (some ⟨g, 4, none⟩), fun _ => .pointer (some ⟨g, 4, none⟩), fun _ => .pointer (some ⟨g, 4, none⟩), fun _ => .int .i64 s.y.pos, fun _ => .pointer (some ⟨g, 4, none⟩), fun _ => .pointer (some ⟨g, 4, none⟩), fun _ => .pointer (some ⟨g, 5, none⟩), fun _ => .int .i64 s.y.step, fun _ => .int .i64 (s.y.pos + s.y.step), fun _ => .pointer (some ⟨g, 4, none⟩), fun _ => .pointer (some ⟨g, 4, none⟩), fun _ => undef]) (aoA [0, 1, 2, 3, 4, 5, 6, 7, 8, 9, 10, 11]) (fun b_ g_ => ((.arr g 87 (bsel (b_ 11) [.int .i64 s.x.pos, .int .i64 s.x.step, .int .i64 s.x.n, .int .i64 s.x.d, .int .i64 (s.y.pos + s.y.step), .int .i64 s.y.step, .int .i64 s.y.n, .int .i64 s.y.d, .int .i64 s.z.pos, .int .i64 s.z.step, .int .i64 s.z.n, .int .i64 s.z.d] (a3 s))) :: M)) hm0 (by kernel_rfl) (by kernel_rfl) (fun w_ h_ => h_) (fun b_ g_ h_ => by show (fun (x11_ : Bool) => (((.arr g 87 (bsel x11_ [.int .i64 s.x.pos, .int .i64 s.x.step, .int .i64 s.x.n, .int .i64 s.x.d, .int .i64 (s.y.pos + s.y.step), .int .i64 s.y.step, .int .i64 s.y.n, .int .i64 s.y.d, .int .i64 s.z.pos, .int .i64 s.z.step, .int .i64 s.z.n, .int .i64 s.z.d] (a3 s))) :: M) : List Res)) (b_ 11) = _; rw [h_ 11 (by decide)]) ?_ ?_
  · refine aoNext rfl (aoVal (fun g_ => [(0, .pointer (some ⟨g, 4, none⟩))]) (fun g_ a_ h_k => ⟨(h_k.out 0 (by kernel_rfl)).trans (litGet (by kernel_rfl)), trivial⟩) (fun g_ X_ => (wn rfl)) (fun b_ g_ => by kernel_rfl) (fun b_ g_ X_ w_ h_b h_ => valTo (b := .pointer (some ⟨g, 4, none⟩)) (by kernel_rfl) (litRun (by kernel_rfl)))) ?_
    refine aoNext rfl (aoVal (fun g_ => [(2, .pointer (some ⟨g, 4, none⟩))]) (fun g_ a_ h_k => ⟨(h_k.inn 0 _ _ (by kernel_rfl) rfl rfl).trans (by kernel_rfl), trivial⟩) (fun g_ X_ => (wn rfl)) (fun b_ g_ => by kernel_rfl) (fun b_ g_ X_ w_ h_b h_ => valTo (b := .pointer (some ⟨g, 4, none⟩)) (by kernel_rfl) (litRun (by kernel_rfl)))) ?_
    refine aoNext rfl (aoVal (fun g_ => [(3, .pointer (some ⟨g, 4, none⟩))]) (fun g_ a_ h_k => ⟨(h_k.inn 1 _ _ (by kernel_rfl) rfl rfl).trans (by kernel_rfl), trivial⟩) (fun g_ X_ => (wn rfl)) (fun b_ g_ => by kernel_rfl) (fun b_ g_ X_ w_ h_b h_ => valTo (b := .pointer (some ⟨g, 4, none⟩)) (by kernel_rfl) (litRun (by kernel_rfl)))) ?_
    refine aoNext rfl (aoVal (fun g_ => [(4, .pointer (some ⟨g, 4, none⟩))]) (fun g_ a_ h_k => ⟨(h_k.inn 2 _ _ (by kernel_rfl) rfl rfl).trans (by kernel_rfl), trivial⟩) (fun g_ X_ => (wn rfl)) (fun b_ g_ => by kernel_rfl) (fun b_ g_ X_ w_ h_b h_ => valTo (b := .int .i64 s.y.pos) (by kernel_rfl) ((fun (h_ : Mem _ w_ ((.arr g 87 (a3 s)) :: M)) => gLoad (v := .int .i64 s.y.pos) (k := 4) 0 h_ rfl (by kernel_rfl) (.tmp 4) (by kernel_rfl) rfl (litEv (by kernel_rfl))) (by have h2_ : Mem w0 w_ ((.arr g 87 (bsel (b_ 11) [.int .i64 s.x.pos, .int .i64 s.x.step, .int .i64 s.x.n, .int .i64 s.x.d, .int .i64 (s.y.pos + s.y.step), .int .i64 s.y.step, .int .i64 s.y.n, .int .i64 s.y.d, .int .i64 s.z.pos, .int .i64 s.z.step, .int .i64 s.z.n, .int .i64 s.z.d] (a3 s))) :: M) := h_; rw [bselF (h_b.post 11 (by kernel_rfl))] at h2_; exact h2_)))) ?_
    refine aoNext rfl (aoVal (fun g_ => [(0, .pointer (some ⟨g, 4, none⟩))]) (fun g_ a_ h_k => ⟨(h_k.out 0 (by kernel_rfl)).trans (litGet (by kernel_rfl)), trivial⟩) (fun g_ X_ => (wn rfl)) (fun b_ g_ => by kernel_rfl) (fun b_ g_ X_ w_ h_b h_ => valTo (b := .pointer (some ⟨g, 4, none⟩)) (by kernel_rfl) (litRun (by kernel_rfl)))) ?_
    refine aoNext rfl (aoVal (fun g_ => [(6, .pointer (some ⟨g, 4, none⟩))]) (fun g_ a_ h_k => ⟨(h_k.inn 4 _ _ (by kernel_rfl) rfl rfl).trans (by kernel_rfl), trivial⟩) (fun g_ X_ => (wn rfl)) (fun b_ g_ => by kernel_rfl) (fun b_ g_ X_ w_ h_b h_ => valTo (b := .pointer (some ⟨g, 4, none⟩)) (by kernel_rfl) (litRun (by kernel_rfl)))) ?_
    refine aoNext rfl (aoVal (fun g_ => [(7, .pointer (some ⟨g, 4, none⟩))]) (fun g_ a_ h_k => ⟨(h_k.inn 5 _ _ (by kernel_rfl) rfl rfl).trans (by kernel_rfl), trivial⟩) (fun g_ X_ => (wn rfl)) (fun b_ g_ => by kernel_rfl) (fun b_ g_ X_ w_ h_b h_ => valTo (b := .pointer (some ⟨g, 5, none⟩)) (by kernel_rfl) (litRun (by kernel_rfl)))) ?_
    refine aoNext rfl (aoVal (fun g_ => [(8, .pointer (some ⟨g, 5, none⟩))]) (fun g_ a_ h_k => ⟨(h_k.inn 6 _ _ (by kernel_rfl) rfl rfl).trans (by kernel_rfl), trivial⟩) (fun g_ X_ => (wn rfl)) (fun b_ g_ => by kernel_rfl) (fun b_ g_ X_ w_ h_b h_ => valTo (b := .int .i64 s.y.step) (by kernel_rfl) ((fun (h_ : Mem _ w_ ((.arr g 87 (a3 s)) :: M)) => gLoad (v := .int .i64 s.y.step) (k := 5) 0 h_ rfl (by kernel_rfl) (.tmp 8) (by kernel_rfl) rfl (litEv (by kernel_rfl))) (by have h2_ : Mem w0 w_ ((.arr g 87 (bsel (b_ 11) [.int .i64 s.x.pos, .int .i64 s.x.step, .int .i64 s.x.n, .int .i64 s.x.d, .int .i64 (s.y.pos + s.y.step), .int .i64 s.y.step, .int .i64 s.y.n, .int .i64 s.y.d, .int .i64 s.z.pos, .int .i64 s.z.step, .int .i64 s.z.n, .int .i64 s.z.d] (a3 s))) :: M) := h_; rw [bselF (h_b.post 11 (by kernel_rfl))] at h2_; exact h2_)))) ?_
    refine aoNext rfl (aoVal (fun g_ => [(5, .int .i64 s.y.pos), (9, .int .i64 s.y.step)]) (fun g_ a_ h_k => ⟨(h_k.inn 3 _ _ (by kernel_rfl) rfl rfl).trans (by kernel_rfl), (h_k.inn 7 _ _ (by kernel_rfl) rfl rfl).trans (by kernel_rfl), trivial⟩) (fun g_ X_ => (wn rfl)) (fun b_ g_ => by kernel_rfl) (fun b_ g_ X_ w_ h_b h_ => valTo (b := .int .i64 (s.y.pos + s.y.step)) (by kernel_rfl) (addRun (A := s.y.pos) (B := s.y.step) (C := s.y.pos + s.y.step) (.tmp 5) (.tmp 9) rfl (litEv (by kernel_rfl)) (litEv (by kernel_rfl)) rfl (by omega)))) ?_
    refine aoNext rfl (aoVal (fun g_ => [(2, .pointer (some ⟨g, 4, none⟩))]) (fun g_ a_ h_k => ⟨(h_k.inn 0 _ _ (by kernel_rfl) rfl rfl).trans (by kernel_rfl), trivial⟩) (fun g_ X_ => (wn rfl)) (fun b_ g_ => by kernel_rfl) (fun b_ g_ X_ w_ h_b h_ => valTo (b := .pointer (some ⟨g, 4, none⟩)) (by kernel_rfl) (litRun (by kernel_rfl)))) ?_
    refine aoNext rfl (aoVal (fun g_ => [(11, .pointer (some ⟨g, 4, none⟩))]) (fun g_ a_ h_k => ⟨(h_k.inn 9 _ _ (by kernel_rfl) rfl rfl).trans (by kernel_rfl), trivial⟩) (fun g_ X_ => (wn rfl)) (fun b_ g_ => by kernel_rfl) (fun b_ g_ X_ w_ h_b h_ => valTo (b := .pointer (some ⟨g, 4, none⟩)) (by kernel_rfl) (litRun (by kernel_rfl)))) ?_
    refine aoNext rfl (aoStore1 (gb := fun g_ => g) (k := 4) (cur := fun g_ => a3 s) (v := fun g_ => .int .i64 (s.y.pos + s.y.step)) (v0 := fun g_ => .int .i64 s.y.pos) 0 (fun g_ => [(10, .int .i64 (s.y.pos + s.y.step)), (12, .pointer (some ⟨g, 4, none⟩))]) (fun g_ a_ h_k => ⟨(h_k.inn 8 _ _ (by kernel_rfl) rfl rfl).trans (by kernel_rfl), (h_k.inn 10 _ _ (by kernel_rfl) rfl rfl).trans (by kernel_rfl), trivial⟩) (by kernel_rfl) (fun b_ g_ h_b => by show some (Res.arr g 87 (bsel (b_ 11) [.int .i64 s.x.pos, .int .i64 s.x.step, .int .i64 s.x.n, .int .i64 s.x.d, .int .i64 (s.y.pos + s.y.step), .int .i64 s.y.step, .int .i64 s.y.n, .int .i64 s.y.d, .int .i64 s.z.pos, .int .i64 s.z.step, .int .i64 s.z.n, .int .i64 s.z.d] (a3 s))) = some (Res.arr g 87 (a3 s)); rw [bselF h_b.no]) (fun g_ X_ => (wn rfl)) rfl (fun g_ X_ => litEv (by kernel_rfl)) (fun g_ X_ => litEv (by kernel_rfl)) (fun _ => rfl) (fun _ => rfl) (fun _ => rfl) (fun b_ g_ h_b => by kernel_rfl) rfl) ?_
    exact aoDone (by decide)
  intro g_ a_ w3 hF_ hm2
  obtain ⟨X4, rfl⟩ := frLit (⟨hF_.size, hF_.defers, ⟨(hF_.out 0 (by kernel_rfl)).trans (litGet (by kernel_rfl)), (hF_.inn 0 _ _ rfl rfl).trans (by kernel_rfl), (hF_.inn 1 _ _ rfl rfl).trans (by kernel_rfl), (hF_.inn 2 _ _ rfl rfl).trans (by kernel_rfl), (hF_.inn 3 _ _ rfl rfl).trans (by kernel_rfl), (hF_.inn 4 _ _ rfl rfl).trans (by kernel_rfl), (hF_.inn 5 _ _ rfl rfl).trans (by kernel_rfl), (hF_.inn 6 _ _ rfl rfl).trans (by kernel_rfl), (hF_.inn 7 _ _ rfl rfl).trans (by kernel_rfl), (hF_.inn 8 _ _ rfl rfl).trans (by kernel_rfl), (hF_.inn 9 _ _ rfl rfl).trans (by kernel_rfl), (hF_.inn 10 _ _ rfl rfl).trans (by kernel_rfl), trivial⟩⟩ : Fr _ 22 [(0, .pointer (some ⟨g, 4, none⟩)), (2, .pointer (some ⟨g, 4, none⟩)), (3, .pointer (some ⟨g, 4, none⟩)), (4, .pointer (some ⟨g, 4, none⟩)), (5, .int .i64 s.y.pos), (6, .pointer (some ⟨g, 4, none⟩)), (7, .pointer (some ⟨g, 4, none⟩)), (8, .pointer (some ⟨g, 5, none⟩)), (9, .int .i64 s.y.step), (10, .int .i64 (s.y.pos + s.y.step)), (11, .pointer (some ⟨g, 4, none⟩)), (12, .pointer (some ⟨g, 4, none⟩))])
  clear hF_
  have hm5 : Mem w0 w3 ((.arr g 87 ([.int .i64 s.x.pos, .int .i64 s.x.step, .int .i64 s.x.n, .int .i64 s.x.d, .int .i64 (s.y.pos + s.y.step), .int .i64 s.y.step, .int .i64 s.y.n, .int .i64 s.y.d, .int .i64 s.z.pos, .int .i64 s.z.step, .int .i64 s.z.n, .int .i64 s.z.d])) :: M) := hm2
  clear hm2 hm0
  refine then_normal (hK1 _ _ ?_)
  refine plStart ?_
  refine lk (v := .pointer (some ⟨g, 4, none⟩)) rfl rfl rfl ?_
  refine lk (v := .pointer (some ⟨g, 4, none⟩)) rfl rfl rfl ?_
  refine lk (v := .pointer (some ⟨g, 6, none⟩)) rfl rfl rfl ?_
  refine lk (v := .pointer (some ⟨g, 6, none⟩)) rfl rfl rfl ?_
  refine litVal (v := .int .i64 s.y.n) rfl (wn rfl) (gLoad (v := .int .i64 s.y.n) (k := 6) 0 hm5 rfl (by kernel_rfl) (.tmp 16) (by kernel_rfl) rfl (litEv (by kernel_rfl))) rfl (by decide) ?_
  refine litVal (v := .int .i64 (s.y.n + 2)) rfl (wn rfl) (addRun (A := s.y.n) (B := 2) (C := s.y.n + 2) (.tmp 17) (.const (.int .i64 2)) rfl (litEv (by kernel_rfl)) (litEv (by kernel_rfl)) rfl (by omega)) rfl (by decide) ?_
  refine lk (v := .pointer (some ⟨g, 4, none⟩)) rfl rfl rfl ?_
  refine lk (v := .pointer (some ⟨g, 6, none⟩)) rfl rfl rfl ?_
  refine lk (v := .pointer (some ⟨g, 6, none⟩)) rfl rfl rfl ?_
  refine plStore1 (v := .int .i64 (s.y.n + 2)) (k := 6) 0 (by kernel_rfl) hm5 rfl (i := 9) rfl (wn rfl) rfl (litEv (by kernel_rfl)) (litEv (by kernel_rfl)) rfl rfl rfl ?_
  intro w7 hm6
  clear hm5
  try simp only [List.cons_append, List.nil_append, List.set_cons_succ, List.set_cons_zero] at hm6
  refine qNone rfl ?_
  refine plD ?_
  refine bodyPost_end (v := .tuple #[]) (gRes0 rfl ) rfl ?_
  exact ⟨rfl, by have h2_ := hm6; exact h2_⟩
set_option maxRecDepth 100000 in
set_option maxHeartbeats 4000000 in
theorem cross2_any {w0 w : World} {M : List Res} (g : Nat) (s : Ax3) (hp : -1073741824 ≤ s.z.pos ∧ s.z.pos ≤ 1073741824) (hs : -1 ≤ s.z.step ∧ s.z.step ≤ 1) (hn : -1073741824 ≤ s.z.n ∧ s.z.n ≤ 1073741824) (hm : Mem w0 w (.arr g 87 (a3 s) :: M)) : Calls Try.prog 49 #[.pointer (some ⟨g, 8, none⟩)] w (fun e w' => e = .returned (.tuple #[]) ∧ Mem w0 w' (.arr g 87 (a3 ⟨s.x, s.y, s.z.inc⟩) :: M)) := by
  have hm0 := hm
  go_enter Try.func49, Try.ntmps49
  refine litStart 22 [(0, .pointer (some ⟨g, 8, none⟩))] (by kernel_rfl) (fun X0 => ?_)
  refine wp_seq_k fun K1 hK1 => ?_
  refine aoStart (aoV [fun _ => .pointer (some ⟨g, 8, none⟩), fun _ => .pointer (some ⟨g, 8, none⟩), fun _ => .pointer (some ⟨g, 8, none⟩), fun _ => .int .i64 s.z.pos, fun _ => .pointer (some ⟨g, 8, none⟩), fun _ => .pointer (some ⟨g, 8, none⟩), fun _ => .pointer (some ⟨g, 9, none⟩), fun _ => .int .i64 s.z.step, fun _ => .int .i64 (s.z.pos + s.z.step), fun _ => .pointer (some ⟨g, 8, none⟩), fun _ => .pointer (some ⟨g, 8, none⟩), fun _ => undef]) (aoA [0, 1, 2, 3, 4, 5, 6, 7, 8, 9, 10, 11]) (fun b_ g_ => ((.arr g 87 (bsel (b_ 11) [.int .i64 s.x.pos, .int .i64 s.x.step, .int .i64 s.x.n, .int .i64 s.x.d, .int .i64 s.y.pos, .int .i64 s.y.step, .int .i64 s.y.n, .int .i64 s.y.d, .int .i64 (s.z.pos + s.z.step), .int .i64 s.z.step, .int .i64 s.z.n, .int .i64 s.z.d] (a3 s))) :: M)) hm0 (by kernel_rfl) (by kernel_rfl) (fun w_ h_ => h_) (fun b_ g_ h_ => by show (fun (x11_ : Bool) => (((.arr g 87 (bsel x11_ [.int .i64 s.x.pos, .int .i64 s.x.step, .int .i64 s.x.n, .int .i64 s.x.d, .int .i64 s.y.pos, .int .i64 s.y.step, .int .i64 s.y.n, .int .i64 s.y.d, .int .i64 (s.z.pos + s.z.step), .int .i64 s.z.step, .int .i64 s.z.n, .int .i64 s.z.d] (a3 s))) :: M) : List Res)) (b_ 11) = _; rw [h_ 11 (by decide)]) ?_ ?_
  · refine aoNext rfl (aoVal (fun g_ => [(0, .pointer (some ⟨g, 8, none⟩))]) (fun g_ a_ h_k => ⟨(h_k.out 0 (by kernel_rfl)).trans (litGet (by kernel_rfl)), trivial⟩) (fun g_ X_ => (wn rfl)) (fun b_ g_ => by kernel_rfl) (fun b_ g_ X_ w_ h_b h_ => valTo (b := .pointer (some ⟨g, 8, none⟩)) (by kernel_rfl) (litRun (by kernel_rfl)))) ?_
    refine aoNext rfl (aoVal (fun g_ => [(2, .pointer (some ⟨g, 8, none⟩))]) (fun g_ a_ h_k => ⟨(h_k.inn 0 _ _ (by kernel_rfl) rfl rfl).trans (by kernel_rfl), trivial⟩) (fun g_ X_ => (wn rfl)) (fun b_ g_ => by kernel_rfl) (fun b_ g_ X_ w_ h_b h_ => valTo (b := .pointer (some ⟨g, 8, none⟩)) (by kernel_rfl) (litRun (by kernel_rfl)))) ?_
    refine aoNext rfl (aoVal (fun g_ => [(3, .pointer (some ⟨g, 8, none⟩))]) (fun g_ a_ h_k => ⟨(h_k.inn 1 _ _ (by kernel_rfl) rfl rfl).trans (by kernel_rfl), trivial⟩) (fun g_ X_ => (wn rfl)) (fun b_ g_ => by kernel_rfl) (fun b_ g_ X_ w_ h_b h_ => valTo (b := .pointer (some ⟨g, 8, none⟩)) (by kernel_rfl) (litRun (by kernel_rfl)))) ?_
    refine aoNext rfl (aoVal (fun g_ => [(4, .pointer (some ⟨g, 8, none⟩))]) (fun g_ a_ h_k => ⟨(h_k.inn 2 _ _ (by kernel_rfl) rfl rfl).trans (by kernel_rfl), trivial⟩) (fun g_ X_ => (wn rfl)) (fun b_ g_ => by kernel_rfl) (fun b_ g_ X_ w_ h_b h_ => valTo (b := .int .i64 s.z.pos) (by kernel_rfl) ((fun (h_ : Mem _ w_ ((.arr g 87 (a3 s)) :: M)) => gLoad (v := .int .i64 s.z.pos) (k := 8) 0 h_ rfl (by kernel_rfl) (.tmp 4) (by kernel_rfl) rfl (litEv (by kernel_rfl))) (by have h2_ : Mem w0 w_ ((.arr g 87 (bsel (b_ 11) [.int .i64 s.x.pos, .int .i64 s.x.step, .int .i64 s.x.n, .int .i64 s.x.d, .int .i64 s.y.pos, .int .i64 s.y.step, .int .i64 s.y.n, .int .i64 s.y.d, .int .i64 (s.z.pos + s.z.step), .int .i64 s.z.step, .int .i64 s.z.n, .int .i64 s.z.d] (a3 s))) :: M) := h_; rw [bselF (h_b.post 11 (by kernel_rfl))] at h2_; exact h2_)))) ?_
    refine aoNext rfl (aoVal (fun g_ => [(0, .pointer (some ⟨g, 8, none⟩))]) (fun g_ a_ h_k => ⟨(h_k.out 0 (by kernel_rfl)).trans (litGet (by kernel_rfl)), trivial⟩) (fun g_ X_ => (wn rfl)) (fun b_ g_ => by kernel_rfl) (fun b_ g_ X_ w_ h_b h_ => valTo (b := .pointer (some ⟨g, 8, none⟩)) (by kernel_rfl) (litRun (by kernel_rfl)))) ?_
    refine aoNext rfl (aoVal (fun g_ => [(6, .pointer (some ⟨g, 8, none⟩))]) (fun g_ a_ h_k => ⟨(h_k.inn 4 _ _ (by kernel_rfl) rfl rfl).trans (by kernel_rfl), trivial⟩) (fun g_ X_ => (wn rfl)) (fun b_ g_ => by kernel_rfl) (fun b_ g_ X_ w_ h_b h_ => valTo (b := .pointer (some ⟨g, 8, none⟩)) (by kernel_rfl) (litRun (by kernel_rfl)))) ?_
    refine aoNext rfl (aoVal (fun g_ => [(7, .pointer (some ⟨g, 8, none⟩))]) (fun g_ a_ h_k => ⟨(h_k.inn 5 _ _ (by kernel_rfl) rfl rfl).trans (by kernel_rfl), trivial⟩) (fun g_ X_ => (wn rfl)) (fun b_ g_ => by kernel_rfl) (fun b_ g_ X_ w_ h_b h_ => valTo (b := .pointer (some ⟨g, 9, none⟩)) (by kernel_rfl) (litRun (by kernel_rfl)))) ?_
    refine aoNext rfl (aoVal (fun g_ => [(8, .pointer (some ⟨g, 9, none⟩))]) (fun g_ a_ h_k => ⟨(h_k.inn 6 _ _ (by kernel_rfl) rfl rfl).trans (by kernel_rfl), trivial⟩) (fun g_ X_ => (wn rfl)) (fun b_ g_ => by kernel_rfl) (fun b_ g_ X_ w_ h_b h_ => valTo (b := .int .i64 s.z.step) (by kernel_rfl) ((fun (h_ : Mem _ w_ ((.arr g 87 (a3 s)) :: M)) => gLoad (v := .int .i64 s.z.step) (k := 9) 0 h_ rfl (by kernel_rfl) (.tmp 8) (by kernel_rfl) rfl (litEv (by kernel_rfl))) (by have h2_ : Mem w0 w_ ((.arr g 87 (bsel (b_ 11) [.int .i64 s.x.pos, .int .i64 s.x.step, .int .i64 s.x.n, .int .i64 s.x.d, .int .i64 s.y.pos, .int .i64 s.y.step, .int .i64 s.y.n, .int .i64 s.y.d, .int .i64 (s.z.pos + s.z.step), .int .i64 s.z.step, .int .i64 s.z.n, .int .i64 s.z.d] (a3 s))) :: M) := h_; rw [bselF (h_b.post 11 (by kernel_rfl))] at h2_; exact h2_)))) ?_
    refine aoNext rfl (aoVal (fun g_ => [(5, .int .i64 s.z.pos), (9, .int .i64 s.z.step)]) (fun g_ a_ h_k => ⟨(h_k.inn 3 _ _ (by kernel_rfl) rfl rfl).trans (by kernel_rfl), (h_k.inn 7 _ _ (by kernel_rfl) rfl rfl).trans (by kernel_rfl), trivial⟩) (fun g_ X_ => (wn rfl)) (fun b_ g_ => by kernel_rfl) (fun b_ g_ X_ w_ h_b h_ => valTo (b := .int .i64 (s.z.pos + s.z.step)) (by kernel_rfl) (addRun (A := s.z.pos) (B := s.z.step) (C := s.z.pos + s.z.step) (.tmp 5) (.tmp 9) rfl (litEv (by kernel_rfl)) (litEv (by kernel_rfl)) rfl (by omega)))) ?_
    refine aoNext rfl (aoVal (fun g_ => [(2, .pointer (some ⟨g, 8, none⟩))]) (fun g_ a_ h_k => ⟨(h_k.inn 0 _ _ (by kernel_rfl) rfl rfl).trans (by kernel_rfl), trivial⟩) (fun g_ X_ => (wn rfl)) (fun b_ g_ => by kernel_rfl) (fun b_ g_ X_ w_ h_b h_ => valTo (b := .pointer (some ⟨g, 8, none⟩)) (by kernel_rfl) (litRun (by kernel_rfl)))) ?_
    refine aoNext rfl (aoVal (fun g_ => [(11, .pointer (some ⟨g, 8, none⟩))]) (fun g_ a_ h_k => ⟨(h_k.inn 9 _ _ (by kernel_rfl) rfl rfl).trans (by kernel_rfl), trivial⟩) (fun g_ X_ => (wn rfl)) (fun b_ g_ => by kernel_rfl) (fun b_ g_ X_ w_ h_b h_ => valTo (b := .pointer (some ⟨g, 8, none⟩)) (by kernel_rfl) (litRun (by kernel_rfl)))) ?_
    refine aoNext rfl (aoStore1 (gb := fun g_ => g) (k := 8) (cur := fun g_ => a3 s) (v := fun g_ => .int .i64 (s.z.pos + s.z.step)) (v0 := fun g_ => .int .i64 s.z.pos) 0 (fun g_ => [(10, .int .i64 (s.z.pos + s.z.step)), (12, .pointer (some ⟨g, 8, none⟩))]) (fun g_ a_ h_k => ⟨(h_k.inn 8 _ _ (by kernel_rfl) rfl rfl).trans (by kernel_rfl), (h_k.inn 10 _ _ (by kernel_rfl) rfl rfl).trans (by kernel_rfl), trivial⟩) (by kernel_rfl) (fun b_ g_ h_b => by show some (Res.arr g 87 (bsel (b_ 11) [.int .i64 s.x.pos, .int .i64 s.x.step, .int .i64 s.x.n, .int .i64 s.x.d, .int .i64 s.y.pos, .int .i64 s.y.step, .int .i64 s.y.n, .int .i64 s.y.d, .int .i64 (s.z.pos + s.z.step), .int .i64 s.z.step, .int .i64 s.z.n, .int .i64 s.z.d] (a3 s))) = some (Res.arr g 87 (a3 s)); rw [bselF h_b.no]) (fun g_ X_ => (wn rfl)) rfl (fun g_ X_ => litEv (by kernel_rfl)) (fun g_ X_ => litEv (by kernel_rfl)) (fun _ => rfl) (fun _ => rfl) (fun _ => rfl) (fun b_ g_ h_b => by kernel_rfl) rfl) ?_
    exact aoDone (by decide)
  intro g_ a_ w3 hF_ hm2
  obtain ⟨X4, rfl⟩ := frLit (⟨hF_.size, hF_.defers, ⟨(hF_.out 0 (by kernel_rfl)).trans (litGet (by kernel_rfl)), (hF_.inn 0 _ _ rfl rfl).trans (by kernel_rfl), (hF_.inn 1 _ _ rfl rfl).trans (by kernel_rfl), (hF_.inn 2 _ _ rfl rfl).trans (by kernel_rfl), (hF_.inn 3 _ _ rfl rfl).trans (by kernel_rfl), (hF_.inn 4 _ _ rfl rfl).trans (by kernel_rfl), (hF_.inn 5 _ _ rfl rfl).trans (by kernel_rfl), (hF_.inn 6 _ _ rfl rfl).trans (by kernel_rfl), (hF_.inn 7 _ _ rfl rfl).trans (by kernel_rfl), (hF_.inn 8 _ _ rfl rfl).trans (by kernel_rfl), (hF_.inn 9 _ _ rfl rfl).trans (by kernel_rfl), (hF_.inn 10 _ _ rfl rfl).trans (by kernel_rfl), trivial⟩⟩ : Fr _ 22 [(0, .pointer (some ⟨g, 8, none⟩)), (2, .pointer (some ⟨g, 8, none⟩)), (3, .pointer (some ⟨g, 8, none⟩)), (4, .pointer (some ⟨g, 8, none⟩)), (5, .int .i64 s.z.pos), (6, .pointer (some ⟨g, 8, none⟩)), (7, .pointer (some ⟨g, 8, none⟩)), (8, .pointer (some ⟨g, 9, none⟩)), (9, .int .i64 s.z.step), (10, .int .i64 (s.z.pos + s.z.step)), (11, .pointer (some ⟨g, 8, none⟩)), (12, .pointer (some ⟨g, 8, none⟩))])
  clear hF_
  have hm5 : Mem w0 w3 ((.arr g 87 ([.int .i64 s.x.pos, .int .i64 s.x.step, .int .i64 s.x.n, .int .i64 s.x.d, .int .i64 s.y.pos, .int .i64 s.y.step, .int .i64 s.y.n, .int .i64 s.y.d, .int .i64 (s.z.pos + s.z.step), .int .i64 s.z.step, .int .i64 s.z.n, .int .i64 s.z.d])) :: M) := hm2
  clear hm2 hm0
  refine then_normal (hK1 _ _ ?_)
  refine plStart ?_
  refine lk (v := .pointer (some ⟨g, 8, none⟩)) rfl rfl rfl ?_
  refine lk (v := .pointer (some ⟨g, 8, none⟩)) rfl rfl rfl ?_
  refine lk (v := .pointer (some ⟨g, 10, none⟩)) rfl rfl rfl ?_
  refine lk (v := .pointer (some ⟨g, 10, none⟩)) rfl rfl rfl ?_
  refine litVal (v := .int .i64 s.z.n) rfl (wn rfl) (gLoad (v := .int .i64 s.z.n) (k := 10) 0 hm5 rfl (by kernel_rfl) (.tmp 16) (by kernel_rfl) rfl (litEv (by kernel_rfl))) rfl (by decide) ?_
  refine litVal (v := .int .i64 (s.z.n + 2)) rfl (wn rfl) (addRun (A := s.z.n) (B := 2) (C := s.z.n + 2) (.tmp 17) (.const (.int .i64 2)) rfl (litEv (by kernel_rfl)) (litEv (by kernel_rfl)) rfl (by omega)) rfl (by decide) ?_
  refine lk (v := .pointer (some ⟨g, 8, none⟩)) rfl rfl rfl ?_
  refine lk (v := .pointer (some ⟨g, 10, none⟩)) rfl rfl rfl ?_
  refine lk (v := .pointer (some ⟨g, 10, none⟩)) rfl rfl rfl ?_
  refine plStore1 (v := .int .i64 (s.z.n + 2)) (k := 10) 0 (by kernel_rfl) hm5 rfl (i := 9) rfl (wn rfl) rfl (litEv (by kernel_rfl)) (litEv (by kernel_rfl)) rfl rfl rfl ?_
  intro w7 hm6
  clear hm5
  try simp only [List.cons_append, List.nil_append, List.set_cons_succ, List.set_cons_zero] at hm6
  refine qNone rfl ?_
  refine plD ?_
  refine bodyPost_end (v := .tuple #[]) (gRes0 rfl ) rfl ?_
  exact ⟨rfl, by have h2_ := hm6; exact h2_⟩
set_option maxRecDepth 100000 in
set_option maxHeartbeats 4000000 in
theorem each_any {w0 w : World} (a b : Pt) (ha : a.rng) (hb : b.rng) (vf : FuncId) (first caps : List Value) (hvf : callable Try.prog vf = true) (Vp : Nat → List Res → Prop) (Rp : List Res → Prop) (hvis : ∀ (i : Nat) (c : Pt) (w : World) (V M : List Res), (walk a b)[i]? = some c → Vp i V → Mem w0 w (V ++ M) → Calls Try.prog vf (first ++ [Value.agg (pcs c).toArray] ++ caps).toArray w (fun e w' => ∃ t V', e = .returned (.bool t) ∧ Mem w0 w' (V' ++ M) ∧ (t = true → Vp (i + 1) V') ∧ (t = false → Rp V'))) (hend : ∀ V, Vp (walk a b).length V → Rp V) (V0 : List Res) (h0 : Vp 0 V0) (hm : Mem w0 w V0) : Calls Try.prog 32 #[.agg (pcs a).toArray, .agg (pcs b).toArray, .func (.func vf) first.toArray caps.toArray] w (fun e w' => e = .returned (.tuple #[]) ∧ ∃ V, Mem w0 w' V ∧ Rp V) := by
  unfold Pt.rng at ha hb
  have hm0 := hm
  go_enter Try.func32, Try.ntmps32
  refine litStart 82 [(0, .agg (pcs a).toArray), (1, .agg (pcs b).toArray), (2, .func (.func vf) first.toArray caps.toArray)] (by kernel_rfl) (fun X0 => ?_)
  refine wp_seq_k fun K1 hK1 => ?_
  refine plStart ?_
  refine plBox hm0 (cs := pcs a) (i := 0) rfl (wn rfl) rfl (litEv (by kernel_rfl)) ?_
  intro g2 w4 hm3
  clear hm0
  try simp only [List.cons_append, List.nil_append, List.set_cons_succ, List.set_cons_zero] at hm3
  replace hm3 := Mem.insAt (M := (V0)) 0 hm3
  simp only [List.insertIdx_succ_cons, List.insertIdx_zero] at hm3
  refine qP rfl ?_
  refine plBox hm3 (cs := pcs b) (i := 1) rfl (wn rfl) rfl (litEv (by kernel_rfl)) ?_
  intro g5 w7 hm6
  clear hm3
  try simp only [List.cons_append, List.nil_append, List.set_cons_succ, List.set_cons_zero] at hm6
  replace hm6 := Mem.insAt (M := ((.arr g2 23 (pcs a)) :: V0)) 1 hm6
  simp only [List.insertIdx_succ_cons, List.insertIdx_zero] at hm6
  refine qP rfl ?_
  refine plD ?_
  refine then_normal (hK1 _ _ ?_)
  refine wp_seq_k fun K8 hK8 => ?_
  refine plStart ?_
  refine plAlloc (z := [.int .i64 0, .int .i64 0, .int .i64 0, .int .i64 0, .int .i64 0, .int .i64 0, .int .i64 0, .int .i64 0, .int .i64 0, .int .i64 0, .int .i64 0, .int .i64 0]) Ty.ag_3_ray_axis hm6 (i := 0) rfl (wn rfl) rfl ?_
  intro g9 w11 hm10
  clear hm6
  try simp only [List.cons_append, List.nil_append, List.set_cons_succ, List.set_cons_zero] at hm10
  replace hm10 := Mem.insAt (M := ((.arr g2 23 (pcs a)) :: (.arr g5 23 (pcs b)) :: V0)) 2 hm10
  simp only [List.insertIdx_succ_cons, List.insertIdx_zero] at hm10
  refine qP rfl ?_
  refine plD ?_
  refine then_normal (hK8 _ _ ?_)
  refine wp_seq_k fun K12 hK12 => ?_
  refine aoStart (aoV [fun _ => .agg (pcs a).toArray, fun _ => .agg (pcs a).toArray, fun _ => .agg (pcs b).toArray, fun _ => .agg (pcs b).toArray, fun γ_ => .pointer (some ⟨γ_, 0, none⟩), fun γ_ => .pointer (some ⟨γ_, 0, none⟩), fun _ => undef, fun _ => undef]) (aoA [0, 1, 2, 3, 4, 5, 6, 7]) (fun b_ g_ => ((.arr g2 23 (pcs a)) :: (.arr g5 23 (pcs b)) :: (.arr g9 87 ([.int .i64 0, .int .i64 0, .int .i64 0, .int .i64 0, .int .i64 0, .int .i64 0, .int .i64 0, .int .i64 0, .int .i64 0, .int .i64 0, .int .i64 0, .int .i64 0])) :: (bsel (b_ 4) (.arr (g_ 4) 71 (bsel (b_ 6) [.int .i64 a.x, .int .i64 a.y, .int .i64 a.z] [.int .i64 0, .int .i64 0, .int .i64 0])) .free) :: (bsel (b_ 5) (.arr (g_ 5) 71 (bsel (b_ 7) [.int .i64 b.x, .int .i64 b.y, .int .i64 b.z] [.int .i64 0, .int .i64 0, .int .i64 0])) .free) :: V0)) hm10 (by kernel_rfl) (by kernel_rfl) (fun w_ h_ => (Mem.insAt 4 (Mem.insAt 3 h_.pushFree).pushFree)) (fun b_ g_ h_ => by show (fun (x4_ x5_ x6_ x7_ : Bool) => (((.arr g2 23 (pcs a)) :: (.arr g5 23 (pcs b)) :: (.arr g9 87 ([.int .i64 0, .int .i64 0, .int .i64 0, .int .i64 0, .int .i64 0, .int .i64 0, .int .i64 0, .int .i64 0, .int .i64 0, .int .i64 0, .int .i64 0, .int .i64 0])) :: (bsel x4_ (.arr (g_ 4) 71 (bsel x6_ [.int .i64 a.x, .int .i64 a.y, .int .i64 a.z] [.int .i64 0, .int .i64 0, .int .i64 0])) .free) :: (bsel x5_ (.arr (g_ 5) 71 (bsel x7_ [.int .i64 b.x, .int .i64 b.y, .int .i64 b.z] [.int .i64 0, .int .i64 0, .int .i64 0])) .free) :: V0) : List Res)) (b_ 4) (b_ 5) (b_ 6) (b_ 7) = _; rw [h_ 4 (by decide), h_ 5 (by decide), h_ 6 (by decide), h_ 7 (by decide)]) ?_ ?_
  · refine aoNext rfl (aoVal (fun g_ => [(3, .pointer (some ⟨g2, 0, none⟩))]) (fun g_ a_ h_k => ⟨(h_k.out 3 (by kernel_rfl)).trans (litGet (by kernel_rfl)), trivial⟩) (fun g_ X_ => (wn rfl)) (fun b_ g_ => by kernel_rfl) (fun b_ g_ X_ w_ h_b h_ => valTo (b := .agg (pcs a).toArray) (by kernel_rfl) (gLoadAg (vs := pcs a) (k := 0) 0 h_ rfl (by kernel_rfl) (by kernel_rfl) (.tmp 3) Ty.ag_voxel_api_Point rfl (litEv (by kernel_rfl))))) ?_
    refine aoNext rfl (aoCall (fun g_ => [(16, .agg (pcs a).toArray)]) (fun g_ a_ h_k => ⟨(h_k.inn 0 _ _ (by kernel_rfl) rfl rfl).trans (by kernel_rfl), trivial⟩) 36 (fun g_ => [.agg (pcs a).toArray]) [] [] (by kernel_rfl) (fun g_ X_ => (wn rfl)) (fun b_ g_ => by kernel_rfl) rfl (fun g_ X_ => litEv (by kernel_rfl)) (fun g_ X_ => litArgs (by kernel_rfl)) (fun b_ g_ w_ h_b h_ => (coordinates_any a _).mono (fun _ _ h_r => ⟨h_r.1.trans (by kernel_rfl), h_r.2⟩))) ?_
    refine aoNext rfl (aoVal (fun g_ => [(4, .pointer (some ⟨g5, 0, none⟩))]) (fun g_ a_ h_k => ⟨(h_k.out 4 (by kernel_rfl)).trans (litGet (by kernel_rfl)), trivial⟩) (fun g_ X_ => (wn rfl)) (fun b_ g_ => by kernel_rfl) (fun b_ g_ X_ w_ h_b h_ => valTo (b := .agg (pcs b).toArray) (by kernel_rfl) (gLoadAg (vs := pcs b) (k := 0) 1 h_ rfl (by kernel_rfl) (by kernel_rfl) (.tmp 4) Ty.ag_voxel_api_Point rfl (litEv (by kernel_rfl))))) ?_
    refine aoNext rfl (aoCall (fun g_ => [(18, .agg (pcs b).toArray)]) (fun g_ a_ h_k => ⟨(h_k.inn 2 _ _ (by kernel_rfl) rfl rfl).trans (by kernel_rfl), trivial⟩) 36 (fun g_ => [.agg (pcs b).toArray]) [] [] (by kernel_rfl) (fun g_ X_ => (wn rfl)) (fun b_ g_ => by kernel_rfl) rfl (fun g_ X_ => litEv (by kernel_rfl)) (fun g_ X_ => litArgs (by kernel_rfl)) (fun b_ g_ w_ h_b h_ => (coordinates_any b _).mono (fun _ _ h_r => ⟨h_r.1.trans (by kernel_rfl), h_r.2⟩))) ?_
    refine aoNext rfl (aoNewAg (z := [.int .i64 0, .int .i64 0, .int .i64 0]) 3 Ty.ag_3_int rfl rfl (fun _ _ _ => ⟨_, rfl⟩) (fun b_ g_ γ_ h_b => Eq.trans (by kernel_rfl) (congrArg (fun x_ => List.set _ 3 (Res.arr γ_ 71 x_)) (bselF (α := List Value) (h_b.post 6 (by kernel_rfl)) [.int .i64 a.x, .int .i64 a.y, .int .i64 a.z] [.int .i64 0, .int .i64 0, .int .i64 0]))) (fun _ => by kernel_rfl) (by kernel_rfl)) ?_
    refine aoNext rfl (aoNewAg (z := [.int .i64 0, .int .i64 0, .int .i64 0]) 4 Ty.ag_3_int rfl rfl (fun _ _ _ => ⟨_, rfl⟩) (fun b_ g_ γ_ h_b => Eq.trans (by kernel_rfl) (congrArg (fun x_ => List.set _ 4 (Res.arr γ_ 71 x_)) (bselF (α := List Value) (h_b.post 7 (by kernel_rfl)) [.int .i64 b.x, .int .i64 b.y, .int .i64 b.z] [.int .i64 0, .int .i64 0, .int .i64 0]))) (fun _ => by kernel_rfl) (by kernel_rfl)) ?_
    refine aoNext rfl (aoStore (gb := fun g_ => (g_ 4)) (k := 0) (cur := fun g_ => [.int .i64 0, .int .i64 0, .int .i64 0]) (vs := fun g_ => pcs a) 3 (fun g_ => [(7, .pointer (some ⟨(g_ 4), 0, none⟩)), (17, .agg (pcs a).toArray)]) (fun g_ a_ h_k => ⟨(h_k.inn 4 _ _ (by kernel_rfl) rfl rfl).trans (by kernel_rfl), (h_k.inn 1 _ _ (by kernel_rfl) rfl rfl).trans (by kernel_rfl), trivial⟩) Ty.ag_3_int (fun b_ g_ h_b => by show some (bsel (b_ 4) (Res.arr (g_ 4) 71 (bsel (b_ 6) [.int .i64 a.x, .int .i64 a.y, .int .i64 a.z] [.int .i64 0, .int .i64 0, .int .i64 0])) Res.free) = some (Res.arr (g_ 4) 71 ([.int .i64 0, .int .i64 0, .int .i64 0])); rw [bselT (h_b.pre 4 (by kernel_rfl)), bselF h_b.no]) (fun g_ X_ => (wn rfl)) rfl (fun g_ X_ => litEv (by kernel_rfl)) (fun g_ X_ => litEv (by kernel_rfl)) (fun _ => by kernel_rfl) (fun _ => by kernel_rfl) (fun _ => by kernel_rfl) (fun b_ g_ h_b => Eq.trans (b := List.set (((.arr g2 23 (pcs a)) :: (.arr g5 23 (pcs b)) :: (.arr g9 87 ([.int .i64 0, .int .i64 0, .int .i64 0, .int .i64 0, .int .i64 0, .int .i64 0, .int .i64 0, .int .i64 0, .int .i64 0, .int .i64 0, .int .i64 0, .int .i64 0])) :: (bsel (b_ 4) (.arr (g_ 4) 71 (bsel (b_ 6) [.int .i64 a.x, .int .i64 a.y, .int .i64 a.z] [.int .i64 0, .int .i64 0, .int .i64 0])) .free) :: (bsel (b_ 5) (.arr (g_ 5) 71 (bsel (b_ 7) [.int .i64 b.x, .int .i64 b.y, .int .i64 b.z] [.int .i64 0, .int .i64 0, .int .i64 0])) .free) :: V0)) 3 (bsel (b_ 4) (Res.arr (g_ 4) 71 ([.int .i64 a.x, .int .i64 a.y, .int .i64 a.z])) Res.free)) (by kernel_rfl) (congrArg (fun x_ => List.set _ 3 x_) (bselT (h_b.pre 4 (by kernel_rfl)) _ _))) rfl) ?_
    refine aoNext rfl (aoStore (gb := fun g_ => (g_ 5)) (k := 0) (cur := fun g_ => [.int .i64 0, .int .i64 0, .int .i64 0]) (vs := fun g_ => pcs b) 4 (fun g_ => [(8, .pointer (some ⟨(g_ 5), 0, none⟩)), (19, .agg (pcs b).toArray)]) (fun g_ a_ h_k => ⟨(h_k.inn 5 _ _ (by kernel_rfl) rfl rfl).trans (by kernel_rfl), (h_k.inn 3 _ _ (by kernel_rfl) rfl rfl).trans (by kernel_rfl), trivial⟩) Ty.ag_3_int (fun b_ g_ h_b => by show some (bsel (b_ 5) (Res.arr (g_ 5) 71 (bsel (b_ 7) [.int .i64 b.x, .int .i64 b.y, .int .i64 b.z] [.int .i64 0, .int .i64 0, .int .i64 0])) Res.free) = some (Res.arr (g_ 5) 71 ([.int .i64 0, .int .i64 0, .int .i64 0])); rw [bselT (h_b.pre 5 (by kernel_rfl)), bselF h_b.no]) (fun g_ X_ => (wn rfl)) rfl (fun g_ X_ => litEv (by kernel_rfl)) (fun g_ X_ => litEv (by kernel_rfl)) (fun _ => by kernel_rfl) (fun _ => by kernel_rfl) (fun _ => by kernel_rfl) (fun b_ g_ h_b => Eq.trans (b := List.set (((.arr g2 23 (pcs a)) :: (.arr g5 23 (pcs b)) :: (.arr g9 87 ([.int .i64 0, .int .i64 0, .int .i64 0, .int .i64 0, .int .i64 0, .int .i64 0, .int .i64 0, .int .i64 0, .int .i64 0, .int .i64 0, .int .i64 0, .int .i64 0])) :: (bsel (b_ 4) (.arr (g_ 4) 71 (bsel (b_ 6) [.int .i64 a.x, .int .i64 a.y, .int .i64 a.z] [.int .i64 0, .int .i64 0, .int .i64 0])) .free) :: (bsel (b_ 5) (.arr (g_ 5) 71 (bsel (b_ 7) [.int .i64 b.x, .int .i64 b.y, .int .i64 b.z] [.int .i64 0, .int .i64 0, .int .i64 0])) .free) :: V0)) 4 (bsel (b_ 5) (Res.arr (g_ 5) 71 ([.int .i64 b.x, .int .i64 b.y, .int .i64 b.z])) Res.free)) (by kernel_rfl) (congrArg (fun x_ => List.set _ 4 x_) (bselT (h_b.pre 5 (by kernel_rfl)) _ _))) rfl) ?_
    exact aoDone (by decide)
  intro g_ a_ w14 hF_ hm13
  obtain ⟨X15, rfl⟩ := frLit (⟨hF_.size, hF_.defers, ⟨(hF_.out 2 (by kernel_rfl)).trans (litGet (by kernel_rfl)), (hF_.out 4 (by kernel_rfl)).trans (litGet (by kernel_rfl)), (hF_.out 6 (by kernel_rfl)).trans (litGet (by kernel_rfl)), (hF_.inn 4 _ _ rfl rfl).trans (by kernel_rfl), (hF_.inn 5 _ _ rfl rfl).trans (by kernel_rfl), (hF_.inn 0 _ _ rfl rfl).trans (by kernel_rfl), (hF_.inn 1 _ _ rfl rfl).trans (by kernel_rfl), (hF_.inn 2 _ _ rfl rfl).trans (by kernel_rfl), (hF_.inn 3 _ _ rfl rfl).trans (by kernel_rfl), trivial⟩⟩ : Fr _ 82 [(2, .func (.func vf) first.toArray caps.toArray), (4, .pointer (some ⟨g5, 0, none⟩)), (6, .pointer (some ⟨g9, 0, none⟩)), (7, .pointer (some ⟨(g_ 4), 0, none⟩)), (8, .pointer (some ⟨(g_ 5), 0, none⟩)), (16, .agg (pcs a).toArray), (17, .agg (pcs a).toArray), (18, .agg (pcs b).toArray), (19, .agg (pcs b).toArray)])
  clear hF_
  have hm16 : Mem w0 w14 ((.arr g2 23 (pcs a)) :: (.arr g5 23 (pcs b)) :: (.arr g9 87 ([.int .i64 0, .int .i64 0, .int .i64 0, .int .i64 0, .int .i64 0, .int .i64 0, .int .i64 0, .int .i64 0, .int .i64 0, .int .i64 0, .int .i64 0, .int .i64 0])) :: (.arr (g_ 4) 71 (pcs a)) :: (.arr (g_ 5) 71 (pcs b)) :: V0) := hm13
  clear hm13 hm10
  generalize g_ 4 = g17 at hm16 ⊢
  generalize g_ 5 = g18 at hm16 ⊢
  clear g_
  refine then_normal (hK12 _ _ ?_)
  refine wp_seq_k fun K19 hK19 => ?_
  refine wp_seq_k fun K20 hK20 => ?_
  refine plStart ?_
  refine lk (v := .int .i64 0) rfl rfl rfl ?_
  refine plD ?_
  refine then_normal (hK20 _ _ ?_)
  refine wp_block ?_
  refine roundsStart 4 ?_
  refine wp_seq_k fun K21 hK21 => ?_
  refine plStart ?_
  refine lk (v := .bool true) rfl rfl rfl ?_
  refine plD ?_
  refine then_normal (hK21 _ _ ?_)
  refine wp_seq_k fun K22 hK22 => ?_
  refine wp_cond_true (litEv (by kernel_rfl)) ?_
  refine wp_skip ?_
  refine then_normal (hK22 _ _ ?_)
  refine wp_seq_k fun K23 hK23 => ?_
  refine wp_block ?_
  refine wp_seq_k fun K24 hK24 => ?_
  refine plStart ?_
  refine lk (v := .int .i64 0) rfl rfl rfl ?_
  refine lk (v := .int .i64 0) rfl rfl rfl ?_
  refine plD ?_
  refine then_normal (hK24 _ _ ?_)
  refine aoStart (aoV [fun _ => .int .i64 0, fun _ => .int .i64 0, fun _ => .pointer (some ⟨g17, 0, none⟩), fun _ => .int .i64 a.x, fun _ => .int .i64 0, fun _ => .pointer (some ⟨g18, 0, none⟩), fun _ => .int .i64 b.x, fun _ => .agg (axs (toward a.x b.x)).toArray, fun _ => .pointer (some ⟨g9, 0, none⟩), fun _ => undef]) (aoA [0, 1, 2, 3, 4, 5, 6, 7, 8, 9]) (fun b_ g_ => ((.arr g2 23 (pcs a)) :: (.arr g5 23 (pcs b)) :: (.arr g9 87 (bsel (b_ 9) [.int .i64 ((toward a.x b.x).pos), .int .i64 ((toward a.x b.x).step), .int .i64 ((toward a.x b.x).n), .int .i64 ((toward a.x b.x).d), .int .i64 0, .int .i64 0, .int .i64 0, .int .i64 0, .int .i64 0, .int .i64 0, .int .i64 0, .int .i64 0] [.int .i64 0, .int .i64 0, .int .i64 0, .int .i64 0, .int .i64 0, .int .i64 0, .int .i64 0, .int .i64 0, .int .i64 0, .int .i64 0, .int .i64 0, .int .i64 0])) :: (.arr g17 71 (pcs a)) :: (.arr g18 71 (pcs b)) :: V0)) hm16 (by kernel_rfl) (by kernel_rfl) (fun w_ h_ => h_) (fun b_ g_ h_ => by show (fun (x9_ : Bool) => (((.arr g2 23 (pcs a)) :: (.arr g5 23 (pcs b)) :: (.arr g9 87 (bsel x9_ [.int .i64 ((toward a.x b.x).pos), .int .i64 ((toward a.x b.x).step), .int .i64 ((toward a.x b.x).n), .int .i64 ((toward a.x b.x).d), .int .i64 0, .int .i64 0, .int .i64 0, .int .i64 0, .int .i64 0, .int .i64 0, .int .i64 0, .int .i64 0] [.int .i64 0, .int .i64 0, .int .i64 0, .int .i64 0, .int .i64 0, .int .i64 0, .int .i64 0, .int .i64 0, .int .i64 0, .int .i64 0, .int .i64 0, .int .i64 0])) :: (.arr g17 71 (pcs a)) :: (.arr g18 71 (pcs b)) :: V0) : List Res)) (b_ 9) = _; rw [h_ 9 (by decide)]) ?_ ?_
  · refine aoNext rfl (aoVal (fun g_ => [(9, .int .i64 0)]) (fun g_ a_ h_k => ⟨(h_k.out 9 (by kernel_rfl)).trans (litGet (by kernel_rfl)), trivial⟩) (fun g_ X_ => (wn rfl)) (fun b_ g_ => by kernel_rfl) (fun b_ g_ X_ w_ h_b h_ => valTo (b := .int .i64 0) (by kernel_rfl) (litRun (by kernel_rfl)))) ?_
    refine aoNext rfl (aoVal (fun g_ => [(9, .int .i64 0)]) (fun g_ a_ h_k => ⟨(h_k.out 9 (by kernel_rfl)).trans (litGet (by kernel_rfl)), trivial⟩) (fun g_ X_ => (wn rfl)) (fun b_ g_ => by kernel_rfl) (fun b_ g_ X_ w_ h_b h_ => valTo (b := .int .i64 0) (by kernel_rfl) (litRun (by kernel_rfl)))) ?_
    refine aoNext rfl (aoVal (fun g_ => [(7, .pointer (some ⟨g17, 0, none⟩)), (24, .int .i64 0)]) (fun g_ a_ h_k => ⟨(h_k.out 7 (by kernel_rfl)).trans (litGet (by kernel_rfl)), (h_k.inn 1 _ _ (by kernel_rfl) rfl rfl).trans (by kernel_rfl), trivial⟩) (fun g_ X_ => (wn rfl)) (fun b_ g_ => by kernel_rfl) (fun b_ g_ X_ w_ h_b h_ => valTo (b := .pointer (some ⟨g17, 0, none⟩)) (by kernel_rfl) (iaRun (b := g17) (off := 0) (s := 1) (n := 3) (kk := .i64) (.tmp 7) (.tmp 24) 0 Ty.und_3_int (by kernel_rfl) rfl (litEv (by kernel_rfl)) (litEv (by kernel_rfl)) rfl (by decide)))) ?_
    refine aoNext rfl (aoVal (fun g_ => [(25, .pointer (some ⟨g17, 0, none⟩))]) (fun g_ a_ h_k => ⟨(h_k.inn 2 _ _ (by kernel_rfl) rfl rfl).trans (by kernel_rfl), trivial⟩) (fun g_ X_ => (wn rfl)) (fun b_ g_ => by kernel_rfl) (fun b_ g_ X_ w_ h_b h_ => valTo (b := .int .i64 a.x) (by kernel_rfl) ((fun (h_ : Mem _ w_ ((.arr g2 23 (pcs a)) :: (.arr g5 23 (pcs b)) :: (.arr g9 87 ([.int .i64 0, .int .i64 0, .int .i64 0, .int .i64 0, .int .i64 0, .int .i64 0, .int .i64 0, .int .i64 0, .int .i64 0, .int .i64 0, .int .i64 0, .int .i64 0])) :: (.arr g17 71 (pcs a)) :: (.arr g18 71 (pcs b)) :: V0)) => gLoad (v := .int .i64 a.x) (k := 0) 3 h_ rfl (by kernel_rfl) (.tmp 25) (by kernel_rfl) rfl (litEv (by kernel_rfl))) (by have h2_ : Mem w0 w_ ((.arr g2 23 (pcs a)) :: (.arr g5 23 (pcs b)) :: (.arr g9 87 (bsel (b_ 9) [.int .i64 ((toward a.x b.x).pos), .int .i64 ((toward a.x b.x).step), .int .i64 ((toward a.x b.x).n), .int .i64 ((toward a.x b.x).d), .int .i64 0, .int .i64 0, .int .i64 0, .int .i64 0, .int .i64 0, .int .i64 0, .int .i64 0, .int .i64 0] [.int .i64 0, .int .i64 0, .int .i64 0, .int .i64 0, .int .i64 0, .int .i64 0, .int .i64 0, .int .i64 0, .int .i64 0, .int .i64 0, .int .i64 0, .int .i64 0])) :: (.arr g17 71 (pcs a)) :: (.arr g18 71 (pcs b)) :: V0) := h_; rw [bselF (h_b.post 9 (by kernel_rfl))] at h2_; exact h2_)))) ?_
    refine aoNext rfl (aoVal (fun g_ => [(9, .int .i64 0)]) (fun g_ a_ h_k => ⟨(h_k.out 9 (by kernel_rfl)).trans (litGet (by kernel_rfl)), trivial⟩) (fun g_ X_ => (wn rfl)) (fun b_ g_ => by kernel_rfl) (fun b_ g_ X_ w_ h_b h_ => valTo (b := .int .i64 0) (by kernel_rfl) (litRun (by kernel_rfl)))) ?_
    refine aoNext rfl (aoVal (fun g_ => [(8, .pointer (some ⟨g18, 0, none⟩)), (27, .int .i64 0)]) (fun g_ a_ h_k => ⟨(h_k.out 8 (by kernel_rfl)).trans (litGet (by kernel_rfl)), (h_k.inn 4 _ _ (by kernel_rfl) rfl rfl).trans (by kernel_rfl), trivial⟩) (fun g_ X_ => (wn rfl)) (fun b_ g_ => by kernel_rfl) (fun b_ g_ X_ w_ h_b h_ => valTo (b := .pointer (some ⟨g18, 0, none⟩)) (by kernel_rfl) (iaRun (b := g18) (off := 0) (s := 1) (n := 3) (kk := .i64) (.tmp 8) (.tmp 27) 0 Ty.und_3_int (by kernel_rfl) rfl (litEv (by kernel_rfl)) (litEv (by kernel_rfl)) rfl (by decide)))) ?_
    refine aoNext rfl (aoVal (fun g_ => [(28, .pointer (some ⟨g18, 0, none⟩))]) (fun g_ a_ h_k => ⟨(h_k.inn 5 _ _ (by kernel_rfl) rfl rfl).trans (by kernel_rfl), trivial⟩) (fun g_ X_ => (wn rfl)) (fun b_ g_ => by kernel_rfl) (fun b_ g_ X_ w_ h_b h_ => valTo (b := .int .i64 b.x) (by kernel_rfl) ((fun (h_ : Mem _ w_ ((.arr g2 23 (pcs a)) :: (.arr g5 23 (pcs b)) :: (.arr g9 87 ([.int .i64 0, .int .i64 0, .int .i64 0, .int .i64 0, .int .i64 0, .int .i64 0, .int .i64 0, .int .i64 0, .int .i64 0, .int .i64 0, .int .i64 0, .int .i64 0])) :: (.arr g17 71 (pcs a)) :: (.arr g18 71 (pcs b)) :: V0)) => gLoad (v := .int .i64 b.x) (k := 0) 4 h_ rfl (by kernel_rfl) (.tmp 28) (by kernel_rfl) rfl (litEv (by kernel_rfl))) (by have h2_ : Mem w0 w_ ((.arr g2 23 (pcs a)) :: (.arr g5 23 (pcs b)) :: (.arr g9 87 (bsel (b_ 9) [.int .i64 ((toward a.x b.x).pos), .int .i64 ((toward a.x b.x).step), .int .i64 ((toward a.x b.x).n), .int .i64 ((toward a.x b.x).d), .int .i64 0, .int .i64 0, .int .i64 0, .int .i64 0, .int .i64 0, .int .i64 0, .int .i64 0, .int .i64 0] [.int .i64 0, .int .i64 0, .int .i64 0, .int .i64 0, .int .i64 0, .int .i64 0, .int .i64 0, .int .i64 0, .int .i64 0, .int .i64 0, .int .i64 0, .int .i64 0])) :: (.arr g17 71 (pcs a)) :: (.arr g18 71 (pcs b)) :: V0) := h_; rw [bselF (h_b.post 9 (by kernel_rfl))] at h2_; exact h2_)))) ?_
    refine aoNext rfl (aoCall (fun g_ => [(26, .int .i64 a.x), (29, .int .i64 b.x)]) (fun g_ a_ h_k => ⟨(h_k.inn 3 _ _ (by kernel_rfl) rfl rfl).trans (by kernel_rfl), (h_k.inn 6 _ _ (by kernel_rfl) rfl rfl).trans (by kernel_rfl), trivial⟩) 48 (fun g_ => [.int .i64 a.x, .int .i64 b.x]) [] [] (by kernel_rfl) (fun g_ X_ => (wn rfl)) (fun b_ g_ => by kernel_rfl) rfl (fun g_ X_ => litEv (by kernel_rfl)) (fun g_ X_ => litArgs (by kernel_rfl)) (fun b_ g_ w_ h_b h_ => (towards_any a.x b.x (by omega) (by omega) _).mono (fun _ _ h_r => ⟨h_r.1.trans (by kernel_rfl), h_r.2⟩))) ?_
    refine aoNext rfl (aoVal (fun g_ => [(6, .pointer (some ⟨g9, 0, none⟩)), (23, .int .i64 0)]) (fun g_ a_ h_k => ⟨(h_k.out 6 (by kernel_rfl)).trans (litGet (by kernel_rfl)), (h_k.inn 0 _ _ (by kernel_rfl) rfl rfl).trans (by kernel_rfl), trivial⟩) (fun g_ X_ => (wn rfl)) (fun b_ g_ => by kernel_rfl) (fun b_ g_ X_ w_ h_b h_ => valTo (b := .pointer (some ⟨g9, 0, none⟩)) (by kernel_rfl) (iaRun (b := g9) (off := 0) (s := 4) (n := 3) (kk := .i64) (.tmp 6) (.tmp 23) 0 Ty.und_3_ray_axis (by kernel_rfl) rfl (litEv (by kernel_rfl)) (litEv (by kernel_rfl)) rfl (by decide)))) ?_
    refine aoNext rfl (aoStore (gb := fun g_ => g9) (k := 0) (cur := fun g_ => [.int .i64 0, .int .i64 0, .int .i64 0, .int .i64 0, .int .i64 0, .int .i64 0, .int .i64 0, .int .i64 0, .int .i64 0, .int .i64 0, .int .i64 0, .int .i64 0]) (vs := fun g_ => axs (toward a.x b.x)) 2 (fun g_ => [(30, .agg (axs (toward a.x b.x)).toArray), (31, .pointer (some ⟨g9, 0, none⟩))]) (fun g_ a_ h_k => ⟨(h_k.inn 7 _ _ (by kernel_rfl) rfl rfl).trans (by kernel_rfl), (h_k.inn 8 _ _ (by kernel_rfl) rfl rfl).trans (by kernel_rfl), trivial⟩) Ty.ag_voxel_ray_axis (fun b_ g_ h_b => by show some (Res.arr g9 87 (bsel (b_ 9) [.int .i64 ((toward a.x b.x).pos), .int .i64 ((toward a.x b.x).step), .int .i64 ((toward a.x b.x).n), .int .i64 ((toward a.x b.x).d), .int .i64 0, .int .i64 0, .int .i64 0, .int .i64 0, .int .i64 0, .int .i64 0, .int .i64 0, .int .i64 0] [.int .i64 0, .int .i64 0, .int .i64 0, .int .i64 0, .int .i64 0, .int .i64 0, .int .i64 0, .int .i64 0, .int .i64 0, .int .i64 0, .int .i64 0, .int .i64 0])) = some (Res.arr g9 87 ([.int .i64 0, .int .i64 0, .int .i64 0, .int .i64 0, .int .i64 0, .int .i64 0, .int .i64 0, .int .i64 0, .int .i64 0, .int .i64 0, .int .i64 0, .int .i64 0])); rw [bselF h_b.no]) (fun g_ X_ => (wn rfl)) rfl (fun g_ X_ => litEv (by kernel_rfl)) (fun g_ X_ => litEv (by kernel_rfl)) (fun _ => by kernel_rfl) (fun _ => by kernel_rfl) (fun _ => by kernel_rfl) (fun b_ g_ h_b => by kernel_rfl) rfl) ?_
    exact aoDone (by decide)
  intro g_ a_ w26 hF_ hm25
  obtain ⟨X27, rfl⟩ := frLit (⟨hF_.size, hF_.defers, ⟨(hF_.out 2 (by kernel_rfl)).trans (litGet (by kernel_rfl)), (hF_.out 4 (by kernel_rfl)).trans (litGet (by kernel_rfl)), (hF_.out 6 (by kernel_rfl)).trans (litGet (by kernel_rfl)), (hF_.out 7 (by kernel_rfl)).trans (litGet (by kernel_rfl)), (hF_.out 8 (by kernel_rfl)).trans (litGet (by kernel_rfl)), (hF_.out 9 (by kernel_rfl)).trans (litGet (by kernel_rfl)), (hF_.out 20 (by kernel_rfl)).trans (litGet (by kernel_rfl)), (hF_.out 21 (by kernel_rfl)).trans (litGet (by kernel_rfl)), (hF_.out 22 (by kernel_rfl)).trans (litGet (by kernel_rfl)), (hF_.inn 0 _ _ rfl rfl).trans (by kernel_rfl), (hF_.inn 1 _ _ rfl rfl).trans (by kernel_rfl), (hF_.inn 2 _ _ rfl rfl).trans (by kernel_rfl), (hF_.inn 3 _ _ rfl rfl).trans (by kernel_rfl), (hF_.inn 4 _ _ rfl rfl).trans (by kernel_rfl), (hF_.inn 5 _ _ rfl rfl).trans (by kernel_rfl), (hF_.inn 6 _ _ rfl rfl).trans (by kernel_rfl), (hF_.inn 7 _ _ rfl rfl).trans (by kernel_rfl), (hF_.inn 8 _ _ rfl rfl).trans (by kernel_rfl), trivial⟩⟩ : Fr _ 82 [(2, .func (.func vf) first.toArray caps.toArray), (4, .pointer (some ⟨g5, 0, none⟩)), (6, .pointer (some ⟨g9, 0, none⟩)), (7, .pointer (some ⟨g17, 0, none⟩)), (8, .pointer (some ⟨g18, 0, none⟩)), (9, .int .i64 0), (20, .int .i64 0), (21, .bool true), (22, .int .i64 0), (23, .int .i64 0), (24, .int .i64 0), (25, .pointer (some ⟨g17, 0, none⟩)), (26, .int .i64 a.x), (27, .int .i64 0), (28, .pointer (some ⟨g18, 0, none⟩)), (29, .int .i64 b.x), (30, .agg (axs (toward a.x b.x)).toArray), (31, .pointer (some ⟨g9, 0, none⟩))])
  clear hF_
  have hm28 : Mem w0 w26 ((.arr g2 23 (pcs a)) :: (.arr g5 23 (pcs b)) :: (.arr g9 87 ([.int .i64 ((toward a.x b.x).pos), .int .i64 ((toward a.x b.x).step), .int .i64 ((toward a.x b.x).n), .int .i64 ((toward a.x b.x).d), .int .i64 0, .int .i64 0, .int .i64 0, .int .i64 0, .int .i64 0, .int .i64 0, .int .i64 0, .int .i64 0])) :: (.arr g17 71 (pcs a)) :: (.arr g18 71 (pcs b)) :: V0) := hm25
  clear hm25 hm16
  refine inBlock_normal ?_
  refine then_normal (hK23 _ _ ?_)
  refine plStart ?_
  refine lk (v := .int .i64 1) rfl rfl rfl ?_
  refine lk (v := .int .i64 1) rfl rfl rfl ?_
  refine plD ?_
  refine then_normal (roundsNext ?_)
  refine wp_seq_k fun K29 hK29 => ?_
  refine plStart ?_
  refine lk (v := .bool true) rfl rfl rfl ?_
  refine plD ?_
  refine then_normal (hK29 _ _ ?_)
  refine wp_seq_k fun K30 hK30 => ?_
  refine wp_cond_true (litEv (by kernel_rfl)) ?_
  refine wp_skip ?_
  refine then_normal (hK30 _ _ ?_)
  refine wp_seq_k fun K31 hK31 => ?_
  refine wp_block ?_
  refine wp_seq_k fun K32 hK32 => ?_
  refine plStart ?_
  refine lk (v := .int .i64 1) rfl rfl rfl ?_
  refine lk (v := .int .i64 1) rfl rfl rfl ?_
  refine plD ?_
  refine then_normal (hK32 _ _ ?_)
  refine aoStart (aoV [fun _ => .int .i64 1, fun _ => .int .i64 1, fun _ => .pointer (some ⟨g17, 1, none⟩), fun _ => .int .i64 a.y, fun _ => .int .i64 1, fun _ => .pointer (some ⟨g18, 1, none⟩), fun _ => .int .i64 b.y, fun _ => .agg (axs (toward a.y b.y)).toArray, fun _ => .pointer (some ⟨g9, 4, none⟩), fun _ => undef]) (aoA [0, 1, 2, 3, 4, 5, 6, 7, 8, 9]) (fun b_ g_ => ((.arr g2 23 (pcs a)) :: (.arr g5 23 (pcs b)) :: (.arr g9 87 (bsel (b_ 9) [.int .i64 ((toward a.x b.x).pos), .int .i64 ((toward a.x b.x).step), .int .i64 ((toward a.x b.x).n), .int .i64 ((toward a.x b.x).d), .int .i64 ((toward a.y b.y).pos), .int .i64 ((toward a.y b.y).step), .int .i64 ((toward a.y b.y).n), .int .i64 ((toward a.y b.y).d), .int .i64 0, .int .i64 0, .int .i64 0, .int .i64 0] [.int .i64 ((toward a.x b.x).pos), .int .i64 ((toward a.x b.x).step), .int .i64 ((toward a.x b.x).n), .int .i64 ((toward a.x b.x).d), .int .i64 0, .int .i64 0, .int .i64 0, .int .i64 0, .int .i64 0, .int .i64 0, .int .i64 0, .int .i64 0])) :: (.arr g17 71 (pcs a)) :: (.arr g18 71 (pcs b)) :: V0)) hm28 (by kernel_rfl) (by kernel_rfl) (fun w_ h_ => h_) (fun b_ g_ h_ => by show (fun (x9_ : Bool) => (((.arr g2 23 (pcs a)) :: (.arr g5 23 (pcs b)) :: (.arr g9 87 (bsel x9_ [.int .i64 ((toward a.x b.x).pos), .int .i64 ((toward a.x b.x).step), .int .i64 ((toward a.x b.x).n), .int .i64 ((toward a.x b.x).d), .int .i64 ((toward a.y b.y).pos), .int .i64 ((toward a.y b.y).step), .int .i64 ((toward a.y b.y).n), .int .i64 ((toward a.y b.y).d), .int .i64 0, .int .i64 0, .int .i64 0, .int .i64 0] [.int .i64 ((toward a.x b.x).pos), .int .i64 ((toward a.x b.x).step), .int .i64 ((toward a.x b.x).n), .int .i64 ((toward a.x b.x).d), .int .i64 0, .int .i64 0, .int .i64 0, .int .i64 0, .int .i64 0, .int .i64 0, .int .i64 0, .int .i64 0])) :: (.arr g17 71 (pcs a)) :: (.arr g18 71 (pcs b)) :: V0) : List Res)) (b_ 9) = _; rw [h_ 9 (by decide)]) ?_ ?_
  · refine aoNext rfl (aoVal (fun g_ => [(9, .int .i64 1)]) (fun g_ a_ h_k => ⟨(h_k.out 9 (by kernel_rfl)).trans (litGet (by kernel_rfl)), trivial⟩) (fun g_ X_ => (wn rfl)) (fun b_ g_ => by kernel_rfl) (fun b_ g_ X_ w_ h_b h_ => valTo (b := .int .i64 1) (by kernel_rfl) (litRun (by kernel_rfl)))) ?_
    refine aoNext rfl (aoVal (fun g_ => [(9, .int .i64 1)]) (fun g_ a_ h_k => ⟨(h_k.out 9 (by kernel_rfl)).trans (litGet (by kernel_rfl)), trivial⟩) (fun g_ X_ => (wn rfl)) (fun b_ g_ => by kernel_rfl) (fun b_ g_ X_ w_ h_b h_ => valTo (b := .int .i64 1) (by kernel_rfl) (litRun (by kernel_rfl)))) ?_
    refine aoNext rfl (aoVal (fun g_ => [(7, .pointer (some ⟨g17, 0, none⟩)), (24, .int .i64 1)]) (fun g_ a_ h_k => ⟨(h_k.out 7 (by kernel_rfl)).trans (litGet (by kernel_rfl)), (h_k.inn 1 _ _ (by kernel_rfl) rfl rfl).trans (by kernel_rfl), trivial⟩) (fun g_ X_ => (wn rfl)) (fun b_ g_ => by kernel_rfl) (fun b_ g_ X_ w_ h_b h_ => valTo (b := .pointer (some ⟨g17, 1, none⟩)) (by kernel_rfl) (iaRun (b := g17) (off := 0) (s := 1) (n := 3) (kk := .i64) (.tmp 7) (.tmp 24) 1 Ty.und_3_int (by kernel_rfl) rfl (litEv (by kernel_rfl)) (litEv (by kernel_rfl)) rfl (by decide)))) ?_
    refine aoNext rfl (aoVal (fun g_ => [(25, .pointer (some ⟨g17, 1, none⟩))]) (fun g_ a_ h_k => ⟨(h_k.inn 2 _ _ (by kernel_rfl) rfl rfl).trans (by kernel_rfl), trivial⟩) (fun g_ X_ => (wn rfl)) (fun b_ g_ => by kernel_rfl) (fun b_ g_ X_ w_ h_b h_ => valTo (b := .int .i64 a.y) (by kernel_rfl) ((fun (h_ : Mem _ w_ ((.arr g2 23 (pcs a)) :: (.arr g5 23 (pcs b)) :: (.arr g9 87 ([.int .i64 ((toward a.x b.x).pos), .int .i64 ((toward a.x b.x).step), .int .i64 ((toward a.x b.x).n), .int .i64 ((toward a.x b.x).d), .int .i64 0, .int .i64 0, .int .i64 0, .int .i64 0, .int .i64 0, .int .i64 0, .int .i64 0, .int .i64 0])) :: (.arr g17 71 (pcs a)) :: (.arr g18 71 (pcs b)) :: V0)) => gLoad (v := .int .i64 a.y) (k := 1) 3 h_ rfl (by kernel_rfl) (.tmp 25) (by kernel_rfl) rfl (litEv (by kernel_rfl))) (by have h2_ : Mem w0 w_ ((.arr g2 23 (pcs a)) :: (.arr g5 23 (pcs b)) :: (.arr g9 87 (bsel (b_ 9) [.int .i64 ((toward a.x b.x).pos), .int .i64 ((toward a.x b.x).step), .int .i64 ((toward a.x b.x).n), .int .i64 ((toward a.x b.x).d), .int .i64 ((toward a.y b.y).pos), .int .i64 ((toward a.y b.y).step), .int .i64 ((toward a.y b.y).n), .int .i64 ((toward a.y b.y).d), .int .i64 0, .int .i64 0, .int .i64 0, .int .i64 0] [.int .i64 ((toward a.x b.x).pos), .int .i64 ((toward a.x b.x).step), .int .i64 ((toward a.x b.x).n), .int .i64 ((toward a.x b.x).d), .int .i64 0, .int .i64 0, .int .i64 0, .int .i64 0, .int .i64 0, .int .i64 0, .int .i64 0, .int .i64 0])) :: (.arr g17 71 (pcs a)) :: (.arr g18 71 (pcs b)) :: V0) := h_; rw [bselF (h_b.post 9 (by kernel_rfl))] at h2_; exact h2_)))) ?_
    refine aoNext rfl (aoVal (fun g_ => [(9, .int .i64 1)]) (fun g_ a_ h_k => ⟨(h_k.out 9 (by kernel_rfl)).trans (litGet (by kernel_rfl)), trivial⟩) (fun g_ X_ => (wn rfl)) (fun b_ g_ => by kernel_rfl) (fun b_ g_ X_ w_ h_b h_ => valTo (b := .int .i64 1) (by kernel_rfl) (litRun (by kernel_rfl)))) ?_
    refine aoNext rfl (aoVal (fun g_ => [(8, .pointer (some ⟨g18, 0, none⟩)), (27, .int .i64 1)]) (fun g_ a_ h_k => ⟨(h_k.out 8 (by kernel_rfl)).trans (litGet (by kernel_rfl)), (h_k.inn 4 _ _ (by kernel_rfl) rfl rfl).trans (by kernel_rfl), trivial⟩) (fun g_ X_ => (wn rfl)) (fun b_ g_ => by kernel_rfl) (fun b_ g_ X_ w_ h_b h_ => valTo (b := .pointer (some ⟨g18, 1, none⟩)) (by kernel_rfl) (iaRun (b := g18) (off := 0) (s := 1) (n := 3) (kk := .i64) (.tmp 8) (.tmp 27) 1 Ty.und_3_int (by kernel_rfl) rfl (litEv (by kernel_rfl)) (litEv (by kernel_rfl)) rfl (by decide)))) ?_
    refine aoNext rfl (aoVal (fun g_ => [(28, .pointer (some ⟨g18, 1, none⟩))]) (fun g_ a_ h_k => ⟨(h_k.inn 5 _ _ (by kernel_rfl) rfl rfl).trans (by kernel_rfl), trivial⟩) (fun g_ X_ => (wn rfl)) (fun b_ g_ => by kernel_rfl) (fun b_ g_ X_ w_ h_b h_ => valTo (b := .int .i64 b.y) (by kernel_rfl) ((fun (h_ : Mem _ w_ ((.arr g2 23 (pcs a)) :: (.arr g5 23 (pcs b)) :: (.arr g9 87 ([.int .i64 ((toward a.x b.x).pos), .int .i64 ((toward a.x b.x).step), .int .i64 ((toward a.x b.x).n), .int .i64 ((toward a.x b.x).d), .int .i64 0, .int .i64 0, .int .i64 0, .int .i64 0, .int .i64 0, .int .i64 0, .int .i64 0, .int .i64 0])) :: (.arr g17 71 (pcs a)) :: (.arr g18 71 (pcs b)) :: V0)) => gLoad (v := .int .i64 b.y) (k := 1) 4 h_ rfl (by kernel_rfl) (.tmp 28) (by kernel_rfl) rfl (litEv (by kernel_rfl))) (by have h2_ : Mem w0 w_ ((.arr g2 23 (pcs a)) :: (.arr g5 23 (pcs b)) :: (.arr g9 87 (bsel (b_ 9) [.int .i64 ((toward a.x b.x).pos), .int .i64 ((toward a.x b.x).step), .int .i64 ((toward a.x b.x).n), .int .i64 ((toward a.x b.x).d), .int .i64 ((toward a.y b.y).pos), .int .i64 ((toward a.y b.y).step), .int .i64 ((toward a.y b.y).n), .int .i64 ((toward a.y b.y).d), .int .i64 0, .int .i64 0, .int .i64 0, .int .i64 0] [.int .i64 ((toward a.x b.x).pos), .int .i64 ((toward a.x b.x).step), .int .i64 ((toward a.x b.x).n), .int .i64 ((toward a.x b.x).d), .int .i64 0, .int .i64 0, .int .i64 0, .int .i64 0, .int .i64 0, .int .i64 0, .int .i64 0, .int .i64 0])) :: (.arr g17 71 (pcs a)) :: (.arr g18 71 (pcs b)) :: V0) := h_; rw [bselF (h_b.post 9 (by kernel_rfl))] at h2_; exact h2_)))) ?_
    refine aoNext rfl (aoCall (fun g_ => [(26, .int .i64 a.y), (29, .int .i64 b.y)]) (fun g_ a_ h_k => ⟨(h_k.inn 3 _ _ (by kernel_rfl) rfl rfl).trans (by kernel_rfl), (h_k.inn 6 _ _ (by kernel_rfl) rfl rfl).trans (by kernel_rfl), trivial⟩) 48 (fun g_ => [.int .i64 a.y, .int .i64 b.y]) [] [] (by kernel_rfl) (fun g_ X_ => (wn rfl)) (fun b_ g_ => by kernel_rfl) rfl (fun g_ X_ => litEv (by kernel_rfl)) (fun g_ X_ => litArgs (by kernel_rfl)) (fun b_ g_ w_ h_b h_ => (towards_any a.y b.y (by omega) (by omega) _).mono (fun _ _ h_r => ⟨h_r.1.trans (by kernel_rfl), h_r.2⟩))) ?_
    refine aoNext rfl (aoVal (fun g_ => [(6, .pointer (some ⟨g9, 0, none⟩)), (23, .int .i64 1)]) (fun g_ a_ h_k => ⟨(h_k.out 6 (by kernel_rfl)).trans (litGet (by kernel_rfl)), (h_k.inn 0 _ _ (by kernel_rfl) rfl rfl).trans (by kernel_rfl), trivial⟩) (fun g_ X_ => (wn rfl)) (fun b_ g_ => by kernel_rfl) (fun b_ g_ X_ w_ h_b h_ => valTo (b := .pointer (some ⟨g9, 4, none⟩)) (by kernel_rfl) (iaRun (b := g9) (off := 0) (s := 4) (n := 3) (kk := .i64) (.tmp 6) (.tmp 23) 1 Ty.und_3_ray_axis (by kernel_rfl) rfl (litEv (by kernel_rfl)) (litEv (by kernel_rfl)) rfl (by decide)))) ?_
    refine aoNext rfl (aoStore (gb := fun g_ => g9) (k := 4) (cur := fun g_ => [.int .i64 ((toward a.x b.x).pos), .int .i64 ((toward a.x b.x).step), .int .i64 ((toward a.x b.x).n), .int .i64 ((toward a.x b.x).d), .int .i64 0, .int .i64 0, .int .i64 0, .int .i64 0, .int .i64 0, .int .i64 0, .int .i64 0, .int .i64 0]) (vs := fun g_ => axs (toward a.y b.y)) 2 (fun g_ => [(30, .agg (axs (toward a.y b.y)).toArray), (31, .pointer (some ⟨g9, 4, none⟩))]) (fun g_ a_ h_k => ⟨(h_k.inn 7 _ _ (by kernel_rfl) rfl rfl).trans (by kernel_rfl), (h_k.inn 8 _ _ (by kernel_rfl) rfl rfl).trans (by kernel_rfl), trivial⟩) Ty.ag_voxel_ray_axis (fun b_ g_ h_b => by show some (Res.arr g9 87 (bsel (b_ 9) [.int .i64 ((toward a.x b.x).pos), .int .i64 ((toward a.x b.x).step), .int .i64 ((toward a.x b.x).n), .int .i64 ((toward a.x b.x).d), .int .i64 ((toward a.y b.y).pos), .int .i64 ((toward a.y b.y).step), .int .i64 ((toward a.y b.y).n), .int .i64 ((toward a.y b.y).d), .int .i64 0, .int .i64 0, .int .i64 0, .int .i64 0] [.int .i64 ((toward a.x b.x).pos), .int .i64 ((toward a.x b.x).step), .int .i64 ((toward a.x b.x).n), .int .i64 ((toward a.x b.x).d), .int .i64 0, .int .i64 0, .int .i64 0, .int .i64 0, .int .i64 0, .int .i64 0, .int .i64 0, .int .i64 0])) = some (Res.arr g9 87 ([.int .i64 ((toward a.x b.x).pos), .int .i64 ((toward a.x b.x).step), .int .i64 ((toward a.x b.x).n), .int .i64 ((toward a.x b.x).d), .int .i64 0, .int .i64 0, .int .i64 0, .int .i64 0, .int .i64 0, .int .i64 0, .int .i64 0, .int .i64 0])); rw [bselF h_b.no]) (fun g_ X_ => (wn rfl)) rfl (fun g_ X_ => litEv (by kernel_rfl)) (fun g_ X_ => litEv (by kernel_rfl)) (fun _ => by kernel_rfl) (fun _ => by kernel_rfl) (fun _ => by kernel_rfl) (fun b_ g_ h_b => by kernel_rfl) rfl) ?_
    exact aoDone (by decide)
  intro g_ a_ w34 hF_ hm33
  obtain ⟨X35, rfl⟩ := frLit (⟨hF_.size, hF_.defers, ⟨(hF_.out 2 (by kernel_rfl)).trans (litGet (by kernel_rfl)), (hF_.out 4 (by kernel_rfl)).trans (litGet (by kernel_rfl)), (hF_.out 6 (by kernel_rfl)).trans (litGet (by kernel_rfl)), (hF_.out 7 (by kernel_rfl)).trans (litGet (by kernel_rfl)), (hF_.out 8 (by kernel_rfl)).trans (litGet (by kernel_rfl)), (hF_.out 9 (by kernel_rfl)).trans (litGet (by kernel_rfl)), (hF_.out 20 (by kernel_rfl)).trans (litGet (by kernel_rfl)), (hF_.out 21 (by kernel_rfl)).trans (litGet (by kernel_rfl)), (hF_.out 22 (by kernel_rfl)).trans (litGet (by kernel_rfl)), (hF_.inn 0 _ _ rfl rfl).trans (by kernel_rfl), (hF_.inn 1 _ _ rfl rfl).trans (by kernel_rfl), (hF_.inn 2 _ _ rfl rfl).trans (by kernel_rfl), (hF_.inn 3 _ _ rfl rfl).trans (by kernel_rfl), (hF_.inn 4 _ _ rfl rfl).trans (by kernel_rfl), (hF_.inn 5 _ _ rfl rfl).trans (by kernel_rfl), (hF_.inn 6 _ _ rfl rfl).trans (by kernel_rfl), (hF_.inn 7 _ _ rfl rfl).trans (by kernel_rfl), (hF_.inn 8 _ _ rfl rfl).trans (by kernel_rfl), (hF_.out 32 (by kernel_rfl)).trans (litGet (by kernel_rfl)), trivial⟩⟩ : Fr _ 82 [(2, .func (.func vf) first.toArray caps.toArray), (4, .pointer (some ⟨g5, 0, none⟩)), (6, .pointer (some ⟨g9, 0, none⟩)), (7, .pointer (some ⟨g17, 0, none⟩)), (8, .pointer (some ⟨g18, 0, none⟩)), (9, .int .i64 1), (20, .int .i64 1), (21, .bool true), (22, .int .i64 1), (23, .int .i64 1), (24, .int .i64 1), (25, .pointer (some ⟨g17, 1, none⟩)), (26, .int .i64 a.y), (27, .int .i64 1), (28, .pointer (some ⟨g18, 1, none⟩)), (29, .int .i64 b.y), (30, .agg (axs (toward a.y b.y)).toArray), (31, .pointer (some ⟨g9, 4, none⟩)), (32, .int .i64 1)])
  clear hF_
  have hm36 : Mem w0 w34 ((.arr g2 23 (pcs a)) :: (.arr g5 23 (pcs b)) :: (.arr g9 87 ([.int .i64 ((toward a.x b.x).pos), .int .i64 ((toward a.x b.x).step), .int .i64 ((toward a.x b.x).n), .int .i64 ((toward a.x b.x).d), .int .i64 ((toward a.y b.y).pos), .int .i64 ((toward a.y b.y).step), .int .i64 ((toward a.y b.y).n), .int .i64 ((toward a.y b.y).d), .int .i64 0, .int .i64 0, .int .i64 0, .int .i64 0])) :: (.arr g17 71 (pcs a)) :: (.arr g18 71 (pcs b)) :: V0) := hm33
  clear hm33 hm28
  refine inBlock_normal ?_
  refine then_normal (hK31 _ _ ?_)
  refine plStart ?_
  refine lk (v := .int .i64 2) rfl rfl rfl ?_
  refine lk (v := .int .i64 2) rfl rfl rfl ?_
  refine plD ?_
  refine then_normal (roundsNext ?_)
  refine wp_seq_k fun K37 hK37 => ?_
  refine plStart ?_
  refine lk (v := .bool true) rfl rfl rfl ?_
  refine plD ?_
  refine then_normal (hK37 _ _ ?_)
  refine wp_seq_k fun K38 hK38 => ?_
  refine wp_cond_true (litEv (by kernel_rfl)) ?_
  refine wp_skip ?_
  refine then_normal (hK38 _ _ ?_)
  refine wp_seq_k fun K39 hK39 => ?_
  refine wp_block ?_
  refine wp_seq_k fun K40 hK40 => ?_
  refine plStart ?_
  refine lk (v := .int .i64 2) rfl rfl rfl ?_
  refine lk (v := .int .i64 2) rfl rfl rfl ?_
  refine plD ?_
  refine then_normal (hK40 _ _ ?_)
  refine aoStart (aoV [fun _ => .int .i64 2, fun _ => .int .i64 2, fun _ => .pointer (some ⟨g17, 2, none⟩), fun _ => .int .i64 a.z, fun _ => .int .i64 2, fun _ => .pointer (some ⟨g18, 2, none⟩), fun _ => .int .i64 b.z, fun _ => .agg (axs (toward a.z b.z)).toArray, fun _ => .pointer (some ⟨g9, 8, none⟩), fun _ => undef]) (aoA [0, 1, 2, 3, 4, 5, 6, 7, 8, 9]) (fun b_ g_ => ((.arr g2 23 (pcs a)) :: (.arr g5 23 (pcs b)) :: (.arr g9 87 (bsel (b_ 9) [.int .i64 ((toward a.x b.x).pos), .int .i64 ((toward a.x b.x).step), .int .i64 ((toward a.x b.x).n), .int .i64 ((toward a.x b.x).d), .int .i64 ((toward a.y b.y).pos), .int .i64 ((toward a.y b.y).step), .int .i64 ((toward a.y b.y).n), .int .i64 ((toward a.y b.y).d), .int .i64 ((toward a.z b.z).pos), .int .i64 ((toward a.z b.z).step), .int .i64 ((toward a.z b.z).n), .int .i64 ((toward a.z b.z).d)] [.int .i64 ((toward a.x b.x).pos), .int .i64 ((toward a.x b.x).step), .int .i64 ((toward a.x b.x).n), .int .i64 ((toward a.x b.x).d), .int .i64 ((toward a.y b.y).pos), .int .i64 ((toward a.y b.y).step), .int .i64 ((toward a.y b.y).n), .int .i64 ((toward a.y b.y).d), .int .i64 0, .int .i64 0, .int .i64 0, .int .i64 0])) :: (.arr g17 71 (pcs a)) :: (.arr g18 71 (pcs b)) :: V0)) hm36 (by kernel_rfl) (by kernel_rfl) (fun w_ h_ => h_) (fun b_ g_ h_ => by show (fun (x9_ : Bool) => (((.arr g2 23 (pcs a)) :: (.arr g5 23 (pcs b)) :: (.arr g9 87 (bsel x9_ [.int .i64 ((toward a.x b.x).pos), .int .i64 ((toward a.x b.x).step), .int .i64 ((toward a.x b.x).n), .int .i64 ((toward a.x b.x).d), .int .i64 ((toward a.y b.y).pos), .int .i64 ((toward a.y b.y).step), .int .i64 ((toward a.y b.y).n), .int .i64 ((toward a.y b.y).d), .int .i64 ((toward a.z b.z).pos), .int .i64 ((toward a.z b.z).step), .int .i64 ((toward a.z b.z).n), .int .i64 ((toward a.z b.z).d)] [.int .i64 ((toward a.x b.x).pos), .int .i64 ((toward a.x b.x).step), .int .i64 ((toward a.x b.x).n), .int .i64 ((toward a.x b.x).d), .int .i64 ((toward a.y b.y).pos), .int .i64 ((toward a.y b.y).step), .int .i64 ((toward a.y b.y).n), .int .i64 ((toward a.y b.y).d), .int .i64 0, .int .i64 0, .int .i64 0, .int .i64 0])) :: (.arr g17 71 (pcs a)) :: (.arr g18 71 (pcs b)) :: V0) : List Res)) (b_ 9) = _; rw [h_ 9 (by decide)]) ?_ ?_
  · refine aoNext rfl (aoVal (fun g_ => [(9, .int .i64 2)]) (fun g_ a_ h_k => ⟨(h_k.out 9 (by kernel_rfl)).trans (litGet (by kernel_rfl)), trivial⟩) (fun g_ X_ => (wn rfl)) (fun b_ g_ => by kernel_rfl) (fun b_ g_ X_ w_ h_b h_ => valTo (b := .int .i64 2) (by kernel_rfl) (litRun (by kernel_rfl)))) ?_
    refine aoNext rfl (aoVal (fun g_ => [(9, .int .i64 2)]) (fun g_ a_ h_k => ⟨(h_k.out 9 (by kernel_rfl)).trans (litGet (by kernel_rfl)), trivial⟩) (fun g_ X_ => (wn rfl)) (fun b_ g_ => by kernel_rfl) (fun b_ g_ X_ w_ h_b h_ => valTo (b := .int .i64 2) (by kernel_rfl) (litRun (by kernel_rfl)))) ?_
    refine aoNext rfl (aoVal (fun g_ => [(7, .pointer (some ⟨g17, 0, none⟩)), (24, .int .i64 2)]) (fun g_ a_ h_k => ⟨(h_k.out 7 (by kernel_rfl)).trans (litGet (by kernel_rfl)), (h_k.inn 1 _ _ (by kernel_rfl) rfl rfl).trans (by kernel_rfl), trivial⟩) (fun g_ X_ => (wn rfl)) (fun b_ g_ => by kernel_rfl) (fun b_ g_ X_ w_ h_b h_ => valTo (b := .pointer (some ⟨g17, 2, none⟩)) (by kernel_rfl) (iaRun (b := g17) (off := 0) (s := 1) (n := 3) (kk := .i64) (.tmp 7) (.tmp 24) 2 Ty.und_3_int (by kernel_rfl) rfl (litEv (by kernel_rfl)) (litEv (by kernel_rfl)) rfl (by decide)))) ?_
    refine aoNext rfl (aoVal (fun g_ => [(25, .pointer (some ⟨g17, 2, none⟩))]) (fun g_ a_ h_k => ⟨(h_k.inn 2 _ _ (by kernel_rfl) rfl rfl).trans (by kernel_rfl), trivial⟩) (fun g_ X_ => (wn rfl)) (fun b_ g_ => by kernel_rfl) (fun b_ g_ X_ w_ h_b h_ => valTo (b := .int .i64 a.z) (by kernel_rfl) ((fun (h_ : Mem _ w_ ((.arr g2 23 (pcs a)) :: (.arr g5 23 (pcs b)) :: (.arr g9 87 ([.int .i64 ((toward a.x b.x).pos), .int .i64 ((toward a.x b.x).step), .int .i64 ((toward a.x b.x).n), .int .i64 ((toward a.x b.x).d), .int .i64 ((toward a.y b.y).pos), .int .i64 ((toward a.y b.y).step), .int .i64 ((toward a.y b.y).n), .int .i64 ((toward a.y b.y).d), .int .i64 0, .int .i64 0, .int .i64 0, .int .i64 0])) :: (.arr g17 71 (pcs a)) :: (.arr g18 71 (pcs b)) :: V0)) => gLoad (v := .int .i64 a.z) (k := 2) 3 h_ rfl (by kernel_rfl) (.tmp 25) (by kernel_rfl) rfl (litEv (by kernel_rfl))) (by have h2_ : Mem w0 w_ ((.arr g2 23 (pcs a)) :: (.arr g5 23 (pcs b)) :: (.arr g9 87 (bsel (b_ 9) [.int .i64 ((toward a.x b.x).pos), .int .i64 ((toward a.x b.x).step), .int .i64 ((toward a.x b.x).n), .int .i64 ((toward a.x b.x).d), .int .i64 ((toward a.y b.y).pos), .int .i64 ((toward a.y b.y).step), .int .i64 ((toward a.y b.y).n), .int .i64 ((toward a.y b.y).d), .int .i64 ((toward a.z b.z).pos), .int .i64 ((toward a.z b.z).step), .int .i64 ((toward a.z b.z).n), .int .i64 ((toward a.z b.z).d)] [.int .i64 ((toward a.x b.x).pos), .int .i64 ((toward a.x b.x).step), .int .i64 ((toward a.x b.x).n), .int .i64 ((toward a.x b.x).d), .int .i64 ((toward a.y b.y).pos), .int .i64 ((toward a.y b.y).step), .int .i64 ((toward a.y b.y).n), .int .i64 ((toward a.y b.y).d), .int .i64 0, .int .i64 0, .int .i64 0, .int .i64 0])) :: (.arr g17 71 (pcs a)) :: (.arr g18 71 (pcs b)) :: V0) := h_; rw [bselF (h_b.post 9 (by kernel_rfl))] at h2_; exact h2_)))) ?_
    refine aoNext rfl (aoVal (fun g_ => [(9, .int .i64 2)]) (fun g_ a_ h_k => ⟨(h_k.out 9 (by kernel_rfl)).trans (litGet (by kernel_rfl)), trivial⟩) (fun g_ X_ => (wn rfl)) (fun b_ g_ => by kernel_rfl) (fun b_ g_ X_ w_ h_b h_ => valTo (b := .int .i64 2) (by kernel_rfl) (litRun (by kernel_rfl)))) ?_
    refine aoNext rfl (aoVal (fun g_ => [(8, .pointer (some ⟨g18, 0, none⟩)), (27, .int .i64 2)]) (fun g_ a_ h_k => ⟨(h_k.out 8 (by kernel_rfl)).trans (litGet (by kernel_rfl)), (h_k.inn 4 _ _ (by kernel_rfl) rfl rfl).trans (by kernel_rfl), trivial⟩) (fun g_ X_ => (wn rfl)) (fun b_ g_ => by kernel_rfl) (fun b_ g_ X_ w_ h_b h_ => valTo (b := .pointer (some ⟨g18, 2, none⟩)) (by kernel_rfl) (iaRun (b := g18) (off := 0) (s := 1) (n := 3) (kk := .i64) (.tmp 8) (.tmp 27) 2 Ty.und_3_int (by kernel_rfl) rfl (litEv (by kernel_rfl)) (litEv (by kernel_rfl)) rfl (by decide)))) ?_
    refine aoNext rfl (aoVal (fun g_ => [(28, .pointer (some ⟨g18, 2, none⟩))]) (fun g_ a_ h_k => ⟨(h_k.inn 5 _ _ (by kernel_rfl) rfl rfl).trans (by kernel_rfl), trivial⟩) (fun g_ X_ => (wn rfl)) (fun b_ g_ => by kernel_rfl) (fun b_ g_ X_ w_ h_b h_ => valTo (b := .int .i64 b.z) (by kernel_rfl) ((fun (h_ : Mem _ w_ ((.arr g2 23 (pcs a)) :: (.arr g5 23 (pcs b)) :: (.arr g9 87 ([.int .i64 ((toward a.x b.x).pos), .int .i64 ((toward a.x b.x).step), .int .i64 ((toward a.x b.x).n), .int .i64 ((toward a.x b.x).d), .int .i64 ((toward a.y b.y).pos), .int .i64 ((toward a.y b.y).step), .int .i64 ((toward a.y b.y).n), .int .i64 ((toward a.y b.y).d), .int .i64 0, .int .i64 0, .int .i64 0, .int .i64 0])) :: (.arr g17 71 (pcs a)) :: (.arr g18 71 (pcs b)) :: V0)) => gLoad (v := .int .i64 b.z) (k := 2) 4 h_ rfl (by kernel_rfl) (.tmp 28) (by kernel_rfl) rfl (litEv (by kernel_rfl))) (by have h2_ : Mem w0 w_ ((.arr g2 23 (pcs a)) :: (.arr g5 23 (pcs b)) :: (.arr g9 87 (bsel (b_ 9) [.int .i64 ((toward a.x b.x).pos), .int .i64 ((toward a.x b.x).step), .int .i64 ((toward a.x b.x).n), .int .i64 ((toward a.x b.x).d), .int .i64 ((toward a.y b.y).pos), .int .i64 ((toward a.y b.y).step), .int .i64 ((toward a.y b.y).n), .int .i64 ((toward a.y b.y).d), .int .i64 ((toward a.z b.z).pos), .int .i64 ((toward a.z b.z).step), .int .i64 ((toward a.z b.z).n), .int .i64 ((toward a.z b.z).d)] [.int .i64 ((toward a.x b.x).pos), .int .i64 ((toward a.x b.x).step), .int .i64 ((toward a.x b.x).n), .int .i64 ((toward a.x b.x).d), .int .i64 ((toward a.y b.y).pos), .int .i64 ((toward a.y b.y).step), .int .i64 ((toward a.y b.y).n), .int .i64 ((toward a.y b.y).d), .int .i64 0, .int .i64 0, .int .i64 0, .int .i64 0])) :: (.arr g17 71 (pcs a)) :: (.arr g18 71 (pcs b)) :: V0) := h_; rw [bselF (h_b.post 9 (by kernel_rfl))] at h2_; exact h2_)))) ?_
    refine aoNext rfl (aoCall (fun g_ => [(26, .int .i64 a.z), (29, .int .i64 b.z)]) (fun g_ a_ h_k => ⟨(h_k.inn 3 _ _ (by kernel_rfl) rfl rfl).trans (by kernel_rfl), (h_k.inn 6 _ _ (by kernel_rfl) rfl rfl).trans (by kernel_rfl), trivial⟩) 48 (fun g_ => [.int .i64 a.z, .int .i64 b.z]) [] [] (by kernel_rfl) (fun g_ X_ => (wn rfl)) (fun b_ g_ => by kernel_rfl) rfl (fun g_ X_ => litEv (by kernel_rfl)) (fun g_ X_ => litArgs (by kernel_rfl)) (fun b_ g_ w_ h_b h_ => (towards_any a.z b.z (by omega) (by omega) _).mono (fun _ _ h_r => ⟨h_r.1.trans (by kernel_rfl), h_r.2⟩))) ?_
    refine aoNext rfl (aoVal (fun g_ => [(6, .pointer (some ⟨g9, 0, none⟩)), (23, .int .i64 2)]) (fun g_ a_ h_k => ⟨(h_k.out 6 (by kernel_rfl)).trans (litGet (by kernel_rfl)), (h_k.inn 0 _ _ (by kernel_rfl) rfl rfl).trans (by kernel_rfl), trivial⟩) (fun g_ X_ => (wn rfl)) (fun b_ g_ => by kernel_rfl) (fun b_ g_ X_ w_ h_b h_ => valTo (b := .pointer (some ⟨g9, 8, none⟩)) (by kernel_rfl) (iaRun (b := g9) (off := 0) (s := 4) (n := 3) (kk := .i64) (.tmp 6) (.tmp 23) 2 Ty.und_3_ray_axis (by kernel_rfl) rfl (litEv (by kernel_rfl)) (litEv (by kernel_rfl)) rfl (by decide)))) ?_
    refine aoNext rfl (aoStore (gb := fun g_ => g9) (k := 8) (cur := fun g_ => [.int .i64 ((toward a.x b.x).pos), .int .i64 ((toward a.x b.x).step), .int .i64 ((toward a.x b.x).n), .int .i64 ((toward a.x b.x).d), .int .i64 ((toward a.y b.y).pos), .int .i64 ((toward a.y b.y).step), .int .i64 ((toward a.y b.y).n), .int .i64 ((toward a.y b.y).d), .int .i64 0, .int .i64 0, .int .i64 0, .int .i64 0]) (vs := fun g_ => axs (toward a.z b.z)) 2 (fun g_ => [(30, .agg (axs (toward a.z b.z)).toArray), (31, .pointer (some ⟨g9, 8, none⟩))]) (fun g_ a_ h_k => ⟨(h_k.inn 7 _ _ (by kernel_rfl) rfl rfl).trans (by kernel_rfl), (h_k.inn 8 _ _ (by kernel_rfl) rfl rfl).trans (by kernel_rfl), trivial⟩) Ty.ag_voxel_ray_axis (fun b_ g_ h_b => by show some (Res.arr g9 87 (bsel (b_ 9) [.int .i64 ((toward a.x b.x).pos), .int .i64 ((toward a.x b.x).step), .int .i64 ((toward a.x b.x).n), .int .i64 ((toward a.x b.x).d), .int .i64 ((toward a.y b.y).pos), .int .i64 ((toward a.y b.y).step), .int .i64 ((toward a.y b.y).n), .int .i64 ((toward a.y b.y).d), .int .i64 ((toward a.z b.z).pos), .int .i64 ((toward a.z b.z).step), .int .i64 ((toward a.z b.z).n), .int .i64 ((toward a.z b.z).d)] [.int .i64 ((toward a.x b.x).pos), .int .i64 ((toward a.x b.x).step), .int .i64 ((toward a.x b.x).n), .int .i64 ((toward a.x b.x).d), .int .i64 ((toward a.y b.y).pos), .int .i64 ((toward a.y b.y).step), .int .i64 ((toward a.y b.y).n), .int .i64 ((toward a.y b.y).d), .int .i64 0, .int .i64 0, .int .i64 0, .int .i64 0])) = some (Res.arr g9 87 ([.int .i64 ((toward a.x b.x).pos), .int .i64 ((toward a.x b.x).step), .int .i64 ((toward a.x b.x).n), .int .i64 ((toward a.x b.x).d), .int .i64 ((toward a.y b.y).pos), .int .i64 ((toward a.y b.y).step), .int .i64 ((toward a.y b.y).n), .int .i64 ((toward a.y b.y).d), .int .i64 0, .int .i64 0, .int .i64 0, .int .i64 0])); rw [bselF h_b.no]) (fun g_ X_ => (wn rfl)) rfl (fun g_ X_ => litEv (by kernel_rfl)) (fun g_ X_ => litEv (by kernel_rfl)) (fun _ => by kernel_rfl) (fun _ => by kernel_rfl) (fun _ => by kernel_rfl) (fun b_ g_ h_b => by kernel_rfl) rfl) ?_
    exact aoDone (by decide)
  intro g_ a_ w42 hF_ hm41
  obtain ⟨X43, rfl⟩ := frLit (⟨hF_.size, hF_.defers, ⟨(hF_.out 2 (by kernel_rfl)).trans (litGet (by kernel_rfl)), (hF_.out 4 (by kernel_rfl)).trans (litGet (by kernel_rfl)), (hF_.out 6 (by kernel_rfl)).trans (litGet (by kernel_rfl)), (hF_.out 7 (by kernel_rfl)).trans (litGet (by kernel_rfl)), (hF_.out 8 (by kernel_rfl)).trans (litGet (by kernel_rfl)), (hF_.out 9 (by kernel_rfl)).trans (litGet (by kernel_rfl)), (hF_.out 20 (by kernel_rfl)).trans (litGet (by kernel_rfl)), (hF_.out 21 (by kernel_rfl)).trans (litGet (by kernel_rfl)), (hF_.out 22 (by kernel_rfl)).trans (litGet (by kernel_rfl)), (hF_.inn 0 _ _ rfl rfl).trans (by kernel_rfl), (hF_.inn 1 _ _ rfl rfl).trans (by kernel_rfl), (hF_.inn 2 _ _ rfl rfl).trans (by kernel_rfl), (hF_.inn 3 _ _ rfl rfl).trans (by kernel_rfl), (hF_.inn 4 _ _ rfl rfl).trans (by kernel_rfl), (hF_.inn 5 _ _ rfl rfl).trans (by kernel_rfl), (hF_.inn 6 _ _ rfl rfl).trans (by kernel_rfl), (hF_.inn 7 _ _ rfl rfl).trans (by kernel_rfl), (hF_.inn 8 _ _ rfl rfl).trans (by kernel_rfl), (hF_.out 32 (by kernel_rfl)).trans (litGet (by kernel_rfl)), trivial⟩⟩ : Fr _ 82 [(2, .func (.func vf) first.toArray caps.toArray), (4, .pointer (some ⟨g5, 0, none⟩)), (6, .pointer (some ⟨g9, 0, none⟩)), (7, .pointer (some ⟨g17, 0, none⟩)), (8, .pointer (some ⟨g18, 0, none⟩)), (9, .int .i64 2), (20, .int .i64 2), (21, .bool true), (22, .int .i64 2), (23, .int .i64 2), (24, .int .i64 2), (25, .pointer (some ⟨g17, 2, none⟩)), (26, .int .i64 a.z), (27, .int .i64 2), (28, .pointer (some ⟨g18, 2, none⟩)), (29, .int .i64 b.z), (30, .agg (axs (toward a.z b.z)).toArray), (31, .pointer (some ⟨g9, 8, none⟩)), (32, .int .i64 2)])
  clear hF_
  have hm44 : Mem w0 w42 ((.arr g2 23 (pcs a)) :: (.arr g5 23 (pcs b)) :: (.arr g9 87 ([.int .i64 ((toward a.x b.x).pos), .int .i64 ((toward a.x b.x).step), .int .i64 ((toward a.x b.x).n), .int .i64 ((toward a.x b.x).d), .int .i64 ((toward a.y b.y).pos), .int .i64 ((toward a.y b.y).step), .int .i64 ((toward a.y b.y).n), .int .i64 ((toward a.y b.y).d), .int .i64 ((toward a.z b.z).pos), .int .i64 ((toward a.z b.z).step), .int .i64 ((toward a.z b.z).n), .int .i64 ((toward a.z b.z).d)])) :: (.arr g17 71 (pcs a)) :: (.arr g18 71 (pcs b)) :: V0) := hm41
  clear hm41 hm36
  refine inBlock_normal ?_
  refine then_normal (hK39 _ _ ?_)
  refine plStart ?_
  refine lk (v := .int .i64 3) rfl rfl rfl ?_
  refine lk (v := .int .i64 3) rfl rfl rfl ?_
  refine plD ?_
  refine then_normal (roundsNext ?_)
  refine wp_seq_k fun K45 hK45 => ?_
  refine plStart ?_
  refine lk (v := .bool false) rfl rfl rfl ?_
  refine plD ?_
  refine then_normal (hK45 _ _ ?_)
  refine wp_seq_k fun K46 hK46 => ?_
  refine wp_cond_false (litEv (by kernel_rfl)) ?_
  refine wp_exit ?_
  refine then_exit ?_
  refine then_exit ?_
  refine inBlock_exit ?_
  refine then_normal (hK19 _ _ ?_)
  refine wpPrune [(2, .func (.func vf) first.toArray caps.toArray), (4, .pointer (some ⟨g5, 0, none⟩)), (6, .pointer (some ⟨g9, 0, none⟩))] ⟨litGet (by kernel_rfl), ⟨litGet (by kernel_rfl), ⟨litGet (by kernel_rfl), trivial⟩⟩⟩ (fun X47 => ?_)
  refine wp_block ?_
  have hm0_ : Mem w0 w42 ((.arr g5 23 (pcs b)) :: (.arr g9 87 ([.int .i64 ((toward a.x b.x).pos), .int .i64 ((toward a.x b.x).step), .int .i64 ((toward a.x b.x).n), .int .i64 ((toward a.x b.x).d), .int .i64 ((toward a.y b.y).pos), .int .i64 ((toward a.y b.y).step), .int .i64 ((toward a.y b.y).n), .int .i64 ((toward a.y b.y).d), .int .i64 ((toward a.z b.z).pos), .int .i64 ((toward a.z b.z).step), .int .i64 ((toward a.z b.z).n), .int .i64 ((toward a.z b.z).d)])) :: V0) := hm44.sub (by simp [List.sublist_cons_iff])
  refine gwLoop (fun n_ a_ w_ => ∃ (i : Nat) (s : Ax3) (V : List Res), n_ = (s.left b).toNat ∧ (s.Ok a b) ∧ ((walk a b).drop i = walkS s b) ∧ (Vp i V) ∧ Fr a_ 82 [(2, .func (.func vf) first.toArray caps.toArray), (4, .pointer (some ⟨g5, 0, none⟩)), (6, .pointer (some ⟨g9, 0, none⟩))] ∧ Mem w0 w_ ((.arr g5 23 (pcs b)) :: (.arr g9 87 (a3 s)) :: V)) (((ax0 a b).left b).toNat) ⟨0, (ax0 a b), V0, rfl, ax0_ok a b, rfl, h0, ⟨litSize, rfl, ⟨litGet (by kernel_rfl), ⟨litGet (by kernel_rfl), ⟨litGet (by kernel_rfl), trivial⟩⟩⟩⟩, hm0_⟩ ?_
  clear hm44
  intro n_ a50 w48 hI_
  obtain ⟨i, s, V, rfl, hs, hi, hV, hF_, hm49⟩ := hI_
  obtain ⟨X51, rfl⟩ := frLit hF_
  clear hF_
  have bx := hs.1.bd (by omega) (by omega)
  have by_ := hs.2.1.bd (by omega) (by omega)
  have bz := hs.2.2.bd (by omega) (by omega)
  rw [walkS_eq hs] at hi
  obtain ⟨F2, hF2⟩ : ∃ F, sooner s.x.next s.y = F := ⟨_, rfl⟩
  obtain ⟨F3, hF3⟩ : ∃ F, sooner F2 s.z = F := ⟨_, rfl⟩
  have sF2 : Tm30 F2 := hF2 ▸ sooner_bd bx.1 by_.1
  have sF3 : Tm30 F3 := hF3 ▸ sooner_bd sF2 bz.1
  have hF : s.first = F3 := by unfold Ax3.first; rw [hF2, hF3]
  obtain ⟨X1, hX1⟩ : ∃ x, s.x.over F3 = x := ⟨_, rfl⟩
  obtain ⟨X2, hX2⟩ : ∃ x, s.y.over F3 = x := ⟨_, rfl⟩
  obtain ⟨X3, hX3⟩ : ∃ x, s.z.over F3 = x := ⟨_, rfl⟩
  have hgo : s.go = ⟨X1, X2, X3⟩ := by unfold Ax3.go; rw [hF, hX1, hX2, hX3]
  refine wp_block ?_
  refine wp_seq_k fun K52 hK52 => ?_
  refine plStart ?_
  refine litVal (v := .pointer (some ⟨g9, 0, none⟩)) rfl (wn rfl) (iaRun (b := g9) (off := 0) (s := 4) (n := 3) (kk := .i64) (.tmp 6) (.const (.int .i64 0)) 0 Ty.und_3_ray_axis (by kernel_rfl) rfl (litEv (by kernel_rfl)) (litEv (by kernel_rfl)) rfl (by decide)) rfl (by decide) ?_
  refine lk (v := .pointer (some ⟨g9, 0, none⟩)) rfl rfl rfl ?_
  refine litVal (v := .int .i64 s.x.pos) rfl (wn rfl) (gLoad (v := .int .i64 s.x.pos) (k := 0) 1 hm49 rfl (by kernel_rfl) (.tmp 34) (by kernel_rfl) rfl (litEv (by kernel_rfl))) rfl (by decide) ?_
  refine litVal (v := .pointer (some ⟨g9, 4, none⟩)) rfl (wn rfl) (iaRun (b := g9) (off := 0) (s := 4) (n := 3) (kk := .i64) (.tmp 6) (.const (.int .i64 1)) 1 Ty.und_3_ray_axis (by kernel_rfl) rfl (litEv (by kernel_rfl)) (litEv (by kernel_rfl)) rfl (by decide)) rfl (by decide) ?_
  refine lk (v := .pointer (some ⟨g9, 4, none⟩)) rfl rfl rfl ?_
  refine litVal (v := .int .i64 s.y.pos) rfl (wn rfl) (gLoad (v := .int .i64 s.y.pos) (k := 4) 1 hm49 rfl (by kernel_rfl) (.tmp 37) (by kernel_rfl) rfl (litEv (by kernel_rfl))) rfl (by decide) ?_
  refine litVal (v := .pointer (some ⟨g9, 8, none⟩)) rfl (wn rfl) (iaRun (b := g9) (off := 0) (s := 4) (n := 3) (kk := .i64) (.tmp 6) (.const (.int .i64 2)) 2 Ty.und_3_ray_axis (by kernel_rfl) rfl (litEv (by kernel_rfl)) (litEv (by kernel_rfl)) rfl (by decide)) rfl (by decide) ?_
  refine lk (v := .pointer (some ⟨g9, 8, none⟩)) rfl rfl rfl ?_
  refine litVal (v := .int .i64 s.z.pos) rfl (wn rfl) (gLoad (v := .int .i64 s.z.pos) (k := 8) 1 hm49 rfl (by kernel_rfl) (.tmp 40) (by kernel_rfl) rfl (litEv (by kernel_rfl))) rfl (by decide) ?_
  refine lk (v := .agg (pcs s.cell).toArray) rfl rfl rfl ?_
  refine plAlloc (z := [.int .i64 0, .int .i64 0, .int .i64 0]) Ty.ag_voxel_api_Point hm49 (i := 10) rfl (wn rfl) rfl ?_
  intro g53 w55 hm54
  clear hm49
  try simp only [List.cons_append, List.nil_append, List.set_cons_succ, List.set_cons_zero] at hm54
  replace hm54 := Mem.insAt (M := ((.arr g5 23 (pcs b)) :: (.arr g9 87 (a3 s)) :: V)) 2 hm54
  simp only [List.insertIdx_succ_cons, List.insertIdx_zero] at hm54
  refine qP rfl ?_
  refine plStore 2 Ty.ag_voxel_api_Point hm54 rfl (i := 11) (cs := pcs s.cell) rfl (wn rfl) rfl (litEv (by kernel_rfl)) (litEv (by kernel_rfl)) rfl rfl (by kernel_rfl) ?_
  intro w57 hm56
  clear hm54
  try simp only [List.cons_append, List.nil_append, List.set_cons_succ, List.set_cons_zero] at hm56
  refine qNone rfl ?_
  refine plD ?_
  refine then_normal (hK52 _ _ ?_)
  refine wp_seq_k fun K58 hK58 => ?_
  refine wp_seq_k fun K59 hK59 => ?_
  refine plStart ?_
  refine lk (v := .func (.func vf) first.toArray caps.toArray) rfl rfl rfl ?_
  refine litVal (v := .agg (pcs s.cell).toArray) rfl (wn rfl) (gLoadAg (vs := pcs s.cell) (k := 0) 2 hm56 rfl (by kernel_rfl) (by kernel_rfl) (.tmp 10) Ty.ag_voxel_api_Point rfl (litEv (by kernel_rfl))) rfl (by decide) ?_
  refine plCall (i := 2) vf [.agg (pcs s.cell).toArray] first caps rfl hvf (wn rfl) rfl (litEv (by kernel_rfl)) (litArgs (by kernel_rfl)) (hvis i s.cell _ V [.arr g5 23 (pcs b), .arr g9 87 (a3 s), .arr g53 23 (pcs s.cell)] (drop_get hi).1 hV (Mem.swap (A := [.arr g5 23 (pcs b), .arr g9 87 (a3 s), .arr g53 23 (pcs s.cell)]) (B := V) hm56)) ?_
  rintro e w64 ⟨t61, V60, rfl, hm65, hc62, hd63⟩
  replace hm65 : Mem w0 w64 ((.arr g5 23 (pcs b)) :: (.arr g9 87 (a3 s)) :: (.arr g53 23 (pcs s.cell)) :: V60) := Mem.swap (A := V60) (B := [.arr g5 23 (pcs b), .arr g9 87 (a3 s), .arr g53 23 (pcs s.cell)]) hm65
  clear hm56
  refine ⟨_, rfl, ?_⟩
  refine qP rfl ?_
  rcases bool_or (t61) with h66 | h66
  · rw [h66]
    refine lk (v := .bool true) rfl rfl rfl ?_
    refine lk (v := .bool true) rfl rfl rfl ?_
    refine plSkip (i := 5) rfl (wgN rfl rfl rfl (by decide) (by kernel_rfl)) ?_
    refine qP rfl ?_
    refine plSkip (i := 6) rfl (wgN rfl rfl rfl (by decide) (by kernel_rfl)) ?_
    refine qP rfl ?_
    refine plSkip (i := 7) rfl (wgN rfl rfl rfl (by decide) (by kernel_rfl)) ?_
    refine qP rfl ?_
    refine lk (v := .bool true) rfl rfl rfl ?_
    refine plD ?_
    refine then_normal (hK59 _ _ ?_)
    refine wp_cond_true (litEv (by kernel_rfl)) ?_
    refine wp_ret ?_
    refine then_ret ?_
    refine inBlock_ret ?_
    refine then_ret ?_
    refine inBlock_ret ?_
    refine bodyPost_ret (v := .tuple #[]) (gRes0 rfl ) rfl ?_
    exact ⟨rfl, V60, hm65.keep 0 3, hd63 h66⟩
  rw [h66]
  refine lk (v := .bool false) rfl rfl rfl ?_
  refine lk (v := .bool false) rfl rfl rfl ?_
  refine litVal (v := .agg (pcs s.cell).toArray) rfl (wgY rfl rfl rfl (by decide) (by kernel_rfl)) (gLoadAg (vs := pcs s.cell) (k := 0) 2 hm65 rfl (by kernel_rfl) (by kernel_rfl) (.tmp 10) Ty.ag_voxel_api_Point rfl (litEv (by kernel_rfl))) rfl (by decide) ?_
  refine litVal (v := .agg (pcs b).toArray) rfl (wgY rfl rfl rfl (by decide) (by kernel_rfl)) (gLoadAg (vs := pcs b) (k := 0) 0 hm65 rfl (by kernel_rfl) (by kernel_rfl) (.tmp 4) Ty.ag_voxel_api_Point rfl (litEv (by kernel_rfl))) rfl (by decide) ?_
  by_cases h67 : s.cell = b
  · refine litVal (v := .bool true) rfl (wgY rfl rfl rfl (by decide) (by kernel_rfl)) (boolTo (decide_eq_true h67) (eqPtRun (.tmp 48) (.tmp 49) s.cell b (by kernel_rfl) (by kernel_rfl) (by kernel_rfl) (by kernel_rfl) rfl (litEv (by kernel_rfl)) (litEv (by kernel_rfl)))) rfl (by decide) ?_
    refine lk (v := .bool true) rfl rfl rfl ?_
    refine plD ?_
    refine then_normal (hK59 _ _ ?_)
    refine wp_cond_true (litEv (by kernel_rfl)) ?_
    refine wp_ret ?_
    refine then_ret ?_
    refine inBlock_ret ?_
    refine then_ret ?_
    refine inBlock_ret ?_
    refine bodyPost_ret (v := .tuple #[]) (gRes0 rfl ) rfl ?_
    rw [if_pos h67] at hi
    exact ⟨rfl, V60, hm65.keep 0 3, hend _ (by rw [drop_last hi]; exact hc62 h66)⟩
  refine litVal (v := .bool false) rfl (wgY rfl rfl rfl (by decide) (by kernel_rfl)) (boolTo (decide_eq_false h67) (eqPtRun (.tmp 48) (.tmp 49) s.cell b (by kernel_rfl) (by kernel_rfl) (by kernel_rfl) (by kernel_rfl) rfl (litEv (by kernel_rfl)) (litEv (by kernel_rfl)))) rfl (by decide) ?_
  refine lk (v := .bool false) rfl rfl rfl ?_
  refine plD ?_
  refine then_normal (hK59 _ _ ?_)
  refine wp_cond_false (litEv (by kernel_rfl)) ?_
  refine wp_skip ?_
  refine then_normal (hK58 _ _ ?_)
  refine wp_seq_k fun K68 hK68 => ?_
  refine plStart ?_
  refine litVal (v := .pointer (some ⟨g9, 0, none⟩)) rfl (wn rfl) (iaRun (b := g9) (off := 0) (s := 4) (n := 3) (kk := .i64) (.tmp 6) (.const (.int .i64 0)) 0 Ty.und_3_ray_axis (by kernel_rfl) rfl (litEv (by kernel_rfl)) (litEv (by kernel_rfl)) rfl (by decide)) rfl (by decide) ?_
  refine lk (v := .pointer (some ⟨g9, 2, none⟩)) rfl rfl rfl ?_
  refine litVal (v := .agg (tcs s.x.next).toArray) rfl (wn rfl) (gLoadAg (vs := tcs s.x.next) (k := 2) 1 hm65 rfl (by kernel_rfl) (by kernel_rfl) (.tmp 53) Ty.ag_voxel_ray_time rfl (litEv (by kernel_rfl))) rfl (by decide) ?_
  refine plAlloc (z := [.int .i64 0, .int .i64 0]) Ty.ag_voxel_ray_time hm65 (i := 3) rfl (wn rfl) rfl ?_
  intro g69 w71 hm70
  clear hm65
  try simp only [List.cons_append, List.nil_append, List.set_cons_succ, List.set_cons_zero] at hm70
  replace hm70 := Mem.insAt (M := ((.arr g5 23 (pcs b)) :: (.arr g9 87 (a3 s)) :: (.arr g53 23 (pcs s.cell)) :: V60)) 3 hm70
  simp only [List.insertIdx_succ_cons, List.insertIdx_zero] at hm70
  refine qP rfl ?_
  refine plStore 3 Ty.ag_voxel_ray_time hm70 rfl (i := 4) (cs := tcs s.x.next) rfl (wn rfl) rfl (litEv (by kernel_rfl)) (litEv (by kernel_rfl)) rfl rfl (by kernel_rfl) ?_
  intro w73 hm72
  clear hm70
  try simp only [List.cons_append, List.nil_append, List.set_cons_succ, List.set_cons_zero] at hm72
  refine qNone rfl ?_
  refine plD ?_
  refine then_normal (hK68 _ _ ?_)
  refine wp_seq_k fun K74 hK74 => ?_
  refine wp_seq_k fun K75 hK75 => ?_
  refine plStart ?_
  refine litVal (v := .agg (a3 s).toArray) rfl (wn rfl) (gLoadAg (vs := a3 s) (k := 0) 1 hm72 rfl (by kernel_rfl) (by kernel_rfl) (.tmp 6) Ty.ag_3_ray_axis rfl (litEv (by kernel_rfl))) rfl (by decide) ?_
  refine lk (v := .int .i64 0) rfl rfl rfl ?_
  refine plD ?_
  refine then_normal (hK75 _ _ ?_)
  refine wp_block ?_
  refine roundsStart 4 ?_
  refine wp_seq_k fun K76 hK76 => ?_
  refine plStart ?_
  refine lk (v := .bool true) rfl rfl rfl ?_
  refine plD ?_
  refine then_normal (hK76 _ _ ?_)
  refine wp_seq_k fun K77 hK77 => ?_
  refine wp_cond_true (litEv (by kernel_rfl)) ?_
  refine wp_skip ?_
  refine then_normal (hK77 _ _ ?_)
  refine gwCut (fun a_ w_ => Fr a_ 82 [(2, .func (.func vf) first.toArray caps.toArray), (4, .pointer (some ⟨g5, 0, none⟩)), (6, .pointer (some ⟨g9, 0, none⟩)), (10, .pointer (some ⟨g53, 0, none⟩)), (11, .pointer (some ⟨g69, 0, none⟩)), (33, .pointer (some ⟨g9, 0, none⟩)), (34, .pointer (some ⟨g9, 0, none⟩)), (35, .int .i64 s.x.pos), (36, .pointer (some ⟨g9, 4, none⟩)), (37, .pointer (some ⟨g9, 4, none⟩)), (38, .int .i64 s.y.pos), (39, .pointer (some ⟨g9, 8, none⟩)), (40, .pointer (some ⟨g9, 8, none⟩)), (41, .int .i64 s.z.pos), (42, .agg (pcs s.cell).toArray), (43, .func (.func vf) first.toArray caps.toArray), (44, .agg (pcs s.cell).toArray), (45, .bool true), (46, .bool false), (47, .bool false), (48, .agg (pcs s.cell).toArray), (49, .agg (pcs b).toArray), (50, .bool false), (51, .bool false), (52, .pointer (some ⟨g9, 0, none⟩)), (53, .pointer (some ⟨g9, 2, none⟩)), (54, .agg (tcs s.x.next).toArray), (55, .agg (a3 s).toArray), (56, .int .i64 0), (57, .bool true)] ∧ Mem w0 w_ ((.arr g5 23 (pcs b)) :: (.arr g9 87 (a3 s)) :: (.arr g69 70 (tcs s.x.next)) :: V60)) ?_ ?_
  · refine wp_block ?_
    refine wp_seq_k fun K78 hK78 => ?_
    refine plStart ?_
    refine lk (v := .agg (axs s.x).toArray) rfl rfl rfl ?_
    refine plAlloc (z := [.int .i64 0, .int .i64 0, .int .i64 0, .int .i64 0]) Ty.ag_voxel_ray_axis hm72 (i := 1) rfl (wn rfl) rfl ?_
    intro g79 w81 hm80
    clear hm72
    try simp only [List.cons_append, List.nil_append, List.set_cons_succ, List.set_cons_zero] at hm80
    replace hm80 := Mem.insAt (M := ((.arr g5 23 (pcs b)) :: (.arr g9 87 (a3 s)) :: (.arr g53 23 (pcs s.cell)) :: (.arr g69 70 (tcs s.x.next)) :: V60)) 4 hm80
    simp only [List.insertIdx_succ_cons, List.insertIdx_zero] at hm80
    refine qP rfl ?_
    refine plStore 4 Ty.ag_voxel_ray_axis hm80 rfl (i := 2) (cs := axs s.x) rfl (wn rfl) rfl (litEv (by kernel_rfl)) (litEv (by kernel_rfl)) rfl rfl (by kernel_rfl) ?_
    intro w83 hm82
    clear hm80
    try simp only [List.cons_append, List.nil_append, List.set_cons_succ, List.set_cons_zero] at hm82
    refine qNone rfl ?_
    refine plD ?_
    refine then_normal (hK78 _ _ ?_)
    refine wp_seq_k fun K84 hK84 => ?_
    refine plStart ?_
    refine lk (v := .pointer (some ⟨g79, 2, none⟩)) rfl rfl rfl ?_
    refine litVal (v := .agg (tcs s.x.next).toArray) rfl (wn rfl) (gLoadAg (vs := tcs s.x.next) (k := 2) 4 hm82 rfl (by kernel_rfl) (by kernel_rfl) (.tmp 59) Ty.ag_voxel_ray_time rfl (litEv (by kernel_rfl))) rfl (by decide) ?_
    refine lk (v := .func (.func 37) #[.agg (tcs s.x.next).toArray] #[]) rfl rfl rfl ?_
    refine lk (v := .func (.func 37) #[.agg (tcs s.x.next).toArray] #[]) rfl rfl rfl ?_
    refine plD ?_
    refine then_normal (hK84 _ _ ?_)
    refine wp_seq_k fun K85 hK85 => ?_
    refine plStart ?_
    refine lk (v := .func (.func 37) #[.agg (tcs s.x.next).toArray] #[]) rfl rfl rfl ?_
    refine litVal (v := .agg (tcs s.x.next).toArray) rfl (wn rfl) (gLoadAg (vs := tcs s.x.next) (k := 0) 3 hm82 rfl (by kernel_rfl) (by kernel_rfl) (.tmp 11) Ty.ag_voxel_ray_time rfl (litEv (by kernel_rfl))) rfl (by decide) ?_
    refine plCall (i := 2) 37 [.agg (tcs s.x.next).toArray] [.agg (tcs s.x.next).toArray] [] rfl (by kernel_rfl) (wn rfl) rfl (litEv (by kernel_rfl)) (litArgs (by kernel_rfl)) (callsTo (congrArg Value.bool (tltb_irrefl s.x.next)) (before_any s.x.next s.x.next bx.1 bx.1 _)) ?_
    rintro e w86 ⟨rfl, hbz⟩
    have hm87 := hm82.below hbz
    clear hbz hm82
    refine ⟨_, rfl, ?_⟩
    refine qP rfl ?_
    refine plD ?_
    refine then_normal (hK85 _ _ ?_)
    refine wp_cond_false (litEv (by kernel_rfl)) ?_
    refine wp_skip ?_
    refine inBlock_normal ?_
    refine then_normal ?_
    exact ⟨⟨litSize, rfl, ⟨litGet (by kernel_rfl), ⟨litGet (by kernel_rfl), ⟨litGet (by kernel_rfl), ⟨litGet (by kernel_rfl), ⟨litGet (by kernel_rfl), ⟨litGet (by kernel_rfl), ⟨litGet (by kernel_rfl), ⟨litGet (by kernel_rfl), ⟨litGet (by kernel_rfl), ⟨litGet (by kernel_rfl), ⟨litGet (by kernel_rfl), ⟨litGet (by kernel_rfl), ⟨litGet (by kernel_rfl), ⟨litGet (by kernel_rfl), ⟨litGet (by kernel_rfl), ⟨litGet (by kernel_rfl), ⟨litGet (by kernel_rfl), ⟨litGet (by kernel_rfl), ⟨litGet (by kernel_rfl), ⟨litGet (by kernel_rfl), ⟨litGet (by kernel_rfl), ⟨litGet (by kernel_rfl), ⟨litGet (by kernel_rfl), ⟨litGet (by kernel_rfl), ⟨litGet (by kernel_rfl), ⟨litGet (by kernel_rfl), ⟨litGet (by kernel_rfl), ⟨litGet (by kernel_rfl), ⟨litGet (by kernel_rfl), ⟨litGet (by kernel_rfl), trivial⟩⟩⟩⟩⟩⟩⟩⟩⟩⟩⟩⟩⟩⟩⟩⟩⟩⟩⟩⟩⟩⟩⟩⟩⟩⟩⟩⟩⟩⟩⟩, (hm87.sub (by simp [List.sublist_cons_iff]))⟩
  clear hm72
  intro a90 w88 hI_
  obtain ⟨hF_, hm89⟩ := hI_
  obtain ⟨X91, rfl⟩ := frLit hF_
  clear hF_
  refine plStart ?_
  refine lk (v := .int .i64 1) rfl rfl rfl ?_
  refine lk (v := .int .i64 1) rfl rfl rfl ?_
  refine plD ?_
  refine then_normal (roundsNext ?_)
  refine wp_seq_k fun K92 hK92 => ?_
  refine plStart ?_
  refine lk (v := .bool true) rfl rfl rfl ?_
  refine plD ?_
  refine then_normal (hK92 _ _ ?_)
  refine wp_seq_k fun K93 hK93 => ?_
  refine wp_cond_true (litEv (by kernel_rfl)) ?_
  refine wp_skip ?_
  refine then_normal (hK93 _ _ ?_)
  refine gwCut (fun a_ w_ => Fr a_ 82 [(2, .func (.func vf) first.toArray caps.toArray), (4, .pointer (some ⟨g5, 0, none⟩)), (6, .pointer (some ⟨g9, 0, none⟩)), (10, .pointer (some ⟨g53, 0, none⟩)), (11, .pointer (some ⟨g69, 0, none⟩)), (33, .pointer (some ⟨g9, 0, none⟩)), (34, .pointer (some ⟨g9, 0, none⟩)), (35, .int .i64 s.x.pos), (36, .pointer (some ⟨g9, 4, none⟩)), (37, .pointer (some ⟨g9, 4, none⟩)), (38, .int .i64 s.y.pos), (39, .pointer (some ⟨g9, 8, none⟩)), (40, .pointer (some ⟨g9, 8, none⟩)), (41, .int .i64 s.z.pos), (42, .agg (pcs s.cell).toArray), (43, .func (.func vf) first.toArray caps.toArray), (44, .agg (pcs s.cell).toArray), (45, .bool true), (46, .bool false), (47, .bool false), (48, .agg (pcs s.cell).toArray), (49, .agg (pcs b).toArray), (50, .bool false), (51, .bool false), (52, .pointer (some ⟨g9, 0, none⟩)), (53, .pointer (some ⟨g9, 2, none⟩)), (54, .agg (tcs s.x.next).toArray), (55, .agg (a3 s).toArray), (56, .int .i64 1), (57, .bool true), (67, .int .i64 1)] ∧ Mem w0 w_ ((.arr g5 23 (pcs b)) :: (.arr g9 87 (a3 s)) :: (.arr g69 70 (tcs F2)) :: V60)) ?_ ?_
  · refine wp_block ?_
    refine wp_seq_k fun K94 hK94 => ?_
    refine plStart ?_
    refine lk (v := .agg (axs s.y).toArray) rfl rfl rfl ?_
    refine plAlloc (z := [.int .i64 0, .int .i64 0, .int .i64 0, .int .i64 0]) Ty.ag_voxel_ray_axis hm89 (i := 1) rfl (wn rfl) rfl ?_
    intro g95 w97 hm96
    clear hm89
    try simp only [List.cons_append, List.nil_append, List.set_cons_succ, List.set_cons_zero] at hm96
    replace hm96 := Mem.insAt (M := ((.arr g5 23 (pcs b)) :: (.arr g9 87 (a3 s)) :: (.arr g69 70 (tcs s.x.next)) :: V60)) 3 hm96
    simp only [List.insertIdx_succ_cons, List.insertIdx_zero] at hm96
    refine qP rfl ?_
    refine plStore 3 Ty.ag_voxel_ray_axis hm96 rfl (i := 2) (cs := axs s.y) rfl (wn rfl) rfl (litEv (by kernel_rfl)) (litEv (by kernel_rfl)) rfl rfl (by kernel_rfl) ?_
    intro w99 hm98
    clear hm96
    try simp only [List.cons_append, List.nil_append, List.set_cons_succ, List.set_cons_zero] at hm98
    refine qNone rfl ?_
    refine plD ?_
    refine then_normal (hK94 _ _ ?_)
    refine wp_seq_k fun K100 hK100 => ?_
    refine plStart ?_
    refine lk (v := .pointer (some ⟨g95, 2, none⟩)) rfl rfl rfl ?_
    refine litVal (v := .agg (tcs s.y.next).toArray) rfl (wn rfl) (gLoadAg (vs := tcs s.y.next) (k := 2) 3 hm98 rfl (by kernel_rfl) (by kernel_rfl) (.tmp 59) Ty.ag_voxel_ray_time rfl (litEv (by kernel_rfl))) rfl (by decide) ?_
    refine lk (v := .func (.func 37) #[.agg (tcs s.y.next).toArray] #[]) rfl rfl rfl ?_
    refine lk (v := .func (.func 37) #[.agg (tcs s.y.next).toArray] #[]) rfl rfl rfl ?_
    refine plD ?_
    refine then_normal (hK100 _ _ ?_)
    refine wp_seq_k fun K101 hK101 => ?_
    refine plStart ?_
    refine lk (v := .func (.func 37) #[.agg (tcs s.y.next).toArray] #[]) rfl rfl rfl ?_
    refine litVal (v := .agg (tcs s.x.next).toArray) rfl (wn rfl) (gLoadAg (vs := tcs s.x.next) (k := 0) 2 hm98 rfl (by kernel_rfl) (by kernel_rfl) (.tmp 11) Ty.ag_voxel_ray_time rfl (litEv (by kernel_rfl))) rfl (by decide) ?_
    refine plCall (i := 2) 37 [.agg (tcs s.x.next).toArray] [.agg (tcs s.y.next).toArray] [] rfl (by kernel_rfl) (wn rfl) rfl (litEv (by kernel_rfl)) (litArgs (by kernel_rfl)) (before_any s.y.next s.x.next by_.1 bx.1 _) ?_
    rintro e w102 ⟨rfl, hbz⟩
    have hm103 := hm98.below hbz
    clear hbz hm98
    refine ⟨_, rfl, ?_⟩
    refine qP rfl ?_
    rcases bool_or (tltb s.y.next s.x.next) with h104 | h104
    · rw [h104]
      refine plD ?_
      refine then_normal (hK101 _ _ ?_)
      refine wp_cond_false (litEv (by kernel_rfl)) ?_
      refine wp_skip ?_
      refine inBlock_normal ?_
      refine then_normal ?_
      have e_ : tcs F2 = tcs s.x.next := by rw [← hF2, sooner_no h104]
      exact ⟨⟨litSize, rfl, ⟨litGet (by kernel_rfl), ⟨litGet (by kernel_rfl), ⟨litGet (by kernel_rfl), ⟨litGet (by kernel_rfl), ⟨litGet (by kernel_rfl), ⟨litGet (by kernel_rfl), ⟨litGet (by kernel_rfl), ⟨litGet (by kernel_rfl), ⟨litGet (by kernel_rfl), ⟨litGet (by kernel_rfl), ⟨litGet (by kernel_rfl), ⟨litGet (by kernel_rfl), ⟨litGet (by kernel_rfl), ⟨litGet (by kernel_rfl), ⟨litGet (by kernel_rfl), ⟨litGet (by kernel_rfl), ⟨litGet (by kernel_rfl), ⟨litGet (by kernel_rfl), ⟨litGet (by kernel_rfl), ⟨litGet (by kernel_rfl), ⟨litGet (by kernel_rfl), ⟨litGet (by kernel_rfl), ⟨litGet (by kernel_rfl), ⟨litGet (by kernel_rfl), ⟨litGet (by kernel_rfl), ⟨litGet (by kernel_rfl), ⟨litGet (by kernel_rfl), ⟨litGet (by kernel_rfl), ⟨litGet (by kernel_rfl), ⟨litGet (by kernel_rfl), ⟨litGet (by kernel_rfl), trivial⟩⟩⟩⟩⟩⟩⟩⟩⟩⟩⟩⟩⟩⟩⟩⟩⟩⟩⟩⟩⟩⟩⟩⟩⟩⟩⟩⟩⟩⟩⟩⟩, (by rw [e_]; exact hm103.sub (by simp [List.sublist_cons_iff]))⟩
    rw [h104]
    refine plD ?_
    refine then_normal (hK101 _ _ ?_)
    refine wp_cond_true (litEv (by kernel_rfl)) ?_
    refine plStart ?_
    refine lk (v := .pointer (some ⟨g95, 2, none⟩)) rfl rfl rfl ?_
    refine litVal (v := .agg (tcs s.y.next).toArray) rfl (wn rfl) (gLoadAg (vs := tcs s.y.next) (k := 2) 3 hm103 rfl (by kernel_rfl) (by kernel_rfl) (.tmp 65) Ty.ag_voxel_ray_time rfl (litEv (by kernel_rfl))) rfl (by decide) ?_
    refine plStore 2 Ty.ag_voxel_ray_time hm103 rfl (i := 2) (cs := tcs s.y.next) rfl (wn rfl) rfl (litEv (by kernel_rfl)) (litEv (by kernel_rfl)) rfl rfl (by kernel_rfl) ?_
    intro w106 hm105
    clear hm103
    try simp only [List.cons_append, List.nil_append, List.set_cons_succ, List.set_cons_zero] at hm105
    refine qNone rfl ?_
    refine plD ?_
    refine inBlock_normal ?_
    refine then_normal ?_
    have e_ : tcs F2 = tcs s.y.next := by rw [← hF2, sooner_yes h104]
    exact ⟨⟨litSize, rfl, ⟨litGet (by kernel_rfl), ⟨litGet (by kernel_rfl), ⟨litGet (by kernel_rfl), ⟨litGet (by kernel_rfl), ⟨litGet (by kernel_rfl), ⟨litGet (by kernel_rfl), ⟨litGet (by kernel_rfl), ⟨litGet (by kernel_rfl), ⟨litGet (by kernel_rfl), ⟨litGet (by kernel_rfl), ⟨litGet (by kernel_rfl), ⟨litGet (by kernel_rfl), ⟨litGet (by kernel_rfl), ⟨litGet (by kernel_rfl), ⟨litGet (by kernel_rfl), ⟨litGet (by kernel_rfl), ⟨litGet (by kernel_rfl), ⟨litGet (by kernel_rfl), ⟨litGet (by kernel_rfl), ⟨litGet (by kernel_rfl), ⟨litGet (by kernel_rfl), ⟨litGet (by kernel_rfl), ⟨litGet (by kernel_rfl), ⟨litGet (by kernel_rfl), ⟨litGet (by kernel_rfl), ⟨litGet (by kernel_rfl), ⟨litGet (by kernel_rfl), ⟨litGet (by kernel_rfl), ⟨litGet (by kernel_rfl), ⟨litGet (by kernel_rfl), ⟨litGet (by kernel_rfl), trivial⟩⟩⟩⟩⟩⟩⟩⟩⟩⟩⟩⟩⟩⟩⟩⟩⟩⟩⟩⟩⟩⟩⟩⟩⟩⟩⟩⟩⟩⟩⟩⟩, (by rw [e_]; exact hm105.sub (by simp [List.sublist_cons_iff]))⟩
  clear hm89
  intro a109 w107 hI_
  obtain ⟨hF_, hm108⟩ := hI_
  obtain ⟨X110, rfl⟩ := frLit hF_
  clear hF_
  refine plStart ?_
  refine lk (v := .int .i64 2) rfl rfl rfl ?_
  refine lk (v := .int .i64 2) rfl rfl rfl ?_
  refine plD ?_
  refine then_normal (roundsNext ?_)
  refine wp_seq_k fun K111 hK111 => ?_
  refine plStart ?_
  refine lk (v := .bool true) rfl rfl rfl ?_
  refine plD ?_
  refine then_normal (hK111 _ _ ?_)
  refine wp_seq_k fun K112 hK112 => ?_
  refine wp_cond_true (litEv (by kernel_rfl)) ?_
  refine wp_skip ?_
  refine then_normal (hK112 _ _ ?_)
  refine gwCut (fun a_ w_ => Fr a_ 82 [(2, .func (.func vf) first.toArray caps.toArray), (4, .pointer (some ⟨g5, 0, none⟩)), (6, .pointer (some ⟨g9, 0, none⟩)), (10, .pointer (some ⟨g53, 0, none⟩)), (11, .pointer (some ⟨g69, 0, none⟩)), (33, .pointer (some ⟨g9, 0, none⟩)), (34, .pointer (some ⟨g9, 0, none⟩)), (35, .int .i64 s.x.pos), (36, .pointer (some ⟨g9, 4, none⟩)), (37, .pointer (some ⟨g9, 4, none⟩)), (38, .int .i64 s.y.pos), (39, .pointer (some ⟨g9, 8, none⟩)), (40, .pointer (some ⟨g9, 8, none⟩)), (41, .int .i64 s.z.pos), (42, .agg (pcs s.cell).toArray), (43, .func (.func vf) first.toArray caps.toArray), (44, .agg (pcs s.cell).toArray), (45, .bool true), (46, .bool false), (47, .bool false), (48, .agg (pcs s.cell).toArray), (49, .agg (pcs b).toArray), (50, .bool false), (51, .bool false), (52, .pointer (some ⟨g9, 0, none⟩)), (53, .pointer (some ⟨g9, 2, none⟩)), (54, .agg (tcs s.x.next).toArray), (55, .agg (a3 s).toArray), (56, .int .i64 2), (57, .bool true), (67, .int .i64 2)] ∧ Mem w0 w_ ((.arr g5 23 (pcs b)) :: (.arr g9 87 (a3 s)) :: (.arr g69 70 (tcs F3)) :: V60)) ?_ ?_
  · refine wp_block ?_
    refine wp_seq_k fun K113 hK113 => ?_
    refine plStart ?_
    refine lk (v := .agg (axs s.z).toArray) rfl rfl rfl ?_
    refine plAlloc (z := [.int .i64 0, .int .i64 0, .int .i64 0, .int .i64 0]) Ty.ag_voxel_ray_axis hm108 (i := 1) rfl (wn rfl) rfl ?_
    intro g114 w116 hm115
    clear hm108
    try simp only [List.cons_append, List.nil_append, List.set_cons_succ, List.set_cons_zero] at hm115
    replace hm115 := Mem.insAt (M := ((.arr g5 23 (pcs b)) :: (.arr g9 87 (a3 s)) :: (.arr g69 70 (tcs F2)) :: V60)) 3 hm115
    simp only [List.insertIdx_succ_cons, List.insertIdx_zero] at hm115
    refine qP rfl ?_
    refine plStore 3 Ty.ag_voxel_ray_axis hm115 rfl (i := 2) (cs := axs s.z) rfl (wn rfl) rfl (litEv (by kernel_rfl)) (litEv (by kernel_rfl)) rfl rfl (by kernel_rfl) ?_
    intro w118 hm117
    clear hm115
    try simp only [List.cons_append, List.nil_append, List.set_cons_succ, List.set_cons_zero] at hm117
    refine qNone rfl ?_
    refine plD ?_
    refine then_normal (hK113 _ _ ?_)
    refine wp_seq_k fun K119 hK119 => ?_
    refine plStart ?_
    refine lk (v := .pointer (some ⟨g114, 2, none⟩)) rfl rfl rfl ?_
    refine litVal (v := .agg (tcs s.z.next).toArray) rfl (wn rfl) (gLoadAg (vs := tcs s.z.next) (k := 2) 3 hm117 rfl (by kernel_rfl) (by kernel_rfl) (.tmp 59) Ty.ag_voxel_ray_time rfl (litEv (by kernel_rfl))) rfl (by decide) ?_
    refine lk (v := .func (.func 37) #[.agg (tcs s.z.next).toArray] #[]) rfl rfl rfl ?_
    refine lk (v := .func (.func 37) #[.agg (tcs s.z.next).toArray] #[]) rfl rfl rfl ?_
    refine plD ?_
    refine then_normal (hK119 _ _ ?_)
    refine wp_seq_k fun K120 hK120 => ?_
    refine plStart ?_
    refine lk (v := .func (.func 37) #[.agg (tcs s.z.next).toArray] #[]) rfl rfl rfl ?_
    refine litVal (v := .agg (tcs F2).toArray) rfl (wn rfl) (gLoadAg (vs := tcs F2) (k := 0) 2 hm117 rfl (by kernel_rfl) (by kernel_rfl) (.tmp 11) Ty.ag_voxel_ray_time rfl (litEv (by kernel_rfl))) rfl (by decide) ?_
    refine plCall (i := 2) 37 [.agg (tcs F2).toArray] [.agg (tcs s.z.next).toArray] [] rfl (by kernel_rfl) (wn rfl) rfl (litEv (by kernel_rfl)) (litArgs (by kernel_rfl)) (before_any s.z.next F2 bz.1 sF2 _) ?_
    rintro e w121 ⟨rfl, hbz⟩
    have hm122 := hm117.below hbz
    clear hbz hm117
    refine ⟨_, rfl, ?_⟩
    refine qP rfl ?_
    rcases bool_or (tltb s.z.next F2) with h123 | h123
    · rw [h123]
      refine plD ?_
      refine then_normal (hK120 _ _ ?_)
      refine wp_cond_false (litEv (by kernel_rfl)) ?_
      refine wp_skip ?_
      refine inBlock_normal ?_
      refine then_normal ?_
      have e_ : tcs F3 = tcs F2 := by rw [← hF3, sooner_no h123]
      exact ⟨⟨litSize, rfl, ⟨litGet (by kernel_rfl), ⟨litGet (by kernel_rfl), ⟨litGet (by kernel_rfl), ⟨litGet (by kernel_rfl), ⟨litGet (by kernel_rfl), ⟨litGet (by kernel_rfl), ⟨litGet (by kernel_rfl), ⟨litGet (by kernel_rfl), ⟨litGet (by kernel_rfl), ⟨litGet (by kernel_rfl), ⟨litGet (by kernel_rfl), ⟨litGet (by kernel_rfl), ⟨litGet (by kernel_rfl), ⟨litGet (by kernel_rfl), ⟨litGet (by kernel_rfl), ⟨litGet (by kernel_rfl), ⟨litGet (by kernel_rfl), ⟨litGet (by kernel_rfl), ⟨litGet (by kernel_rfl), ⟨litGet (by kernel_rfl), ⟨litGet (by kernel_rfl), ⟨litGet (by kernel_rfl), ⟨litGet (by kernel_rfl), ⟨litGet (by kernel_rfl), ⟨litGet (by kernel_rfl), ⟨litGet (by kernel_rfl), ⟨litGet (by kernel_rfl), ⟨litGet (by kernel_rfl), ⟨litGet (by kernel_rfl), ⟨litGet (by kernel_rfl), ⟨litGet (by kernel_rfl), trivial⟩⟩⟩⟩⟩⟩⟩⟩⟩⟩⟩⟩⟩⟩⟩⟩⟩⟩⟩⟩⟩⟩⟩⟩⟩⟩⟩⟩⟩⟩⟩⟩, (by rw [e_]; exact hm122.sub (by simp [List.sublist_cons_iff]))⟩
    rw [h123]
    refine plD ?_
    refine then_normal (hK120 _ _ ?_)
    refine wp_cond_true (litEv (by kernel_rfl)) ?_
    refine plStart ?_
    refine lk (v := .pointer (some ⟨g114, 2, none⟩)) rfl rfl rfl ?_
    refine litVal (v := .agg (tcs s.z.next).toArray) rfl (wn rfl) (gLoadAg (vs := tcs s.z.next) (k := 2) 3 hm122 rfl (by kernel_rfl) (by kernel_rfl) (.tmp 65) Ty.ag_voxel_ray_time rfl (litEv (by kernel_rfl))) rfl (by decide) ?_
    refine plStore 2 Ty.ag_voxel_ray_time hm122 rfl (i := 2) (cs := tcs s.z.next) rfl (wn rfl) rfl (litEv (by kernel_rfl)) (litEv (by kernel_rfl)) rfl rfl (by kernel_rfl) ?_
    intro w125 hm124
    clear hm122
    try simp only [List.cons_append, List.nil_append, List.set_cons_succ, List.set_cons_zero] at hm124
    refine qNone rfl ?_
    refine plD ?_
    refine inBlock_normal ?_
    refine then_normal ?_
    have e_ : tcs F3 = tcs s.z.next := by rw [← hF3, sooner_yes h123]
    exact ⟨⟨litSize, rfl, ⟨litGet (by kernel_rfl), ⟨litGet (by kernel_rfl), ⟨litGet (by kernel_rfl), ⟨litGet (by kernel_rfl), ⟨litGet (by kernel_rfl), ⟨litGet (by kernel_rfl), ⟨litGet (by kernel_rfl), ⟨litGet (by kernel_rfl), ⟨litGet (by kernel_rfl), ⟨litGet (by kernel_rfl), ⟨litGet (by kernel_rfl), ⟨litGet (by kernel_rfl), ⟨litGet (by kernel_rfl), ⟨litGet (by kernel_rfl), ⟨litGet (by kernel_rfl), ⟨litGet (by kernel_rfl), ⟨litGet (by kernel_rfl), ⟨litGet (by kernel_rfl), ⟨litGet (by kernel_rfl), ⟨litGet (by kernel_rfl), ⟨litGet (by kernel_rfl), ⟨litGet (by kernel_rfl), ⟨litGet (by kernel_rfl), ⟨litGet (by kernel_rfl), ⟨litGet (by kernel_rfl), ⟨litGet (by kernel_rfl), ⟨litGet (by kernel_rfl), ⟨litGet (by kernel_rfl), ⟨litGet (by kernel_rfl), ⟨litGet (by kernel_rfl), ⟨litGet (by kernel_rfl), trivial⟩⟩⟩⟩⟩⟩⟩⟩⟩⟩⟩⟩⟩⟩⟩⟩⟩⟩⟩⟩⟩⟩⟩⟩⟩⟩⟩⟩⟩⟩⟩⟩, (by rw [e_]; exact hm124.sub (by simp [List.sublist_cons_iff]))⟩
  clear hm108
  intro a128 w126 hI_
  obtain ⟨hF_, hm127⟩ := hI_
  obtain ⟨X129, rfl⟩ := frLit hF_
  clear hF_
  refine plStart ?_
  refine lk (v := .int .i64 3) rfl rfl rfl ?_
  refine lk (v := .int .i64 3) rfl rfl rfl ?_
  refine plD ?_
  refine then_normal (roundsNext ?_)
  refine wp_seq_k fun K130 hK130 => ?_
  refine plStart ?_
  refine lk (v := .bool false) rfl rfl rfl ?_
  refine plD ?_
  refine then_normal (hK130 _ _ ?_)
  refine wp_seq_k fun K131 hK131 => ?_
  refine wp_cond_false (litEv (by kernel_rfl)) ?_
  refine wp_exit ?_
  refine then_exit ?_
  refine then_exit ?_
  refine inBlock_exit ?_
  refine then_normal (hK74 _ _ ?_)
  refine wp_seq_k fun K132 hK132 => ?_
  refine plStart ?_
  refine lk (v := .int .i64 0) rfl rfl rfl ?_
  refine plD ?_
  refine then_normal (hK132 _ _ ?_)
  refine wp_block ?_
  refine roundsStart 4 ?_
  refine wp_seq_k fun K133 hK133 => ?_
  refine plStart ?_
  refine lk (v := .bool true) rfl rfl rfl ?_
  refine plD ?_
  refine then_normal (hK133 _ _ ?_)
  refine wp_seq_k fun K134 hK134 => ?_
  refine wp_cond_true (litEv (by kernel_rfl)) ?_
  refine wp_skip ?_
  refine then_normal (hK134 _ _ ?_)
  refine gwCut (fun a_ w_ => Fr a_ 82 [(2, .func (.func vf) first.toArray caps.toArray), (4, .pointer (some ⟨g5, 0, none⟩)), (6, .pointer (some ⟨g9, 0, none⟩)), (10, .pointer (some ⟨g53, 0, none⟩)), (11, .pointer (some ⟨g69, 0, none⟩)), (33, .pointer (some ⟨g9, 0, none⟩)), (34, .pointer (some ⟨g9, 0, none⟩)), (35, .int .i64 s.x.pos), (36, .pointer (some ⟨g9, 4, none⟩)), (37, .pointer (some ⟨g9, 4, none⟩)), (38, .int .i64 s.y.pos), (39, .pointer (some ⟨g9, 8, none⟩)), (40, .pointer (some ⟨g9, 8, none⟩)), (41, .int .i64 s.z.pos), (42, .agg (pcs s.cell).toArray), (43, .func (.func vf) first.toArray caps.toArray), (44, .agg (pcs s.cell).toArray), (45, .bool true), (46, .bool false), (47, .bool false), (48, .agg (pcs s.cell).toArray), (49, .agg (pcs b).toArray), (50, .bool false), (51, .bool false), (52, .pointer (some ⟨g9, 0, none⟩)), (53, .pointer (some ⟨g9, 2, none⟩)), (54, .agg (tcs s.x.next).toArray), (55, .agg (a3 s).toArray), (56, .int .i64 3), (57, .bool false), (67, .int .i64 3), (68, .int .i64 0), (69, .bool true)] ∧ Mem w0 w_ ((.arr g5 23 (pcs b)) :: (.arr g9 87 (a3 ⟨X1, s.y, s.z⟩)) :: (.arr g69 70 (tcs F3)) :: V60)) ?_ ?_
  · refine wp_block ?_
    refine wp_seq_k fun K135 hK135 => ?_
    refine plStart ?_
    refine lk (v := .int .i64 0) rfl rfl rfl ?_
    refine lk (v := .int .i64 0) rfl rfl rfl ?_
    refine plD ?_
    refine then_normal (hK135 _ _ ?_)
    refine wp_seq_k fun K136 hK136 => ?_
    refine mgStart hm127 (by kernel_rfl) ?_
    intro w138 hm137
    clear hm127
    refine mgTake (i := 0) (v := .agg (tcs F3).toArray) rfl (by kernel_rfl) (wn rfl) (fun _ _ _ h => h) hm137 (fun w_ h_ => gLoadAg (vs := tcs F3) (k := 0) 2 h_ rfl (by kernel_rfl) (by kernel_rfl) (.tmp 11) Ty.ag_voxel_ray_time rfl (litEv (by kernel_rfl))) ?_
    refine mP rfl ?_
    refine mk_ (i := 1) (v := .int .i64 0) rfl rfl (fun _ _ _ h => h) hm137 rfl ?_
    refine mgTake (i := 2) (v := .pointer (some ⟨g9, 0, none⟩)) rfl (by kernel_rfl) (wn rfl) (fun _ _ _ h => h) hm137 (fun w_ h_ => iaRun (b := g9) (off := 0) (s := 4) (n := 3) (kk := .i64) (.tmp 6) (.tmp 72) 0 Ty.und_3_ray_axis (by kernel_rfl) rfl (litEv (by kernel_rfl)) (litEv (by kernel_rfl)) rfl (by decide)) ?_
    refine mP rfl ?_
    refine mk_ (i := 3) (v := .pointer (some ⟨g9, 2, none⟩)) rfl rfl (fun _ _ _ h => h) hm137 rfl ?_
    refine mgTake (i := 4) (v := .agg (tcs s.x.next).toArray) rfl (by kernel_rfl) (wn rfl) (fun _ _ _ h => h) hm137 (fun w_ h_ => gLoadAg (vs := tcs s.x.next) (k := 2) 1 h_ rfl (by kernel_rfl) (by kernel_rfl) (.tmp 74) Ty.ag_voxel_ray_time rfl (litEv (by kernel_rfl))) ?_
    refine mP rfl ?_
    refine mgCall (i := 5) 37 [.agg (tcs F3).toArray, .agg (tcs s.x.next).toArray] [] [] (by kernel_rfl) rfl (by kernel_rfl) (wn rfl) rfl (litEv (by kernel_rfl)) (litArgs (by kernel_rfl)) (before_any F3 s.x.next sF3 bx.1 _) ?_
    rintro e w139 ⟨rfl, hbz⟩
    have hm140 := hm137.below hbz
    clear hbz hm137
    refine ⟨_, rfl, hm140, ?_⟩
    refine mP rfl ?_
    rcases bool_or (tltb F3 s.x.next) with h141 | h141
    · rw [h141]
      refine mk_ (i := 6) (v := .bool true) rfl rfl (fun _ _ _ h => h) hm140 rfl ?_
      refine mgDone (by kernel_rfl) ?_
      refine then_normal (hK136 _ _ ?_)
      refine wp_cond_true (litEv (by kernel_rfl)) ?_
      refine plStart ?_
      refine lk (v := .int .i64 0) rfl rfl rfl ?_
      refine litVal (v := .pointer (some ⟨g9, 0, none⟩)) rfl (wn rfl) (iaRun (b := g9) (off := 0) (s := 4) (n := 3) (kk := .i64) (.tmp 6) (.tmp 78) 0 Ty.und_3_ray_axis (by kernel_rfl) rfl (litEv (by kernel_rfl)) (litEv (by kernel_rfl)) rfl (by decide)) rfl (by decide) ?_
      refine plCall (i := 2) 49 [.pointer (some ⟨g9, 0, none⟩)] [] [] rfl (by kernel_rfl) (wn rfl) rfl (litEv (by kernel_rfl)) (litArgs (by kernel_rfl)) (cross0_any g9 s (by have h_ := bx.2.1; show -1073741824 ≤ s.x.pos ∧ s.x.pos ≤ 1073741824; omega) bx.2.2 bx.1.1 (Mem.front 1 hm140 rfl)) ?_
      rintro e w142 ⟨rfl, hm143⟩
      replace hm143 := Mem.back (M := ((.arr g5 23 (pcs b)) :: (.arr g9 87 (a3 s)) :: (.arr g69 70 (tcs F3)) :: V60)) 1 hm143
      simp only [List.set_cons_succ, List.set_cons_zero] at hm143
      clear hm140
      refine ⟨_, rfl, ?_⟩
      refine qP rfl ?_
      refine plD ?_
      refine inBlock_normal ?_
      refine then_normal ?_
      have e_ : X1 = s.x.inc := by rw [← hX1, over_no h141]
      exact ⟨⟨litSize, rfl, ⟨litGet (by kernel_rfl), ⟨litGet (by kernel_rfl), ⟨litGet (by kernel_rfl), ⟨litGet (by kernel_rfl), ⟨litGet (by kernel_rfl), ⟨litGet (by kernel_rfl), ⟨litGet (by kernel_rfl), ⟨litGet (by kernel_rfl), ⟨litGet (by kernel_rfl), ⟨litGet (by kernel_rfl), ⟨litGet (by kernel_rfl), ⟨litGet (by kernel_rfl), ⟨litGet (by kernel_rfl), ⟨litGet (by kernel_rfl), ⟨litGet (by kernel_rfl), ⟨litGet (by kernel_rfl), ⟨litGet (by kernel_rfl), ⟨litGet (by kernel_rfl), ⟨litGet (by kernel_rfl), ⟨litGet (by kernel_rfl), ⟨litGet (by kernel_rfl), ⟨litGet (by kernel_rfl), ⟨litGet (by kernel_rfl), ⟨litGet (by kernel_rfl), ⟨litGet (by kernel_rfl), ⟨litGet (by kernel_rfl), ⟨litGet (by kernel_rfl), ⟨litGet (by kernel_rfl), ⟨litGet (by kernel_rfl), ⟨litGet (by kernel_rfl), ⟨litGet (by kernel_rfl), ⟨litGet (by kernel_rfl), ⟨litGet (by kernel_rfl), trivial⟩⟩⟩⟩⟩⟩⟩⟩⟩⟩⟩⟩⟩⟩⟩⟩⟩⟩⟩⟩⟩⟩⟩⟩⟩⟩⟩⟩⟩⟩⟩⟩⟩⟩, (by rw [e_]; exact hm143.sub (by simp [List.sublist_cons_iff]))⟩
    rw [h141]
    refine mk_ (i := 6) (v := .bool false) rfl rfl (fun _ _ _ h => h) hm140 rfl ?_
    refine mgDone (by kernel_rfl) ?_
    refine then_normal (hK136 _ _ ?_)
    refine wp_cond_false (litEv (by kernel_rfl)) ?_
    refine wp_skip ?_
    refine inBlock_normal ?_
    refine then_normal ?_
    have e_ : X1 = s.x := by rw [← hX1, over_yes h141]
    exact ⟨⟨litSize, rfl, ⟨litGet (by kernel_rfl), ⟨litGet (by kernel_rfl), ⟨litGet (by kernel_rfl), ⟨litGet (by kernel_rfl), ⟨litGet (by kernel_rfl), ⟨litGet (by kernel_rfl), ⟨litGet (by kernel_rfl), ⟨litGet (by kernel_rfl), ⟨litGet (by kernel_rfl), ⟨litGet (by kernel_rfl), ⟨litGet (by kernel_rfl), ⟨litGet (by kernel_rfl), ⟨litGet (by kernel_rfl), ⟨litGet (by kernel_rfl), ⟨litGet (by kernel_rfl), ⟨litGet (by kernel_rfl), ⟨litGet (by kernel_rfl), ⟨litGet (by kernel_rfl), ⟨litGet (by kernel_rfl), ⟨litGet (by kernel_rfl), ⟨litGet (by kernel_rfl), ⟨litGet (by kernel_rfl), ⟨litGet (by kernel_rfl), ⟨litGet (by kernel_rfl), ⟨litGet (by kernel_rfl), ⟨litGet (by kernel_rfl), ⟨litGet (by kernel_rfl), ⟨litGet (by kernel_rfl), ⟨litGet (by kernel_rfl), ⟨litGet (by kernel_rfl), ⟨litGet (by kernel_rfl), ⟨litGet (by kernel_rfl), ⟨litGet (by kernel_rfl), trivial⟩⟩⟩⟩⟩⟩⟩⟩⟩⟩⟩⟩⟩⟩⟩⟩⟩⟩⟩⟩⟩⟩⟩⟩⟩⟩⟩⟩⟩⟩⟩⟩⟩⟩, (by rw [e_]; exact hm140.sub (by simp [List.sublist_cons_iff]))⟩
  clear hm127
  intro a146 w144 hI_
  obtain ⟨hF_, hm145⟩ := hI_
  obtain ⟨X147, rfl⟩ := frLit hF_
  clear hF_
  refine plStart ?_
  refine lk (v := .int .i64 1) rfl rfl rfl ?_
  refine lk (v := .int .i64 1) rfl rfl rfl ?_
  refine plD ?_
  refine then_normal (roundsNext ?_)
  refine wp_seq_k fun K148 hK148 => ?_
  refine plStart ?_
  refine lk (v := .bool true) rfl rfl rfl ?_
  refine plD ?_
  refine then_normal (hK148 _ _ ?_)
  refine wp_seq_k fun K149 hK149 => ?_
  refine wp_cond_true (litEv (by kernel_rfl)) ?_
  refine wp_skip ?_
  refine then_normal (hK149 _ _ ?_)
  refine gwCut (fun a_ w_ => Fr a_ 82 [(2, .func (.func vf) first.toArray caps.toArray), (4, .pointer (some ⟨g5, 0, none⟩)), (6, .pointer (some ⟨g9, 0, none⟩)), (10, .pointer (some ⟨g53, 0, none⟩)), (11, .pointer (some ⟨g69, 0, none⟩)), (33, .pointer (some ⟨g9, 0, none⟩)), (34, .pointer (some ⟨g9, 0, none⟩)), (35, .int .i64 s.x.pos), (36, .pointer (some ⟨g9, 4, none⟩)), (37, .pointer (some ⟨g9, 4, none⟩)), (38, .int .i64 s.y.pos), (39, .pointer (some ⟨g9, 8, none⟩)), (40, .pointer (some ⟨g9, 8, none⟩)), (41, .int .i64 s.z.pos), (42, .agg (pcs s.cell).toArray), (43, .func (.func vf) first.toArray caps.toArray), (44, .agg (pcs s.cell).toArray), (45, .bool true), (46, .bool false), (47, .bool false), (48, .agg (pcs s.cell).toArray), (49, .agg (pcs b).toArray), (50, .bool false), (51, .bool false), (52, .pointer (some ⟨g9, 0, none⟩)), (53, .pointer (some ⟨g9, 2, none⟩)), (54, .agg (tcs s.x.next).toArray), (55, .agg (a3 s).toArray), (56, .int .i64 3), (57, .bool false), (67, .int .i64 3), (68, .int .i64 1), (69, .bool true), (81, .int .i64 1)] ∧ Mem w0 w_ ((.arr g5 23 (pcs b)) :: (.arr g9 87 (a3 ⟨X1, X2, s.z⟩)) :: (.arr g69 70 (tcs F3)) :: V60)) ?_ ?_
  · refine wp_block ?_
    refine wp_seq_k fun K150 hK150 => ?_
    refine plStart ?_
    refine lk (v := .int .i64 1) rfl rfl rfl ?_
    refine lk (v := .int .i64 1) rfl rfl rfl ?_
    refine plD ?_
    refine then_normal (hK150 _ _ ?_)
    refine wp_seq_k fun K151 hK151 => ?_
    refine mgStart hm145 (by kernel_rfl) ?_
    intro w153 hm152
    clear hm145
    refine mgTake (i := 0) (v := .agg (tcs F3).toArray) rfl (by kernel_rfl) (wn rfl) (fun _ _ _ h => h) hm152 (fun w_ h_ => gLoadAg (vs := tcs F3) (k := 0) 2 h_ rfl (by kernel_rfl) (by kernel_rfl) (.tmp 11) Ty.ag_voxel_ray_time rfl (litEv (by kernel_rfl))) ?_
    refine mP rfl ?_
    refine mk_ (i := 1) (v := .int .i64 1) rfl rfl (fun _ _ _ h => h) hm152 rfl ?_
    refine mgTake (i := 2) (v := .pointer (some ⟨g9, 4, none⟩)) rfl (by kernel_rfl) (wn rfl) (fun _ _ _ h => h) hm152 (fun w_ h_ => iaRun (b := g9) (off := 0) (s := 4) (n := 3) (kk := .i64) (.tmp 6) (.tmp 72) 1 Ty.und_3_ray_axis (by kernel_rfl) rfl (litEv (by kernel_rfl)) (litEv (by kernel_rfl)) rfl (by decide)) ?_
    refine mP rfl ?_
    refine mk_ (i := 3) (v := .pointer (some ⟨g9, 6, none⟩)) rfl rfl (fun _ _ _ h => h) hm152 rfl ?_
    refine mgTake (i := 4) (v := .agg (tcs s.y.next).toArray) rfl (by kernel_rfl) (wn rfl) (fun _ _ _ h => h) hm152 (fun w_ h_ => gLoadAg (vs := tcs s.y.next) (k := 6) 1 h_ rfl (by kernel_rfl) (by kernel_rfl) (.tmp 74) Ty.ag_voxel_ray_time rfl (litEv (by kernel_rfl))) ?_
    refine mP rfl ?_
    refine mgCall (i := 5) 37 [.agg (tcs F3).toArray, .agg (tcs s.y.next).toArray] [] [] (by kernel_rfl) rfl (by kernel_rfl) (wn rfl) rfl (litEv (by kernel_rfl)) (litArgs (by kernel_rfl)) (before_any F3 s.y.next sF3 by_.1 _) ?_
    rintro e w154 ⟨rfl, hbz⟩
    have hm155 := hm152.below hbz
    clear hbz hm152
    refine ⟨_, rfl, hm155, ?_⟩
    refine mP rfl ?_
    rcases bool_or (tltb F3 s.y.next) with h156 | h156
    · rw [h156]
      refine mk_ (i := 6) (v := .bool true) rfl rfl (fun _ _ _ h => h) hm155 rfl ?_
      refine mgDone (by kernel_rfl) ?_
      refine then_normal (hK151 _ _ ?_)
      refine wp_cond_true (litEv (by kernel_rfl)) ?_
      refine plStart ?_
      refine lk (v := .int .i64 1) rfl rfl rfl ?_
      refine litVal (v := .pointer (some ⟨g9, 4, none⟩)) rfl (wn rfl) (iaRun (b := g9) (off := 0) (s := 4) (n := 3) (kk := .i64) (.tmp 6) (.tmp 78) 1 Ty.und_3_ray_axis (by kernel_rfl) rfl (litEv (by kernel_rfl)) (litEv (by kernel_rfl)) rfl (by decide)) rfl (by decide) ?_
      refine plCall (i := 2) 49 [.pointer (some ⟨g9, 4, none⟩)] [] [] rfl (by kernel_rfl) (wn rfl) rfl (litEv (by kernel_rfl)) (litArgs (by kernel_rfl)) (cross1_any g9 (⟨X1, s.y, s.z⟩) (by have h_ := by_.2.1; show -1073741824 ≤ s.y.pos ∧ s.y.pos ≤ 1073741824; omega) by_.2.2 by_.1.1 (Mem.front 1 hm155 rfl)) ?_
      rintro e w157 ⟨rfl, hm158⟩
      replace hm158 := Mem.back (M := ((.arr g5 23 (pcs b)) :: (.arr g9 87 (a3 ⟨X1, s.y, s.z⟩)) :: (.arr g69 70 (tcs F3)) :: V60)) 1 hm158
      simp only [List.set_cons_succ, List.set_cons_zero] at hm158
      clear hm155
      refine ⟨_, rfl, ?_⟩
      refine qP rfl ?_
      refine plD ?_
      refine inBlock_normal ?_
      refine then_normal ?_
      have e_ : X2 = s.y.inc := by rw [← hX2, over_no h156]
      exact ⟨⟨litSize, rfl, ⟨litGet (by kernel_rfl), ⟨litGet (by kernel_rfl), ⟨litGet (by kernel_rfl), ⟨litGet (by kernel_rfl), ⟨litGet (by kernel_rfl), ⟨litGet (by kernel_rfl), ⟨litGet (by kernel_rfl), ⟨litGet (by kernel_rfl), ⟨litGet (by kernel_rfl), ⟨litGet (by kernel_rfl), ⟨litGet (by kernel_rfl), ⟨litGet (by kernel_rfl), ⟨litGet (by kernel_rfl), ⟨litGet (by kernel_rfl), ⟨litGet (by kernel_rfl), ⟨litGet (by kernel_rfl), ⟨litGet (by kernel_rfl), ⟨litGet (by kernel_rfl), ⟨litGet (by kernel_rfl), ⟨litGet (by kernel_rfl), ⟨litGet (by kernel_rfl), ⟨litGet (by kernel_rfl), ⟨litGet (by kernel_rfl), ⟨litGet (by kernel_rfl), ⟨litGet (by kernel_rfl), ⟨litGet (by kernel_rfl), ⟨litGet (by kernel_rfl), ⟨litGet (by kernel_rfl), ⟨litGet (by kernel_rfl), ⟨litGet (by kernel_rfl), ⟨litGet (by kernel_rfl), ⟨litGet (by kernel_rfl), ⟨litGet (by kernel_rfl), ⟨litGet (by kernel_rfl), trivial⟩⟩⟩⟩⟩⟩⟩⟩⟩⟩⟩⟩⟩⟩⟩⟩⟩⟩⟩⟩⟩⟩⟩⟩⟩⟩⟩⟩⟩⟩⟩⟩⟩⟩⟩, (by rw [e_]; exact hm158.sub (by simp [List.sublist_cons_iff]))⟩
    rw [h156]
    refine mk_ (i := 6) (v := .bool false) rfl rfl (fun _ _ _ h => h) hm155 rfl ?_
    refine mgDone (by kernel_rfl) ?_
    refine then_normal (hK151 _ _ ?_)
    refine wp_cond_false (litEv (by kernel_rfl)) ?_
    refine wp_skip ?_
    refine inBlock_normal ?_
    refine then_normal ?_
    have e_ : X2 = s.y := by rw [← hX2, over_yes h156]
    exact ⟨⟨litSize, rfl, ⟨litGet (by kernel_rfl), ⟨litGet (by kernel_rfl), ⟨litGet (by kernel_rfl), ⟨litGet (by kernel_rfl), ⟨litGet (by kernel_rfl), ⟨litGet (by kernel_rfl), ⟨litGet (by kernel_rfl), ⟨litGet (by kernel_rfl), ⟨litGet (by kernel_rfl), ⟨litGet (by kernel_rfl), ⟨litGet (by kernel_rfl), ⟨litGet (by kernel_rfl), ⟨litGet (by kernel_rfl), ⟨litGet (by kernel_rfl), ⟨litGet (by kernel_rfl), ⟨litGet (by kernel_rfl), ⟨litGet (by kernel_rfl), ⟨litGet (by kernel_rfl), ⟨litGet (by kernel_rfl), ⟨litGet (by kernel_rfl), ⟨litGet (by kernel_rfl), ⟨litGet (by kernel_rfl), ⟨litGet (by kernel_rfl), ⟨litGet (by kernel_rfl), ⟨litGet (by kernel_rfl), ⟨litGet (by kernel_rfl), ⟨litGet (by kernel_rfl), ⟨litGet (by kernel_rfl), ⟨litGet (by kernel_rfl), ⟨litGet (by kernel_rfl), ⟨litGet (by kernel_rfl), ⟨litGet (by kernel_rfl), ⟨litGet (by kernel_rfl), ⟨litGet (by kernel_rfl), trivial⟩⟩⟩⟩⟩⟩⟩⟩⟩⟩⟩⟩⟩⟩⟩⟩⟩⟩⟩⟩⟩⟩⟩⟩⟩⟩⟩⟩⟩⟩⟩⟩⟩⟩⟩, (by rw [e_]; exact hm155.sub (by simp [List.sublist_cons_iff]))⟩
  clear hm145
  intro a161 w159 hI_
  obtain ⟨hF_, hm160⟩ := hI_
  obtain ⟨X162, rfl⟩ := frLit hF_
  clear hF_
  refine plStart ?_
  refine lk (v := .int .i64 2) rfl rfl rfl ?_
  refine lk (v := .int .i64 2) rfl rfl rfl ?_
  refine plD ?_
  refine then_normal (roundsNext ?_)
  refine wp_seq_k fun K163 hK163 => ?_
  refine plStart ?_
  refine lk (v := .bool true) rfl rfl rfl ?_
  refine plD ?_
  refine then_normal (hK163 _ _ ?_)
  refine wp_seq_k fun K164 hK164 => ?_
  refine wp_cond_true (litEv (by kernel_rfl)) ?_
  refine wp_skip ?_
  refine then_normal (hK164 _ _ ?_)
  refine gwCut (fun a_ w_ => Fr a_ 82 [(2, .func (.func vf) first.toArray caps.toArray), (4, .pointer (some ⟨g5, 0, none⟩)), (6, .pointer (some ⟨g9, 0, none⟩)), (10, .pointer (some ⟨g53, 0, none⟩)), (11, .pointer (some ⟨g69, 0, none⟩)), (33, .pointer (some ⟨g9, 0, none⟩)), (34, .pointer (some ⟨g9, 0, none⟩)), (35, .int .i64 s.x.pos), (36, .pointer (some ⟨g9, 4, none⟩)), (37, .pointer (some ⟨g9, 4, none⟩)), (38, .int .i64 s.y.pos), (39, .pointer (some ⟨g9, 8, none⟩)), (40, .pointer (some ⟨g9, 8, none⟩)), (41, .int .i64 s.z.pos), (42, .agg (pcs s.cell).toArray), (43, .func (.func vf) first.toArray caps.toArray), (44, .agg (pcs s.cell).toArray), (45, .bool true), (46, .bool false), (47, .bool false), (48, .agg (pcs s.cell).toArray), (49, .agg (pcs b).toArray), (50, .bool false), (51, .bool false), (52, .pointer (some ⟨g9, 0, none⟩)), (53, .pointer (some ⟨g9, 2, none⟩)), (54, .agg (tcs s.x.next).toArray), (55, .agg (a3 s).toArray), (56, .int .i64 3), (57, .bool false), (67, .int .i64 3), (68, .int .i64 2), (69, .bool true), (81, .int .i64 2)] ∧ Mem w0 w_ ((.arr g5 23 (pcs b)) :: (.arr g9 87 (a3 ⟨X1, X2, X3⟩)) :: (.arr g69 70 (tcs F3)) :: V60)) ?_ ?_
  · refine wp_block ?_
    refine wp_seq_k fun K165 hK165 => ?_
    refine plStart ?_
    refine lk (v := .int .i64 2) rfl rfl rfl ?_
    refine lk (v := .int .i64 2) rfl rfl rfl ?_
    refine plD ?_
    refine then_normal (hK165 _ _ ?_)
    refine wp_seq_k fun K166 hK166 => ?_
    refine mgStart hm160 (by kernel_rfl) ?_
    intro w168 hm167
    clear hm160
    refine mgTake (i := 0) (v := .agg (tcs F3).toArray) rfl (by kernel_rfl) (wn rfl) (fun _ _ _ h => h) hm167 (fun w_ h_ => gLoadAg (vs := tcs F3) (k := 0) 2 h_ rfl (by kernel_rfl) (by kernel_rfl) (.tmp 11) Ty.ag_voxel_ray_time rfl (litEv (by kernel_rfl))) ?_
    refine mP rfl ?_
    refine mk_ (i := 1) (v := .int .i64 2) rfl rfl (fun _ _ _ h => h) hm167 rfl ?_
    refine mgTake (i := 2) (v := .pointer (some ⟨g9, 8, none⟩)) rfl (by kernel_rfl) (wn rfl) (fun _ _ _ h => h) hm167 (fun w_ h_ => iaRun (b := g9) (off := 0) (s := 4) (n := 3) (kk := .i64) (.tmp 6) (.tmp 72) 2 Ty.und_3_ray_axis (by kernel_rfl) rfl (litEv (by kernel_rfl)) (litEv (by kernel_rfl)) rfl (by decide)) ?_
    refine mP rfl ?_
    refine mk_ (i := 3) (v := .pointer (some ⟨g9, 10, none⟩)) rfl rfl (fun _ _ _ h => h) hm167 rfl ?_
    refine mgTake (i := 4) (v := .agg (tcs s.z.next).toArray) rfl (by kernel_rfl) (wn rfl) (fun _ _ _ h => h) hm167 (fun w_ h_ => gLoadAg (vs := tcs s.z.next) (k := 10) 1 h_ rfl (by kernel_rfl) (by kernel_rfl) (.tmp 74) Ty.ag_voxel_ray_time rfl (litEv (by kernel_rfl))) ?_
    refine mP rfl ?_
    refine mgCall (i := 5) 37 [.agg (tcs F3).toArray, .agg (tcs s.z.next).toArray] [] [] (by kernel_rfl) rfl (by kernel_rfl) (wn rfl) rfl (litEv (by kernel_rfl)) (litArgs (by kernel_rfl)) (before_any F3 s.z.next sF3 bz.1 _) ?_
    rintro e w169 ⟨rfl, hbz⟩
    have hm170 := hm167.below hbz
    clear hbz hm167
    refine ⟨_, rfl, hm170, ?_⟩
    refine mP rfl ?_
    rcases bool_or (tltb F3 s.z.next) with h171 | h171
    · rw [h171]
      refine mk_ (i := 6) (v := .bool true) rfl rfl (fun _ _ _ h => h) hm170 rfl ?_
      refine mgDone (by kernel_rfl) ?_
      refine then_normal (hK166 _ _ ?_)
      refine wp_cond_true (litEv (by kernel_rfl)) ?_
      refine plStart ?_
      refine lk (v := .int .i64 2) rfl rfl rfl ?_
      refine litVal (v := .pointer (some ⟨g9, 8, none⟩)) rfl (wn rfl) (iaRun (b := g9) (off := 0) (s := 4) (n := 3) (kk := .i64) (.tmp 6) (.tmp 78) 2 Ty.und_3_ray_axis (by kernel_rfl) rfl (litEv (by kernel_rfl)) (litEv (by kernel_rfl)) rfl (by decide)) rfl (by decide) ?_
      refine plCall (i := 2) 49 [.pointer (some ⟨g9, 8, none⟩)] [] [] rfl (by kernel_rfl) (wn rfl) rfl (litEv (by kernel_rfl)) (litArgs (by kernel_rfl)) (cross2_any g9 (⟨X1, X2, s.z⟩) (by have h_ := bz.2.1; show -1073741824 ≤ s.z.pos ∧ s.z.pos ≤ 1073741824; omega) bz.2.2 bz.1.1 (Mem.front 1 hm170 rfl)) ?_
      rintro e w172 ⟨rfl, hm173⟩
      replace hm173 := Mem.back (M := ((.arr g5 23 (pcs b)) :: (.arr g9 87 (a3 ⟨X1, X2, s.z⟩)) :: (.arr g69 70 (tcs F3)) :: V60)) 1 hm173
      simp only [List.set_cons_succ, List.set_cons_zero] at hm173
      clear hm170
      refine ⟨_, rfl, ?_⟩
      refine qP rfl ?_
      refine plD ?_
      refine inBlock_normal ?_
      refine then_normal ?_
      have e_ : X3 = s.z.inc := by rw [← hX3, over_no h171]
      exact ⟨⟨litSize, rfl, ⟨litGet (by kernel_rfl), ⟨litGet (by kernel_rfl), ⟨litGet (by kernel_rfl), ⟨litGet (by kernel_rfl), ⟨litGet (by kernel_rfl), ⟨litGet (by kernel_rfl), ⟨litGet (by kernel_rfl), ⟨litGet (by kernel_rfl), ⟨litGet (by kernel_rfl), ⟨litGet (by kernel_rfl), ⟨litGet (by kernel_rfl), ⟨litGet (by kernel_rfl), ⟨litGet (by kernel_rfl), ⟨litGet (by kernel_rfl), ⟨litGet (by kernel_rfl), ⟨litGet (by kernel_rfl), ⟨litGet (by kernel_rfl), ⟨litGet (by kernel_rfl), ⟨litGet (by kernel_rfl), ⟨litGet (by kernel_rfl), ⟨litGet (by kernel_rfl), ⟨litGet (by kernel_rfl), ⟨litGet (by kernel_rfl), ⟨litGet (by kernel_rfl), ⟨litGet (by kernel_rfl), ⟨litGet (by kernel_rfl), ⟨litGet (by kernel_rfl), ⟨litGet (by kernel_rfl), ⟨litGet (by kernel_rfl), ⟨litGet (by kernel_rfl), ⟨litGet (by kernel_rfl), ⟨litGet (by kernel_rfl), ⟨litGet (by kernel_rfl), ⟨litGet (by kernel_rfl), trivial⟩⟩⟩⟩⟩⟩⟩⟩⟩⟩⟩⟩⟩⟩⟩⟩⟩⟩⟩⟩⟩⟩⟩⟩⟩⟩⟩⟩⟩⟩⟩⟩⟩⟩⟩, (by rw [e_]; exact hm173.sub (by simp [List.sublist_cons_iff]))⟩
    rw [h171]
    refine mk_ (i := 6) (v := .bool false) rfl rfl (fun _ _ _ h => h) hm170 rfl ?_
    refine mgDone (by kernel_rfl) ?_
    refine then_normal (hK166 _ _ ?_)
    refine wp_cond_false (litEv (by kernel_rfl)) ?_
    refine wp_skip ?_
    refine inBlock_normal ?_
    refine then_normal ?_
    have e_ : X3 = s.z := by rw [← hX3, over_yes h171]
    exact ⟨⟨litSize, rfl, ⟨litGet (by kernel_rfl), ⟨litGet (by kernel_rfl), ⟨litGet (by kernel_rfl), ⟨litGet (by kernel_rfl), ⟨litGet (by kernel_rfl), ⟨litGet (by kernel_rfl), ⟨litGet (by kernel_rfl), ⟨litGet (by kernel_rfl), ⟨litGet (by kernel_rfl), ⟨litGet (by kernel_rfl), ⟨litGet (by kernel_rfl), ⟨litGet (by kernel_rfl), ⟨litGet (by kernel_rfl), ⟨litGet (by kernel_rfl), ⟨litGet (by kernel_rfl), ⟨litGet (by kernel_rfl), ⟨litGet (by kernel_rfl), ⟨litGet (by kernel_rfl), ⟨litGet (by kernel_rfl), ⟨litGet (by kernel_rfl), ⟨litGet (by kernel_rfl), ⟨litGet (by kernel_rfl), ⟨litGet (by kernel_rfl), ⟨litGet (by kernel_rfl), ⟨litGet (by kernel_rfl), ⟨litGet (by kernel_rfl), ⟨litGet (by kernel_rfl), ⟨litGet (by kernel_rfl), ⟨litGet (by kernel_rfl), ⟨litGet (by kernel_rfl), ⟨litGet (by kernel_rfl), ⟨litGet (by kernel_rfl), ⟨litGet (by kernel_rfl), ⟨litGet (by kernel_rfl), trivial⟩⟩⟩⟩⟩⟩⟩⟩⟩⟩⟩⟩⟩⟩⟩⟩⟩⟩⟩⟩⟩⟩⟩⟩⟩⟩⟩⟩⟩⟩⟩⟩⟩⟩⟩, (by rw [e_]; exact hm170.sub (by simp [List.sublist_cons_iff]))⟩
  clear hm160
  intro a176 w174 hI_
  obtain ⟨hF_, hm175⟩ := hI_
  obtain ⟨X177, rfl⟩ := frLit hF_
  clear hF_
  refine plStart ?_
  refine lk (v := .int .i64 3) rfl rfl rfl ?_
  refine lk (v := .int .i64 3) rfl rfl rfl ?_
  refine plD ?_
  refine then_normal (roundsNext ?_)
  refine wp_seq_k fun K178 hK178 => ?_
  refine plStart ?_
  refine lk (v := .bool false) rfl rfl rfl ?_
  refine plD ?_
  refine then_normal (hK178 _ _ ?_)
  refine wp_seq_k fun K179 hK179 => ?_
  refine wp_cond_false (litEv (by kernel_rfl)) ?_
  refine wp_exit ?_
  refine then_exit ?_
  refine then_exit ?_
  refine inBlock_exit ?_
  refine inBlock_normal ?_
  refine then_normal ?_
  rw [if_neg h67] at hi
  have hg_ := go_ok hs h67
  have hmE_ : Mem w0 w174 ((.arr g5 23 (pcs b)) :: (.arr g9 87 (a3 s.go)) :: V60) := by rw [hgo]; exact hm175.sub (by simp [List.sublist_cons_iff])
  exact ⟨_, by omega, (i + 1), s.go, V60, rfl, hg_.1, (drop_get hi).2, (hc62 h66), ⟨litSize, rfl, ⟨litGet (by kernel_rfl), ⟨litGet (by kernel_rfl), ⟨litGet (by kernel_rfl), trivial⟩⟩⟩⟩, hmE_⟩
end Go.Proofs.Ytopdcdjmiepdfaa
namespace Go.Proofs.Ytopdcdjmiepdfaa
open Go.RowKit
set_option linter.unusedVariables false
set_option linter.unusedSimpArgs false
theorem ptsC_take {l : List Pt} {i : Nat} {p : Pt} (h : l[i]? = some p) : ptsC (l.take i) ++ pcs p = ptsC (l.take (i + 1)) := by
  rw [List.take_add_one, h, ptsC_app]
  rfl
theorem ptsC_snoc (l : List Pt) (p : Pt) : ptsC l ++ pcs p = ptsC (l ++ [p]) := by rw [ptsC_app]; rfl
theorem ptsC_split (l : List Pt) (k : Nat) : ptsC l = ptsC (l.take k) ++ ptsC (l.drop k) := by rw [← ptsC_app, List.take_append_drop]
theorem ptsC_tklen {l : List Pt} {k : Nat} (h : k ≤ l.length) : (ptsC (l.take k)).length = k * 3 := by rw [ptsC_len, List.length_take, Nat.min_eq_left h]
theorem ptsC_tk {l : List Pt} {k : Nat} (h : k ≤ l.length) : [] ++ (ptsC l).take (k * 3) = ptsC (l.take k) := by
  rw [List.nil_append, ptsC_split l k, List.take_left' (ptsC_tklen h)]
theorem ptsC_dp {l : List Pt} {k : Nat} (h : k ≤ l.length) : ptsC (l.drop k) = (ptsC l).drop (k * 3) := by
  rw [ptsC_split l k, List.drop_left' (ptsC_tklen h)]
theorem ptsC_one (l : List Pt) : ∀ u ∈ ptsC l, u.oneCell' = true := by
  intro u hu
  obtain ⟨p, _, hp⟩ := List.mem_flatMap.1 hu
  unfold pcs at hp
  simp only [List.mem_cons, List.not_mem_nil, or_false] at hp
  rcases hp with rfl | rfl | rfl <;> rfl
theorem inside_tm {a b p : Pt} (ha : a.rng) (hb : b.rng) (hp : p.rng) : Tm30 (insideT a b p).a ∧ Tm30 (insideT a b p).b := by
  have hs : (((alongT a.x b.x p.x).meet (alongT a.y b.y p.y)).meet (alongT a.z b.z p.z)).sm := meet_sm (meet_sm (along_sm ha.1 hb.1 hp.1) (along_sm ha.2.1 hb.2.1 hp.2.1)) (along_sm ha.2.2 hb.2.2 hp.2.2)
  exact hs
/-- What Walk returns. -/
def walkR (a b : Pt) : List Pt := if ckE a b = 0 then walk a b else []
set_option maxRecDepth 100000 in
set_option maxHeartbeats 4000000 in
theorem visWalk_any {w0 w : World} (l : List Pt) (hl : l.length ≤ 1000000) (g : Nat) (i : Nat) (p : Pt) (V M : List Res) (hc : l[i]? = some p) (hV : ∃ v, V = [.arr g 26 [v], .row v 23 3 i (ptsC (l.take i))]) (hm : Mem w0 w (V ++ M)) : Calls Try.prog 33 #[.agg (pcs p).toArray, .pointer (some ⟨g, 0, none⟩)] w (fun e w' => ∃ t V', e = .returned (.bool t) ∧ Mem w0 w' (V' ++ M) ∧ (t = true → ∃ v, V' = [.arr g 26 [v], .row v 23 3 (i + 1) (ptsC (l.take (i + 1)))]) ∧ (t = false → False)) := by
  obtain ⟨v, rfl⟩ := hV
  have hil := (List.getElem?_eq_some_iff.1 hc).1
  replace hm : Mem w0 w (.arr g 26 [v] :: .row v 23 3 i (ptsC (l.take i)) :: M) := hm
  have hm0 := hm
  go_enter Try.func33, Try.ntmps33
  refine litStart 8 [(0, .agg (pcs p).toArray), (1, .pointer (some ⟨g, 0, none⟩))] (by kernel_rfl) (fun X0 => ?_)
  refine wp_seq_k fun K1 hK1 => ?_
  refine plStart ?_
  refine plBox hm0 (cs := pcs p) (i := 0) rfl (wn rfl) rfl (litEv (by kernel_rfl)) ?_
  intro g2 w4 hm3
  clear hm0
  try simp only [List.cons_append, List.nil_append, List.set_cons_succ, List.set_cons_zero] at hm3
  replace hm3 := Mem.insAt (M := ((.arr g 26 ([v])) :: (.row v 23 3 i (ptsC (l.take i))) :: M)) 2 hm3
  simp only [List.insertIdx_succ_cons, List.insertIdx_zero] at hm3
  refine qP rfl ?_
  refine lk (v := .bool false) rfl rfl rfl ?_
  refine plD ?_
  refine then_normal (hK1 _ _ ?_)
  refine wp_seq_k fun K5 hK5 => ?_
  refine plStart ?_
  obtain ⟨A6, c7, rfl⟩ := Mem.rowSl (v := v) (e := 23) (size := 3) (n := i) (xs := ptsC (l.take i)) 1 hm3 rfl
  refine litVal (v := .slice A6 i c7) rfl (wn rfl) (gLoad (v := .slice A6 i c7) (k := 0) 0 hm3 rfl (by kernel_rfl) (.tmp 1) (by kernel_rfl) rfl (litEv (by kernel_rfl))) rfl (by decide) ?_
  refine litVal (v := .agg (pcs p).toArray) rfl (wn rfl) (gLoadAg (vs := pcs p) (k := 0) 2 hm3 rfl (by kernel_rfl) (by kernel_rfl) (.tmp 2) Ty.ag_voxel_api_Point rfl (litEv (by kernel_rfl))) rfl (by decide) ?_
  refine plLit (cs := [.int .i64 p.x, .int .i64 p.y, .int .i64 p.z]) (n := 1) Ty.sl_L_api_Point hm3 (i := 2) rfl (wn rfl) rfl (by decide) (by decide) (by rw [lit_eval]; kernel_rfl) ?_
  intro g8 w10 hm9
  clear hm3
  try simp only [List.cons_append, List.nil_append, List.set_cons_succ, List.set_cons_zero] at hm9
  replace hm9 := Mem.insAt (M := ((.arr g 26 ([.slice A6 i c7])) :: (.row (.slice A6 i c7) 23 3 i (ptsC (l.take i))) :: (.arr g2 23 (pcs p)) :: M)) 3 hm9
  simp only [List.insertIdx_succ_cons, List.insertIdx_zero] at hm9
  refine qP rfl ?_
  refine plApp1 (v := .slice A6 i c7) (n := i) (xs := ptsC (l.take i)) (ys := [.int .i64 p.x, .int .i64 p.y, .int .i64 p.z]) 1 3 Ty.sl_L_api_Point hm9 rfl rfl (i := 3) rfl (wn rfl) rfl (litEv (by kernel_rfl)) (litEv (by kernel_rfl)) (by kernel_rfl) (by kernel_rfl) (by omega) (by omega) ?_
  intro v15 w12 hm11
  clear hm9
  try simp only [List.cons_append, List.nil_append, List.set_cons_succ, List.set_cons_zero] at hm11
  obtain ⟨A13, c14, rfl⟩ := Mem.rowSl (v := v15) (e := 23) (size := 3) (n := i + 1) (xs := (ptsC (l.take i)) ++ ([.int .i64 p.x, .int .i64 p.y, .int .i64 p.z])) 1 hm11 rfl
  refine qP rfl ?_
  refine plStore1 (v := .slice A13 (i + 1) c14) (k := 0) 0 (by kernel_rfl) hm11 rfl (i := 4) rfl (wn rfl) rfl (litEv (by kernel_rfl)) (litEv (by kernel_rfl)) rfl rfl rfl ?_
  intro w17 hm16
  clear hm11
  try simp only [List.cons_append, List.nil_append, List.set_cons_succ, List.set_cons_zero] at hm16
  refine qNone rfl ?_
  refine plD ?_
  refine then_normal (hK5 _ _ ?_)
  refine wp_seq_k fun K18 hK18 => ?_
  refine plStart ?_
  refine lk (v := .bool true) rfl rfl rfl ?_
  refine plD ?_
  refine then_normal (hK18 _ _ ?_)
  refine wp_ret ?_
  refine bodyPost_ret (v := .bool true) (gRes1 rfl (gResTmp (t := 3) (v := .bool true) (litGet (by kernel_rfl)))) rfl ?_
  exact ⟨true, _, rfl, hm16.keep 2 2, fun _ => ⟨.slice A13 (i + 1) c14, by rw [← ptsC_take hc]; rfl⟩, fun h_ => by cases h_⟩
set_option maxRecDepth 100000 in
set_option maxHeartbeats 4000000 in
theorem walk_any (a b : Pt) (w : World) : Calls Try.prog 10 #[.agg (pcs a).toArray, .agg (pcs b).toArray] w (fun e w' => ∃ v, e = .returned (.tuple #[v, .int .i64 (ckE a b)]) ∧ w'.ownsRow w.heap.size 23 3 v (walkR a b).length (ptsC (walkR a b)) ∧ Below w.heap.size w w') := by
  have hwl0 : ckE a b = 0 → (walk a b).length ≤ 1000000 := fun h => by have h1 := walk_len a b; have h2 := (ckE_ok h).2.2; omega
  have hm0 := Mem.nil w
  go_enter Try.func10, Try.ntmps10
  refine litStart 19 [(0, .agg (pcs a).toArray), (1, .agg (pcs b).toArray)] (by kernel_rfl) (fun X0 => ?_)
  refine wp_seq_k fun K1 hK1 => ?_
  refine plStart ?_
  refine plBox hm0 (cs := pcs a) (i := 0) rfl (wn rfl) rfl (litEv (by kernel_rfl)) ?_
  intro g2 w4 hm3
  clear hm0
  try simp only [List.cons_append, List.nil_append, List.set_cons_succ, List.set_cons_zero] at hm3
  refine qP rfl ?_
  refine plBox hm3 (cs := pcs b) (i := 1) rfl (wn rfl) rfl (litEv (by kernel_rfl)) ?_
  intro g5 w7 hm6
  clear hm3
  try simp only [List.cons_append, List.nil_append, List.set_cons_succ, List.set_cons_zero] at hm6
  refine qP rfl ?_
  refine lk (v := .slice none 0 0) rfl rfl rfl ?_
  refine lk (v := .int .i64 0) rfl rfl rfl ?_
  refine plD ?_
  refine then_normal (hK1 _ _ ?_)
  refine wp_seq_k fun K8 hK8 => ?_
  refine wp_seq_k fun K9 hK9 => ?_
  refine plStart ?_
  refine litVal (v := .agg (pcs a).toArray) rfl (wn rfl) (gLoadAg (vs := pcs a) (k := 0) 0 hm6 rfl (by kernel_rfl) (by kernel_rfl) (.tmp 2) Ty.ag_voxel_api_Point rfl (litEv (by kernel_rfl))) rfl (by decide) ?_
  refine litVal (v := .agg (pcs b).toArray) rfl (wn rfl) (gLoadAg (vs := pcs b) (k := 0) 1 hm6 rfl (by kernel_rfl) (by kernel_rfl) (.tmp 3) Ty.ag_voxel_api_Point rfl (litEv (by kernel_rfl))) rfl (by decide) ?_
  refine plCall (i := 2) 31 [.agg (pcs a).toArray, .agg (pcs b).toArray] [] [] rfl (by kernel_rfl) (wn rfl) rfl (litEv (by kernel_rfl)) (litArgs (by kernel_rfl)) (check_any a b _) ?_
  rintro e w10 ⟨rfl, hbz⟩
  have hm11 := hm6.below hbz
  clear hbz hm6
  refine ⟨_, rfl, ?_⟩
  refine qP rfl ?_
  refine lk (v := .int .i64 (ckE a b)) rfl rfl rfl ?_
  refine plD ?_
  refine then_normal (hK9 _ _ ?_)
  refine wp_seq_k fun K12 hK12 => ?_
  refine plStart ?_
  refine lk (v := .int .i64 (ckE a b)) rfl rfl rfl ?_
  by_cases h13 : (ckE a b) = 0
  · have hwl := hwl0 h13
    refine litVal (v := .bool false) rfl (wn rfl) (boolTo (by rw [decide_eq_true h13]; rfl) (neqRun (A := (ckE a b)) (B := 0) (.tmp 11) (.const (.int .i64 0)) rfl (litEv (by kernel_rfl)) (litEv (by kernel_rfl)))) rfl (by decide) ?_
    refine plD ?_
    refine then_normal (hK12 _ _ ?_)
    refine wp_cond_false (litEv (by kernel_rfl)) ?_
    refine wp_skip ?_
    refine then_normal (hK8 _ _ ?_)
    refine wp_seq_k fun K14 hK14 => ?_
    refine plStart ?_
    refine plAlloc1 (v := .slice none 0 0) (by kernel_rfl) hm11 (i := 0) rfl (wn rfl) rfl ?_
    intro g15 w17 hm16
    clear hm11
    try simp only [List.cons_append, List.nil_append, List.set_cons_succ, List.set_cons_zero] at hm16
    refine qP rfl ?_
    refine plD ?_
    refine then_normal (hK14 _ _ ?_)
    refine wp_seq_k fun K18 hK18 => ?_
    refine plStart ?_
    refine litVal (v := .agg (pcs a).toArray) rfl (wn rfl) (gLoadAg (vs := pcs a) (k := 0) 0 hm16 rfl (by kernel_rfl) (by kernel_rfl) (.tmp 2) Ty.ag_voxel_api_Point rfl (litEv (by kernel_rfl))) rfl (by decide) ?_
    refine litVal (v := .agg (pcs b).toArray) rfl (wn rfl) (gLoadAg (vs := pcs b) (k := 0) 1 hm16 rfl (by kernel_rfl) (by kernel_rfl) (.tmp 3) Ty.ag_voxel_api_Point rfl (litEv (by kernel_rfl))) rfl (by decide) ?_
    refine lk (v := .func (.func 33) #[] #[.pointer (some ⟨g15, 0, none⟩)]) rfl rfl rfl ?_
    refine plCall (i := 3) 32 [.agg (pcs a).toArray, .agg (pcs b).toArray, .func (.func 33) #[] #[.pointer (some ⟨g15, 0, none⟩)]] [] [] rfl (by kernel_rfl) (wn rfl) rfl (litEv (by kernel_rfl)) (litArgs (by kernel_rfl)) (each_any a b (ckE_ok h13).1 (ckE_ok h13).2.1 33 [] [.pointer (some ⟨g15, 0, none⟩)] (by kernel_rfl) (fun i V => ∃ v, V = [.arr g15 26 [v], .row v 23 3 i (ptsC ((walk a b).take i))]) (fun V => ∃ v, V = [.arr g15 26 [v], .row v 23 3 (walk a b).length (ptsC (walk a b))]) (fun i c w V M hc hV hm => (visWalk_any (walk a b) hwl g15 i c V M hc hV hm).mono (fun e w h => by obtain ⟨t, V, h1, h2, h3, h4⟩ := h; exact ⟨t, V, h1, h2, h3, fun h => (h4 h).elim⟩)) (fun V h => by simpa using h) [.arr g15 26 [.slice none 0 0], .row (.slice none 0 0) 23 3 0 []] ⟨_, rfl⟩ ((hm16.nilRow 23 3).sub (by simp [List.sublist_cons_iff]))) ?_
    rintro e w19 ⟨rfl, V_, hm20, v21, rfl⟩
    clear hm16
    obtain ⟨A22, c23, rfl⟩ := Mem.rowSl (v := v21) (e := 23) (size := 3) (n := (walk a b).length) (xs := ptsC (walk a b)) 1 hm20 rfl
    refine ⟨_, rfl, ?_⟩
    refine qP rfl ?_
    refine plD ?_
    refine then_normal (hK18 _ _ ?_)
    refine wpPrune [(4, .slice none 0 0), (5, .int .i64 0), (7, .pointer (some ⟨g15, 0, none⟩))] ⟨litGet (by kernel_rfl), ⟨litGet (by kernel_rfl), ⟨litGet (by kernel_rfl), trivial⟩⟩⟩ (fun X24 => ?_)
    refine wp_seq_k fun K25 hK25 => ?_
    refine plStart ?_
    refine litVal (v := .slice A22 ((walk a b).length) c23) rfl (wn rfl) (gLoad (v := .slice A22 ((walk a b).length) c23) (k := 0) 0 hm20 rfl (by kernel_rfl) (.tmp 7) (by kernel_rfl) rfl (litEv (by kernel_rfl))) rfl (by decide) ?_
    refine lk (v := .slice A22 ((walk a b).length) c23) rfl rfl rfl ?_
    refine lk (v := .int .i64 0) rfl rfl rfl ?_
    refine plD ?_
    refine then_normal (hK25 _ _ ?_)
    refine wp_ret ?_
    refine bodyPost_ret (v := .tuple #[.slice A22 ((walk a b).length) c23, .int .i64 0]) (gRes2 rfl (gResTmp (t := 4) (v := .slice A22 ((walk a b).length) c23) (litGet (by kernel_rfl))) (gResTmp (t := 5) (v := .int .i64 0) (litGet (by kernel_rfl)))) rfl ?_
    exact ⟨.slice A22 ((walk a b).length) c23, congrArg (fun n_ => Ending.returned (.tuple #[.slice A22 ((walk a b).length) c23, .int .i64 n_])) h13.symm, by unfold walkR; rw [if_pos h13]; exact hm20.row 1 rfl, hm20.bel⟩
  refine litVal (v := .bool true) rfl (wn rfl) (boolTo (by rw [decide_eq_false h13]; rfl) (neqRun (A := (ckE a b)) (B := 0) (.tmp 11) (.const (.int .i64 0)) rfl (litEv (by kernel_rfl)) (litEv (by kernel_rfl)))) rfl (by decide) ?_
  refine plD ?_
  refine then_normal (hK12 _ _ ?_)
  refine wp_cond_true (litEv (by kernel_rfl)) ?_
  refine wp_seq_k fun K26 hK26 => ?_
  refine plStart ?_
  refine lk (v := .int .i64 (ckE a b)) rfl rfl rfl ?_
  refine lk (v := .slice none 0 0) rfl rfl rfl ?_
  refine lk (v := .int .i64 (ckE a b)) rfl rfl rfl ?_
  refine plD ?_
  refine then_normal (hK26 _ _ ?_)
  refine wp_ret ?_
  refine then_ret ?_
  refine bodyPost_ret (v := .tuple #[.slice none 0 0, .int .i64 (ckE a b)]) (gRes2 rfl (gResTmp (t := 4) (v := .slice none 0 0) (litGet (by kernel_rfl))) (gResTmp (t := 5) (v := .int .i64 (ckE a b)) (litGet (by kernel_rfl)))) rfl ?_
  exact ⟨_, rfl, by unfold walkR; rw [if_neg h13]; exact (Mem.row (Mem.nilRow hm11 23 3) 2 rfl), hm11.bel⟩
set_option maxRecDepth 100000 in
set_option maxHeartbeats 4000000 in
theorem refWalk_any (a b : Pt) (hS : ckE a b = 0 → a.dist b ≤ 12) (w : World) : Calls Try.prog 11 #[.agg (pcs a).toArray, .agg (pcs b).toArray] w (fun e w' => ∃ v, e = .returned (.tuple #[v, .int .i64 (ckE a b)]) ∧ w'.ownsRow w.heap.size 23 3 v (walkR a b).length (ptsC (walkR a b)) ∧ Below w.heap.size w w') := by
  have hm0 := Mem.nil w
  go_enter Try.func11, Try.ntmps11
  refine litStart 109 [(0, .agg (pcs a).toArray), (1, .agg (pcs b).toArray)] (by kernel_rfl) (fun X0 => ?_)
  refine wp_seq_k fun K1 hK1 => ?_
  refine plStart ?_
  refine plBox hm0 (cs := pcs a) (i := 0) rfl (wn rfl) rfl (litEv (by kernel_rfl)) ?_
  intro g2 w4 hm3
  clear hm0
  try simp only [List.cons_append, List.nil_append, List.set_cons_succ, List.set_cons_zero] at hm3
  refine qP rfl ?_
  refine plBox hm3 (cs := pcs b) (i := 1) rfl (wn rfl) rfl (litEv (by kernel_rfl)) ?_
  intro g5 w7 hm6
  clear hm3
  try simp only [List.cons_append, List.nil_append, List.set_cons_succ, List.set_cons_zero] at hm6
  refine qP rfl ?_
  refine lk (v := .slice none 0 0) rfl rfl rfl ?_
  refine lk (v := .int .i64 0) rfl rfl rfl ?_
  refine plD ?_
  refine then_normal (hK1 _ _ ?_)
  refine wp_seq_k fun K8 hK8 => ?_
  refine plStart ?_
  refine litVal (v := .agg (pcs a).toArray) rfl (wn rfl) (gLoadAg (vs := pcs a) (k := 0) 0 hm6 rfl (by kernel_rfl) (by kernel_rfl) (.tmp 2) Ty.ag_voxel_api_Point rfl (litEv (by kernel_rfl))) rfl (by decide) ?_
  refine litVal (v := .agg (pcs b).toArray) rfl (wn rfl) (gLoadAg (vs := pcs b) (k := 0) 1 hm6 rfl (by kernel_rfl) (by kernel_rfl) (.tmp 3) Ty.ag_voxel_api_Point rfl (litEv (by kernel_rfl))) rfl (by decide) ?_
  refine plCall (i := 2) 30 [.agg (pcs a).toArray, .agg (pcs b).toArray] [] [] rfl (by kernel_rfl) (wn rfl) rfl (litEv (by kernel_rfl)) (litArgs (by kernel_rfl)) (refCheck_any a b _) ?_
  rintro e w9 ⟨rfl, hbz⟩
  have hm10 := hm6.below hbz
  clear hbz hm6
  refine ⟨_, rfl, ?_⟩
  refine qP rfl ?_
  refine lk (v := .int .i64 (ckE a b)) rfl rfl rfl ?_
  refine plD ?_
  refine then_normal (hK8 _ _ ?_)
  refine wp_seq_k fun K11 hK11 => ?_
  refine wp_seq_k fun K12 hK12 => ?_
  refine plStart ?_
  refine lk (v := .int .i64 (ckE a b)) rfl rfl rfl ?_
  by_cases h13 : (ckE a b) = 0
  · obtain ⟨ha, hb, hsum⟩ := ckE_ok h13
    have hd := hS h13
    unfold Pt.dist dif at hd
    have ha_ := ha
    have hb_ := hb
    unfold Pt.rng at ha_ hb_
    refine litVal (v := .bool false) rfl (wn rfl) (boolTo (by rw [decide_eq_true h13]; rfl) (neqRun (A := (ckE a b)) (B := 0) (.tmp 18) (.const (.int .i64 0)) rfl (litEv (by kernel_rfl)) (litEv (by kernel_rfl)))) rfl (by decide) ?_
    refine plD ?_
    refine then_normal (hK12 _ _ ?_)
    refine wp_cond_false (litEv (by kernel_rfl)) ?_
    refine wp_skip ?_
    refine then_normal (hK11 _ _ ?_)
    refine wp_seq_k fun K14 hK14 => ?_
    refine plStart ?_
    refine lk (v := .slice none 0 0) rfl rfl rfl ?_
    refine plD ?_
    refine then_normal (hK14 _ _ ?_)
    refine wp_seq_k fun K15 hK15 => ?_
    refine wp_seq_k fun K16 hK16 => ?_
    refine plStart ?_
    refine lk (v := .pointer (some ⟨g2, 0, none⟩)) rfl rfl rfl ?_
    refine litVal (v := .int .i64 a.x) rfl (wn rfl) (gLoad (v := .int .i64 a.x) (k := 0) 0 hm10 rfl (by kernel_rfl) (.tmp 21) (by kernel_rfl) rfl (litEv (by kernel_rfl))) rfl (by decide) ?_
    refine lk (v := .pointer (some ⟨g5, 0, none⟩)) rfl rfl rfl ?_
    refine litVal (v := .int .i64 b.x) rfl (wn rfl) (gLoad (v := .int .i64 b.x) (k := 0) 1 hm10 rfl (by kernel_rfl) (.tmp 23) (by kernel_rfl) rfl (litEv (by kernel_rfl))) rfl (by decide) ?_
    refine litVal (v := .int .i64 (min a.x b.x)) rfl (wn rfl) (gMin (.tmp 22) (.tmp 24) rfl (litEv (by kernel_rfl)) (litEv (by kernel_rfl))) rfl (by decide) ?_
    refine lk (v := .int .i64 (min a.x b.x)) rfl rfl rfl ?_
    refine plD ?_
    refine then_normal (hK16 _ _ ?_)
    refine wpPrune [(2, .pointer (some ⟨g2, 0, none⟩)), (3, .pointer (some ⟨g5, 0, none⟩)), (4, .slice none 0 0), (5, .int .i64 0), (7, .slice none 0 0), (8, .int .i64 (min a.x b.x))] ⟨litGet (by kernel_rfl), ⟨litGet (by kernel_rfl), ⟨litGet (by kernel_rfl), ⟨litGet (by kernel_rfl), ⟨litGet (by kernel_rfl), ⟨litGet (by kernel_rfl), trivial⟩⟩⟩⟩⟩⟩ (fun X17 => ?_)
    refine wp_block ?_
    refine gwLoop (fun n_ a_ w_ => ∃ (x : Int) (out : List Pt) (A : Option Addr) (c : Nat), n_ = (max a.x b.x + 1 - x).toNat ∧ (min a.x b.x ≤ x) ∧ (x ≤ max a.x b.x + 1) ∧ (OutOk a b x (min a.y b.y) (min a.z b.z) out) ∧ ((out.length : Int) ≤ (x - min a.x b.x) * 169) ∧ Fr a_ 109 [(2, .pointer (some ⟨g2, 0, none⟩)), (3, .pointer (some ⟨g5, 0, none⟩)), (4, .slice none 0 0), (5, .int .i64 0), (7, .slice A out.length c), (8, .int .i64 x)] ∧ Mem w w_ [.arr g2 23 (pcs a), .arr g5 23 (pcs b), .row (.slice A out.length c) 23 3 out.length (ptsC out)]) ((max a.x b.x + 1 - min a.x b.x).toNat) ⟨_, [], none, 0, rfl, (Int.le_refl _), (by omega), (OutOk.start a b), (by simp), ⟨litSize, rfl, ⟨litGet (by kernel_rfl), ⟨litGet (by kernel_rfl), ⟨litGet (by kernel_rfl), ⟨litGet (by kernel_rfl), ⟨litGet (by kernel_rfl), ⟨litGet (by kernel_rfl), trivial⟩⟩⟩⟩⟩⟩⟩, ((hm10.nilRow 23 3).sub (.cons_cons _ (.cons_cons _ (.cons_cons _ .slnil))))⟩ ?_
    clear hm10
    intro n_ a20 w18 hI_
    obtain ⟨x, out, A, c, rfl, hlox, hhix, hO, hN, hF_, hm19⟩ := hI_
    obtain ⟨X21, rfl⟩ := frLit hF_
    clear hF_
    refine wp_seq_k fun K22 hK22 => ?_
    refine wp_seq_k fun K23 hK23 => ?_
    refine plStart ?_
    refine lk (v := .int .i64 x) rfl rfl rfl ?_
    refine lk (v := .pointer (some ⟨g2, 0, none⟩)) rfl rfl rfl ?_
    refine litVal (v := .int .i64 a.x) rfl (wn rfl) (gLoad (v := .int .i64 a.x) (k := 0) 0 hm19 rfl (by kernel_rfl) (.tmp 27) (by kernel_rfl) rfl (litEv (by kernel_rfl))) rfl (by decide) ?_
    refine lk (v := .pointer (some ⟨g5, 0, none⟩)) rfl rfl rfl ?_
    refine litVal (v := .int .i64 b.x) rfl (wn rfl) (gLoad (v := .int .i64 b.x) (k := 0) 1 hm19 rfl (by kernel_rfl) (.tmp 29) (by kernel_rfl) rfl (litEv (by kernel_rfl))) rfl (by decide) ?_
    refine litVal (v := .int .i64 (max a.x b.x)) rfl (wn rfl) (gMax (.tmp 28) (.tmp 30) rfl (litEv (by kernel_rfl)) (litEv (by kernel_rfl))) rfl (by decide) ?_
    by_cases h24 : x ≤ (max a.x b.x)
    · refine litVal (v := .bool true) rfl (wn rfl) (boolTo (decide_eq_true h24) (leqRun (A := x) (B := (max a.x b.x)) (.tmp 26) (.tmp 31) rfl (litEv (by kernel_rfl)) (litEv (by kernel_rfl)))) rfl (by decide) ?_
      refine plD ?_
      refine then_normal (hK23 _ _ ?_)
      refine wp_cond_true (litEv (by kernel_rfl)) ?_
      refine wp_skip ?_
      refine then_normal (hK22 _ _ ?_)
      refine wp_seq_k fun K25 hK25 => ?_
      refine wp_block ?_
      refine wp_seq_k fun K26 hK26 => ?_
      refine plStart ?_
      refine lk (v := .pointer (some ⟨g2, 1, none⟩)) rfl rfl rfl ?_
      refine litVal (v := .int .i64 a.y) rfl (wn rfl) (gLoad (v := .int .i64 a.y) (k := 1) 0 hm19 rfl (by kernel_rfl) (.tmp 35) (by kernel_rfl) rfl (litEv (by kernel_rfl))) rfl (by decide) ?_
      refine lk (v := .pointer (some ⟨g5, 1, none⟩)) rfl rfl rfl ?_
      refine litVal (v := .int .i64 b.y) rfl (wn rfl) (gLoad (v := .int .i64 b.y) (k := 1) 1 hm19 rfl (by kernel_rfl) (.tmp 37) (by kernel_rfl) rfl (litEv (by kernel_rfl))) rfl (by decide) ?_
      refine litVal (v := .int .i64 (min a.y b.y)) rfl (wn rfl) (gMin (.tmp 36) (.tmp 38) rfl (litEv (by kernel_rfl)) (litEv (by kernel_rfl))) rfl (by decide) ?_
      refine lk (v := .int .i64 (min a.y b.y)) rfl rfl rfl ?_
      refine plD ?_
      refine then_normal (hK26 _ _ ?_)
      refine wp_block ?_
      refine gwLoop (fun n_ a_ w_ => ∃ (y : Int) (out : List Pt) (A : Option Addr) (c : Nat), n_ = (max a.y b.y + 1 - y).toNat ∧ (min a.y b.y ≤ y) ∧ (y ≤ max a.y b.y + 1) ∧ (OutOk a b x y (min a.z b.z) out) ∧ ((out.length : Int) ≤ (x - min a.x b.x) * 169 + (y - min a.y b.y) * 13) ∧ Fr a_ 109 [(2, .pointer (some ⟨g2, 0, none⟩)), (3, .pointer (some ⟨g5, 0, none⟩)), (4, .slice none 0 0), (5, .int .i64 0), (7, .slice A out.length c), (8, .int .i64 x), (9, .int .i64 y), (26, .int .i64 x), (27, .pointer (some ⟨g2, 0, none⟩)), (28, .int .i64 a.x), (29, .pointer (some ⟨g5, 0, none⟩)), (30, .int .i64 b.x), (31, .int .i64 (max a.x b.x)), (32, .bool true), (35, .pointer (some ⟨g2, 1, none⟩)), (36, .int .i64 a.y), (37, .pointer (some ⟨g5, 1, none⟩)), (38, .int .i64 b.y), (39, .int .i64 (min a.y b.y))] ∧ Mem w w_ [.arr g2 23 (pcs a), .arr g5 23 (pcs b), .row (.slice A out.length c) 23 3 out.length (ptsC out)]) ((max a.y b.y + 1 - min a.y b.y).toNat) ⟨_, out, A, c, rfl, (Int.le_refl _), (by omega), hO, (by omega), ⟨litSize, rfl, ⟨litGet (by kernel_rfl), ⟨litGet (by kernel_rfl), ⟨litGet (by kernel_rfl), ⟨litGet (by kernel_rfl), ⟨litGet (by kernel_rfl), ⟨litGet (by kernel_rfl), ⟨litGet (by kernel_rfl), ⟨litGet (by kernel_rfl), ⟨litGet (by kernel_rfl), ⟨litGet (by kernel_rfl), ⟨litGet (by kernel_rfl), ⟨litGet (by kernel_rfl), ⟨litGet (by kernel_rfl), ⟨litGet (by kernel_rfl), ⟨litGet (by kernel_rfl), ⟨litGet (by kernel_rfl), ⟨litGet (by kernel_rfl), ⟨litGet (by kernel_rfl), ⟨litGet (by kernel_rfl), trivial⟩⟩⟩⟩⟩⟩⟩⟩⟩⟩⟩⟩⟩⟩⟩⟩⟩⟩⟩⟩, (hm19.sub (.cons_cons _ (.cons_cons _ (.cons_cons _ .slnil))))⟩ ?_
      clear hm19
      intro n_ a29 w27 hI_
      obtain ⟨y, out, A, c, rfl, hloy, hhiy, hO, hN, hF_, hm28⟩ := hI_
      obtain ⟨X30, rfl⟩ := frLit hF_
      clear hF_
      refine wp_seq_k fun K31 hK31 => ?_
      refine wp_seq_k fun K32 hK32 => ?_
      refine plStart ?_
      refine lk (v := .int .i64 y) rfl rfl rfl ?_
      refine lk (v := .pointer (some ⟨g2, 1, none⟩)) rfl rfl rfl ?_
      refine litVal (v := .int .i64 a.y) rfl (wn rfl) (gLoad (v := .int .i64 a.y) (k := 1) 0 hm28 rfl (by kernel_rfl) (.tmp 41) (by kernel_rfl) rfl (litEv (by kernel_rfl))) rfl (by decide) ?_
      refine lk (v := .pointer (some ⟨g5, 1, none⟩)) rfl rfl rfl ?_
      refine litVal (v := .int .i64 b.y) rfl (wn rfl) (gLoad (v := .int .i64 b.y) (k := 1) 1 hm28 rfl (by kernel_rfl) (.tmp 43) (by kernel_rfl) rfl (litEv (by kernel_rfl))) rfl (by decide) ?_
      refine litVal (v := .int .i64 (max a.y b.y)) rfl (wn rfl) (gMax (.tmp 42) (.tmp 44) rfl (litEv (by kernel_rfl)) (litEv (by kernel_rfl))) rfl (by decide) ?_
      by_cases h33 : y ≤ (max a.y b.y)
      · refine litVal (v := .bool true) rfl (wn rfl) (boolTo (decide_eq_true h33) (leqRun (A := y) (B := (max a.y b.y)) (.tmp 40) (.tmp 45) rfl (litEv (by kernel_rfl)) (litEv (by kernel_rfl)))) rfl (by decide) ?_
        refine plD ?_
        refine then_normal (hK32 _ _ ?_)
        refine wp_cond_true (litEv (by kernel_rfl)) ?_
        refine wp_skip ?_
        refine then_normal (hK31 _ _ ?_)
        refine wp_seq_k fun K34 hK34 => ?_
        refine wp_block ?_
        refine wp_seq_k fun K35 hK35 => ?_
        refine plStart ?_
        refine lk (v := .pointer (some ⟨g2, 2, none⟩)) rfl rfl rfl ?_
        refine litVal (v := .int .i64 a.z) rfl (wn rfl) (gLoad (v := .int .i64 a.z) (k := 2) 0 hm28 rfl (by kernel_rfl) (.tmp 49) (by kernel_rfl) rfl (litEv (by kernel_rfl))) rfl (by decide) ?_
        refine lk (v := .pointer (some ⟨g5, 2, none⟩)) rfl rfl rfl ?_
        refine litVal (v := .int .i64 b.z) rfl (wn rfl) (gLoad (v := .int .i64 b.z) (k := 2) 1 hm28 rfl (by kernel_rfl) (.tmp 51) (by kernel_rfl) rfl (litEv (by kernel_rfl))) rfl (by decide) ?_
        refine litVal (v := .int .i64 (min a.z b.z)) rfl (wn rfl) (gMin (.tmp 50) (.tmp 52) rfl (litEv (by kernel_rfl)) (litEv (by kernel_rfl))) rfl (by decide) ?_
        refine lk (v := .int .i64 (min a.z b.z)) rfl rfl rfl ?_
        refine plD ?_
        refine then_normal (hK35 _ _ ?_)
        refine wp_block ?_
        refine gwLoop (fun n_ a_ w_ => ∃ (z : Int) (out : List Pt) (A : Option Addr) (c : Nat), n_ = (max a.z b.z + 1 - z).toNat ∧ (min a.z b.z ≤ z) ∧ (z ≤ max a.z b.z + 1) ∧ (OutOk a b x y z out) ∧ ((out.length : Int) ≤ (x - min a.x b.x) * 169 + (y - min a.y b.y) * 13 + (z - min a.z b.z)) ∧ Fr a_ 109 [(2, .pointer (some ⟨g2, 0, none⟩)), (3, .pointer (some ⟨g5, 0, none⟩)), (4, .slice none 0 0), (5, .int .i64 0), (7, .slice A out.length c), (8, .int .i64 x), (9, .int .i64 y), (10, .int .i64 z), (26, .int .i64 x), (27, .pointer (some ⟨g2, 0, none⟩)), (28, .int .i64 a.x), (29, .pointer (some ⟨g5, 0, none⟩)), (30, .int .i64 b.x), (31, .int .i64 (max a.x b.x)), (32, .bool true), (35, .pointer (some ⟨g2, 1, none⟩)), (36, .int .i64 a.y), (37, .pointer (some ⟨g5, 1, none⟩)), (38, .int .i64 b.y), (39, .int .i64 (min a.y b.y)), (40, .int .i64 y), (41, .pointer (some ⟨g2, 1, none⟩)), (42, .int .i64 a.y), (43, .pointer (some ⟨g5, 1, none⟩)), (44, .int .i64 b.y), (45, .int .i64 (max a.y b.y)), (46, .bool true), (49, .pointer (some ⟨g2, 2, none⟩)), (50, .int .i64 a.z), (51, .pointer (some ⟨g5, 2, none⟩)), (52, .int .i64 b.z), (53, .int .i64 (min a.z b.z))] ∧ Mem w w_ [.arr g2 23 (pcs a), .arr g5 23 (pcs b), .row (.slice A out.length c) 23 3 out.length (ptsC out)]) ((max a.z b.z + 1 - min a.z b.z).toNat) ⟨_, out, A, c, rfl, (Int.le_refl _), (by omega), hO, (by omega), ⟨litSize, rfl, ⟨litGet (by kernel_rfl), ⟨litGet (by kernel_rfl), ⟨litGet (by kernel_rfl), ⟨litGet (by kernel_rfl), ⟨litGet (by kernel_rfl), ⟨litGet (by kernel_rfl), ⟨litGet (by kernel_rfl), ⟨litGet (by kernel_rfl), ⟨litGet (by kernel_rfl), ⟨litGet (by kernel_rfl), ⟨litGet (by kernel_rfl), ⟨litGet (by kernel_rfl), ⟨litGet (by kernel_rfl), ⟨litGet (by kernel_rfl), ⟨litGet (by kernel_rfl), ⟨litGet (by kernel_rfl), ⟨litGet (by kernel_rfl), ⟨litGet (by kernel_rfl), ⟨litGet (by kernel_rfl), ⟨litGet (by kernel_rfl), ⟨litGet (by kernel_rfl), ⟨litGet (by kernel_rfl), ⟨litGet (by kernel_rfl), ⟨litGet (by kernel_rfl), ⟨litGet (by kernel_rfl), ⟨litGet (by kernel_rfl), ⟨litGet (by kernel_rfl), ⟨litGet (by kernel_rfl), ⟨litGet (by kernel_rfl), ⟨litGet (by kernel_rfl), ⟨litGet (by kernel_rfl), ⟨litGet (by kernel_rfl), trivial⟩⟩⟩⟩⟩⟩⟩⟩⟩⟩⟩⟩⟩⟩⟩⟩⟩⟩⟩⟩⟩⟩⟩⟩⟩⟩⟩⟩⟩⟩⟩⟩⟩, (hm28.sub (.cons_cons _ (.cons_cons _ (.cons_cons _ .slnil))))⟩ ?_
        clear hm28
        intro n_ a38 w36 hI_
        obtain ⟨z, out, A, c, rfl, hloz, hhiz, hO, hN, hF_, hm37⟩ := hI_
        obtain ⟨X39, rfl⟩ := frLit hF_
        clear hF_
        refine wp_seq_k fun K40 hK40 => ?_
        refine wp_seq_k fun K41 hK41 => ?_
        refine plStart ?_
        refine lk (v := .int .i64 z) rfl rfl rfl ?_
        refine lk (v := .pointer (some ⟨g2, 2, none⟩)) rfl rfl rfl ?_
        refine litVal (v := .int .i64 a.z) rfl (wn rfl) (gLoad (v := .int .i64 a.z) (k := 2) 0 hm37 rfl (by kernel_rfl) (.tmp 55) (by kernel_rfl) rfl (litEv (by kernel_rfl))) rfl (by decide) ?_
        refine lk (v := .pointer (some ⟨g5, 2, none⟩)) rfl rfl rfl ?_
        refine litVal (v := .int .i64 b.z) rfl (wn rfl) (gLoad (v := .int .i64 b.z) (k := 2) 1 hm37 rfl (by kernel_rfl) (.tmp 57) (by kernel_rfl) rfl (litEv (by kernel_rfl))) rfl (by decide) ?_
        refine litVal (v := .int .i64 (max a.z b.z)) rfl (wn rfl) (gMax (.tmp 56) (.tmp 58) rfl (litEv (by kernel_rfl)) (litEv (by kernel_rfl))) rfl (by decide) ?_
        by_cases h42 : z ≤ (max a.z b.z)
        · refine litVal (v := .bool true) rfl (wn rfl) (boolTo (decide_eq_true h42) (leqRun (A := z) (B := (max a.z b.z)) (.tmp 54) (.tmp 59) rfl (litEv (by kernel_rfl)) (litEv (by kernel_rfl)))) rfl (by decide) ?_
          refine plD ?_
          refine then_normal (hK41 _ _ ?_)
          refine wp_cond_true (litEv (by kernel_rfl)) ?_
          refine wp_skip ?_
          refine then_normal (hK40 _ _ ?_)
          refine wp_seq_k fun K43 hK43 => ?_
          refine wp_block ?_
          refine wp_seq_k fun K44 hK44 => ?_
          refine plStart ?_
          have hB_ : inB a b ⟨x, y, z⟩ := by unfold inB; simp only; omega
          have hpr := rng_box ha hb hB_
          refine lk (v := .int .i64 x) rfl rfl rfl ?_
          refine lk (v := .int .i64 y) rfl rfl rfl ?_
          refine lk (v := .int .i64 z) rfl rfl rfl ?_
          refine lk (v := .agg (pcs ⟨x, y, z⟩).toArray) rfl rfl rfl ?_
          refine plAlloc (z := [.int .i64 0, .int .i64 0, .int .i64 0]) Ty.ag_voxel_api_Point hm37 (i := 4) rfl (wn rfl) rfl ?_
          intro g45 w47 hm46
          clear hm37
          try simp only [List.cons_append, List.nil_append, List.set_cons_succ, List.set_cons_zero] at hm46
          refine qP rfl ?_
          refine plStore 3 Ty.ag_voxel_api_Point hm46 rfl (i := 5) (cs := pcs ⟨x, y, z⟩) rfl (wn rfl) rfl (litEv (by kernel_rfl)) (litEv (by kernel_rfl)) rfl rfl (by kernel_rfl) ?_
          intro w49 hm48
          clear hm46
          try simp only [List.cons_append, List.nil_append, List.set_cons_succ, List.set_cons_zero] at hm48
          refine qNone rfl ?_
          refine plD ?_
          refine then_normal (hK44 _ _ ?_)
          refine wp_seq_k fun K50 hK50 => ?_
          refine plStart ?_
          refine litVal (v := .agg (pcs a).toArray) rfl (wn rfl) (gLoadAg (vs := pcs a) (k := 0) 0 hm48 rfl (by kernel_rfl) (by kernel_rfl) (.tmp 2) Ty.ag_voxel_api_Point rfl (litEv (by kernel_rfl))) rfl (by decide) ?_
          refine litVal (v := .agg (pcs b).toArray) rfl (wn rfl) (gLoadAg (vs := pcs b) (k := 0) 1 hm48 rfl (by kernel_rfl) (by kernel_rfl) (.tmp 3) Ty.ag_voxel_api_Point rfl (litEv (by kernel_rfl))) rfl (by decide) ?_
          refine litVal (v := .agg (pcs ⟨x, y, z⟩).toArray) rfl (wn rfl) (gLoadAg (vs := pcs ⟨x, y, z⟩) (k := 0) 3 hm48 rfl (by kernel_rfl) (by kernel_rfl) (.tmp 11) Ty.ag_voxel_api_Point rfl (litEv (by kernel_rfl))) rfl (by decide) ?_
          refine plCall (i := 3) 26 [.agg (pcs a).toArray, .agg (pcs b).toArray, .agg (pcs ⟨x, y, z⟩).toArray] [] [] rfl (by kernel_rfl) (wn rfl) rfl (litEv (by kernel_rfl)) (litArgs (by kernel_rfl)) (inside_any a b (⟨x, y, z⟩) ha hb hpr _) ?_
          rintro e w51 ⟨rfl, hbz⟩
          have hm52 := hm48.below hbz
          clear hbz hm48
          refine ⟨_, rfl, ?_⟩
          refine qP rfl ?_
          refine plAlloc (z := [.int .i64 0, .int .i64 0, .int .i64 0, .int .i64 0, .bool false]) Ty.ag_voxel_voxelref42_Between hm52 (i := 4) rfl (wn rfl) rfl ?_
          intro g53 w55 hm54
          clear hm52
          try simp only [List.cons_append, List.nil_append, List.set_cons_succ, List.set_cons_zero] at hm54
          refine qP rfl ?_
          refine plStore 4 Ty.ag_voxel_voxelref42_Between hm54 rfl (i := 5) (cs := bts (insideT a b (⟨x, y, z⟩))) rfl (wn rfl) rfl (litEv (by kernel_rfl)) (litEv (by kernel_rfl)) rfl rfl (by kernel_rfl) ?_
          intro w57 hm56
          clear hm54
          try simp only [List.cons_append, List.nil_append, List.set_cons_succ, List.set_cons_zero] at hm56
          refine qNone rfl ?_
          refine plD ?_
          refine then_normal (hK50 _ _ ?_)
          refine wp_seq_k fun K58 hK58 => ?_
          refine wp_seq_k fun K59 hK59 => ?_
          refine plStart ?_
          refine lk (v := .pointer (some ⟨g53, 4, none⟩)) rfl rfl rfl ?_
          rcases bool_or ((insideT a b (⟨x, y, z⟩)).ok) with h60 | h60
          · refine litVal (v := .bool false) rfl (wn rfl) (boolTo h60 (gLoad (v := .bool ((insideT a b (⟨x, y, z⟩)).ok)) (k := 4) 4 hm56 rfl (by kernel_rfl) (.tmp 71) (by kernel_rfl) rfl (litEv (by kernel_rfl)))) rfl (by decide) ?_
            refine lk (v := .bool true) rfl rfl rfl ?_
            refine plD ?_
            refine then_normal (hK59 _ _ ?_)
            refine wp_cond_true (litEv (by kernel_rfl)) ?_
            refine wp_exit ?_
            refine then_exit ?_
            refine inBlock_exit ?_
            refine then_normal (hK43 _ _ ?_)
            refine plStart ?_
            have hno_ : (insideT a b ⟨x, y, z⟩).ok = false := h60
            refine lk (v := .int .i64 z) rfl rfl rfl ?_
            refine litVal (v := .int .i64 (z + 1)) rfl (wn rfl) (addRun (A := z) (B := 1) (C := z + 1) (.tmp 61) (.const (.int .i64 1)) rfl (litEv (by kernel_rfl)) (litEv (by kernel_rfl)) rfl (by omega)) rfl (by decide) ?_
            refine lk (v := .int .i64 (z + 1)) rfl rfl rfl ?_
            refine plD ?_
            refine then_normal ?_
            exact ⟨_, by omega, (z + 1), out, _, _, rfl, (by omega), (by omega), (hO.skip hno_), (by omega), ⟨litSize, rfl, ⟨litGet (by kernel_rfl), ⟨litGet (by kernel_rfl), ⟨litGet (by kernel_rfl), ⟨litGet (by kernel_rfl), ⟨litGet (by kernel_rfl), ⟨litGet (by kernel_rfl), ⟨litGet (by kernel_rfl), ⟨litGet (by kernel_rfl), ⟨litGet (by kernel_rfl), ⟨litGet (by kernel_rfl), ⟨litGet (by kernel_rfl), ⟨litGet (by kernel_rfl), ⟨litGet (by kernel_rfl), ⟨litGet (by kernel_rfl), ⟨litGet (by kernel_rfl), ⟨litGet (by kernel_rfl), ⟨litGet (by kernel_rfl), ⟨litGet (by kernel_rfl), ⟨litGet (by kernel_rfl), ⟨litGet (by kernel_rfl), ⟨litGet (by kernel_rfl), ⟨litGet (by kernel_rfl), ⟨litGet (by kernel_rfl), ⟨litGet (by kernel_rfl), ⟨litGet (by kernel_rfl), ⟨litGet (by kernel_rfl), ⟨litGet (by kernel_rfl), ⟨litGet (by kernel_rfl), ⟨litGet (by kernel_rfl), ⟨litGet (by kernel_rfl), ⟨litGet (by kernel_rfl), ⟨litGet (by kernel_rfl), trivial⟩⟩⟩⟩⟩⟩⟩⟩⟩⟩⟩⟩⟩⟩⟩⟩⟩⟩⟩⟩⟩⟩⟩⟩⟩⟩⟩⟩⟩⟩⟩⟩⟩, (hm56.sub (.cons_cons _ (.cons_cons _ (.cons_cons _ (.cons _ (.cons _ .slnil))))))⟩
          refine litVal (v := .bool true) rfl (wn rfl) (boolTo h60 (gLoad (v := .bool ((insideT a b (⟨x, y, z⟩)).ok)) (k := 4) 4 hm56 rfl (by kernel_rfl) (.tmp 71) (by kernel_rfl) rfl (litEv (by kernel_rfl)))) rfl (by decide) ?_
          refine lk (v := .bool false) rfl rfl rfl ?_
          refine plD ?_
          refine then_normal (hK59 _ _ ?_)
          refine wp_cond_false (litEv (by kernel_rfl)) ?_
          refine wp_skip ?_
          refine then_normal (hK58 _ _ ?_)
          refine wp_seq_k fun K61 hK61 => ?_
          refine plStart ?_
          have hok_ : (insideT a b ⟨x, y, z⟩).ok = true := h60
          refine lk (v := .slice A out.length c) rfl rfl rfl ?_
          refine litVal (v := .int .i64 (out.length : Int)) rfl (wn rfl) (lenSlRun (A := A) (n := out.length) (c := c) (.tmp 74) Ty.und_L_api_Point rfl (litEv (by kernel_rfl))) rfl (by decide) ?_
          refine lk (v := .int .i64 (out.length : Int)) rfl rfl rfl ?_
          refine plD ?_
          refine then_normal (hK61 _ _ ?_)
          refine wp_seq_k fun K62 hK62 => ?_
          refine wp_block ?_
          refine gwLoop (fun n_ a_ w_ => ∃ (k : Nat), n_ = 0 + k ∧ (k ≤ out.length) ∧ (∀ q ∈ out.drop k, bef a b ⟨x, y, z⟩ q) ∧ Fr a_ 109 [(2, .pointer (some ⟨g2, 0, none⟩)), (3, .pointer (some ⟨g5, 0, none⟩)), (4, .slice none 0 0), (5, .int .i64 0), (7, .slice A out.length c), (8, .int .i64 x), (9, .int .i64 y), (10, .int .i64 z), (11, .pointer (some ⟨g45, 0, none⟩)), (12, .pointer (some ⟨g53, 0, none⟩)), (13, .int .i64 (k : Int)), (26, .int .i64 x), (27, .pointer (some ⟨g2, 0, none⟩)), (28, .int .i64 a.x), (29, .pointer (some ⟨g5, 0, none⟩)), (30, .int .i64 b.x), (31, .int .i64 (max a.x b.x)), (32, .bool true), (35, .pointer (some ⟨g2, 1, none⟩)), (36, .int .i64 a.y), (37, .pointer (some ⟨g5, 1, none⟩)), (38, .int .i64 b.y), (39, .int .i64 (min a.y b.y)), (40, .int .i64 y), (41, .pointer (some ⟨g2, 1, none⟩)), (42, .int .i64 a.y), (43, .pointer (some ⟨g5, 1, none⟩)), (44, .int .i64 b.y), (45, .int .i64 (max a.y b.y)), (46, .bool true), (49, .pointer (some ⟨g2, 2, none⟩)), (50, .int .i64 a.z), (51, .pointer (some ⟨g5, 2, none⟩)), (52, .int .i64 b.z), (53, .int .i64 (min a.z b.z)), (54, .int .i64 z), (55, .pointer (some ⟨g2, 2, none⟩)), (56, .int .i64 a.z), (57, .pointer (some ⟨g5, 2, none⟩)), (58, .int .i64 b.z), (59, .int .i64 (max a.z b.z)), (60, .bool true), (63, .int .i64 x), (64, .int .i64 y), (65, .int .i64 z), (66, .agg (pcs ⟨x, y, z⟩).toArray), (67, .agg (pcs a).toArray), (68, .agg (pcs b).toArray), (69, .agg (pcs ⟨x, y, z⟩).toArray), (70, .agg (bts (insideT a b (⟨x, y, z⟩))).toArray), (71, .pointer (some ⟨g53, 4, none⟩)), (72, .bool true), (73, .bool false), (74, .slice A out.length c), (75, .int .i64 (out.length : Int))] ∧ Mem w w_ [.arr g2 23 (pcs a), .arr g5 23 (pcs b), .row (.slice A out.length c) 23 3 out.length (ptsC out), .arr g45 23 (pcs ⟨x, y, z⟩), .arr g53 61 (bts (insideT a b (⟨x, y, z⟩)))]) (0 + out.length) ⟨out.length, rfl, (Nat.le_refl _), (by simp), ⟨litSize, rfl, ⟨litGet (by kernel_rfl), ⟨litGet (by kernel_rfl), ⟨litGet (by kernel_rfl), ⟨litGet (by kernel_rfl), ⟨litGet (by kernel_rfl), ⟨litGet (by kernel_rfl), ⟨litGet (by kernel_rfl), ⟨litGet (by kernel_rfl), ⟨litGet (by kernel_rfl), ⟨litGet (by kernel_rfl), ⟨litGet (by kernel_rfl), ⟨litGet (by kernel_rfl), ⟨litGet (by kernel_rfl), ⟨litGet (by kernel_rfl), ⟨litGet (by kernel_rfl), ⟨litGet (by kernel_rfl), ⟨litGet (by kernel_rfl), ⟨litGet (by kernel_rfl), ⟨litGet (by kernel_rfl), ⟨litGet (by kernel_rfl), ⟨litGet (by kernel_rfl), ⟨litGet (by kernel_rfl), ⟨litGet (by kernel_rfl), ⟨litGet (by kernel_rfl), ⟨litGet (by kernel_rfl), ⟨litGet (by kernel_rfl), ⟨litGet (by kernel_rfl), ⟨litGet (by kernel_rfl), ⟨litGet (by kernel_rfl), ⟨litGet (by kernel_rfl), ⟨litGet (by kernel_rfl), ⟨litGet (by kernel_rfl), ⟨litGet (by kernel_rfl), ⟨litGet (by kernel_rfl), ⟨litGet (by kernel_rfl), ⟨litGet (by kernel_rfl), ⟨litGet (by kernel_rfl), ⟨litGet (by kernel_rfl), ⟨litGet (by kernel_rfl), ⟨litGet (by kernel_rfl), ⟨litGet (by kernel_rfl), ⟨litGet (by kernel_rfl), ⟨litGet (by kernel_rfl), ⟨litGet (by kernel_rfl), ⟨litGet (by kernel_rfl), ⟨litGet (by kernel_rfl), ⟨litGet (by kernel_rfl), ⟨litGet (by kernel_rfl), ⟨litGet (by kernel_rfl), ⟨litGet (by kernel_rfl), ⟨litGet (by kernel_rfl), ⟨litGet (by kernel_rfl), ⟨litGet (by kernel_rfl), ⟨litGet (by kernel_rfl), ⟨litGet (by kernel_rfl), trivial⟩⟩⟩⟩⟩⟩⟩⟩⟩⟩⟩⟩⟩⟩⟩⟩⟩⟩⟩⟩⟩⟩⟩⟩⟩⟩⟩⟩⟩⟩⟩⟩⟩⟩⟩⟩⟩⟩⟩⟩⟩⟩⟩⟩⟩⟩⟩⟩⟩⟩⟩⟩⟩⟩⟩⟩, (hm56.sub (.cons_cons _ (.cons_cons _ (.cons_cons _ (.cons_cons _ (.cons_cons _ .slnil))))))⟩ ?_
          clear hm56
          intro n_ a65 w63 hI_
          obtain ⟨k, rfl, hkl, hk1, hF_, hm64⟩ := hI_
          obtain ⟨X66, rfl⟩ := frLit hF_
          clear hF_
          refine wp_seq_k fun K67 hK67 => ?_
          refine wp_seq_k fun K68 hK68 => ?_
          refine mgStart hm64 (by kernel_rfl) ?_
          intro w70 hm69
          clear hm64
          refine mk_ (i := 0) (v := .int .i64 (k : Int)) rfl rfl (fun _ _ _ h => h) hm69 rfl ?_
          by_cases h71 : 0 < (k : Int)
          · obtain ⟨b72, rfl⟩ := hm69.rowBlk (A := A) (n := out.length) (c := c) 2 rfl (by omega)
            have hk0 : 0 < k := by omega
            obtain ⟨q, hq⟩ : ∃ q, out[k - 1]? = some q := ⟨_, List.getElem?_eq_getElem (by omega)⟩
            have hqr := rng_box ha hb ((hO.mem q).1 (List.mem_of_getElem? hq)).2.1
            refine mgTake (i := 1) (v := .bool true) rfl (by kernel_rfl) (wn rfl) (fun _ _ _ h => h) hm69 (fun w_ h_ => boolTo (decide_eq_true h71) (gtrRun (A := (k : Int)) (B := 0) (.tmp 76) (.const (.int .i64 0)) rfl (litEv (by kernel_rfl)) (litEv (by kernel_rfl)))) ?_
            refine mP rfl ?_
            refine mk_ (i := 2) (v := .bool true) rfl rfl (fun _ _ _ h => h) hm69 rfl ?_
            refine mgTake (i := 3) (v := .pointer (some ⟨g53, 0, none⟩)) rfl (by kernel_rfl) (wgY rfl rfl rfl (by decide) (by kernel_rfl)) (fun _ _ _ h => h) hm69 (fun w_ h_ => litRun (by kernel_rfl)) ?_
            refine mP rfl ?_
            refine mgTake (i := 4) (v := .agg (tcs ((insideT a b (⟨x, y, z⟩)).a)).toArray) rfl (by kernel_rfl) (wgY rfl rfl rfl (by decide) (by kernel_rfl)) (fun _ _ _ h => h) hm69 (fun w_ h_ => gLoadAg (vs := tcs ((insideT a b (⟨x, y, z⟩)).a)) (k := 0) 4 h_ rfl (by kernel_rfl) (by kernel_rfl) (.tmp 79) Ty.ag_voxel_voxelref42_Time rfl (litEv (by kernel_rfl))) ?_
            refine mP rfl ?_
            refine mgTake (i := 5) (v := .agg (pcs a).toArray) rfl (by kernel_rfl) (wgY rfl rfl rfl (by decide) (by kernel_rfl)) (fun _ _ _ h => h) hm69 (fun w_ h_ => gLoadAg (vs := pcs a) (k := 0) 0 h_ rfl (by kernel_rfl) (by kernel_rfl) (.tmp 2) Ty.ag_voxel_api_Point rfl (litEv (by kernel_rfl))) ?_
            refine mP rfl ?_
            refine mgTake (i := 6) (v := .agg (pcs b).toArray) rfl (by kernel_rfl) (wgY rfl rfl rfl (by decide) (by kernel_rfl)) (fun _ _ _ h => h) hm69 (fun w_ h_ => gLoadAg (vs := pcs b) (k := 0) 1 h_ rfl (by kernel_rfl) (by kernel_rfl) (.tmp 3) Ty.ag_voxel_api_Point rfl (litEv (by kernel_rfl))) ?_
            refine mP rfl ?_
            refine mgTake (i := 7) (v := .slice (some ⟨b72, 0, none⟩) out.length c) rfl (by kernel_rfl) (wgY rfl rfl rfl (by decide) (by kernel_rfl)) (fun _ _ _ h => h) hm69 (fun w_ h_ => litRun (by kernel_rfl)) ?_
            refine mP rfl ?_
            refine mgTake (i := 8) (v := .int .i64 (k : Int)) rfl (by kernel_rfl) (wgY rfl rfl rfl (by decide) (by kernel_rfl)) (fun _ _ _ h => h) hm69 (fun w_ h_ => litRun (by kernel_rfl)) ?_
            refine mP rfl ?_
            refine mgTake (i := 9) (v := .int .i64 ((k - 1 : Nat) : Int)) rfl (by kernel_rfl) (wgY rfl rfl rfl (by decide) (by kernel_rfl)) (fun _ _ _ h => h) hm69 (fun w_ h_ => subRun (A := (k : Int)) (B := 1) (C := ((k - 1 : Nat) : Int)) (.tmp 84) (.const (.int .i64 1)) rfl (litEv (by kernel_rfl)) (litEv (by kernel_rfl)) (by omega) (by omega)) ?_
            refine mP rfl ?_
            refine mgTake (i := 10) (v := .pointer (some ⟨b72, 0 + (k - 1) * 3, none⟩)) rfl (by kernel_rfl) (wgY rfl rfl rfl (by decide) (by kernel_rfl)) (fun _ _ _ h => h) hm69 (fun w_ h_ => gIaSl (b := b72) (off := 0) (n := out.length) (c := c) (kk := .i64) (K := ((k - 1 : Nat) : Int)) (.tmp 83) (.tmp 85) (k - 1) Ty.sl_L_api_Point rfl (litEv (by kernel_rfl)) (litEv (by kernel_rfl)) ((by omega)) ((by omega))) ?_
            refine mP rfl ?_
            refine mgTake (i := 11) (v := .agg (pcs q).toArray) rfl (by kernel_rfl) (wgY rfl rfl rfl (by decide) (by kernel_rfl)) (fun _ _ _ h => h) hm69 (fun w_ h_ => gLoadAgRd (vs := pcs q) (m := (k - 1) * 3) (h_.rdRow 2 rfl) rfl (ptsC_get hq) (by kernel_rfl) (by omega) (.tmp 86) Ty.ag_voxel_api_Point rfl (litEv (by kernel_rfl))) ?_
            refine mP rfl ?_
            refine mgCall (i := 12) 26 [.agg (pcs a).toArray, .agg (pcs b).toArray, .agg (pcs q).toArray] [] [] (by kernel_rfl) rfl (by kernel_rfl) (wgY rfl rfl rfl (by decide) (by kernel_rfl)) rfl (litEv (by kernel_rfl)) (litArgs (by kernel_rfl)) (inside_any a b q ha hb hqr _) ?_
            rintro e w73 ⟨rfl, hbz⟩
            have hm74 := hm69.below hbz
            clear hbz hm69
            refine ⟨_, rfl, hm74, ?_⟩
            refine mP rfl ?_
            refine mgTake (i := 13) (v := .agg (tcs ((insideT a b q).a)).toArray) rfl (by kernel_rfl) (wgY rfl rfl rfl (by decide) (by kernel_rfl)) (fun _ _ _ h => h) hm74 (fun w_ h_ => litRun (by kernel_rfl)) ?_
            refine mP rfl ?_
            refine mgCall (i := 14) 34 [.agg (tcs ((insideT a b (⟨x, y, z⟩)).a)).toArray, .agg (tcs ((insideT a b q).a)).toArray] [] [] (by kernel_rfl) rfl (by kernel_rfl) (wgY rfl rfl rfl (by decide) (by kernel_rfl)) rfl (litEv (by kernel_rfl)) (litArgs (by kernel_rfl)) (less_any ((insideT a b (⟨x, y, z⟩)).a) ((insideT a b q).a) (inside_tm ha hb hpr).1 (inside_tm ha hb hqr).1 _) ?_
            rintro e w75 ⟨rfl, hbz⟩
            have hm76 := hm74.below hbz
            clear hbz hm74
            refine ⟨_, rfl, hm76, ?_⟩
            refine mP rfl ?_
            rcases bool_or (tltb ((insideT a b (⟨x, y, z⟩)).a) ((insideT a b q).a)) with h77 | h77
            · rw [h77]
              refine mk_ (i := 15) (v := .bool false) rfl rfl (fun _ _ _ h => h) hm76 rfl ?_
              refine mgDone (by kernel_rfl) ?_
              refine then_normal (hK68 _ _ ?_)
              refine wp_cond_false (litEv (by kernel_rfl)) ?_
              refine wp_exit ?_
              refine then_exit ?_
              refine then_exit ?_
              refine inBlock_exit ?_
              refine then_normal (hK62 _ _ ?_)
              refine wp_seq_k fun K78 hK78 => ?_
              refine plStart ?_
              have hk2_ : k = 0 ∨ ∃ q, out[k - 1]? = some q ∧ ¬ bef a b ⟨x, y, z⟩ q := Or.inr ⟨q, hq, tltb_not.1 h77⟩
              refine plLit0 Ty.sl_L_api_Point hm76 (i := 0) rfl (wn rfl) rfl rfl ?_
              intro g79 w81 hm80
              clear hm76
              try simp only [List.cons_append, List.nil_append, List.set_cons_succ, List.set_cons_zero] at hm80
              refine qP rfl ?_
              refine lk (v := .slice (some ⟨b72, 0, none⟩) out.length c) rfl rfl rfl ?_
              refine lk (v := .int .i64 (k : Int)) rfl rfl rfl ?_
              obtain ⟨A9, hrA, hsA⟩ := sliceH_eq Ty.sl_L_api_Point (hm80.rdRow 2 rfl) hkl
              refine litVal (i := 3) (v := .slice A9 k c) rfl (wn rfl) (sliceHRun (V := k) (.tmp 95) (.tmp 96) hsA rfl (litEv (by kernel_rfl)) (litEv (by kernel_rfl)) rfl) rfl (by decide) ?_
              refine plAppR (v := .slice (some ⟨g79, 0, none⟩) 0 0) (n := 0) (xs := []) (ys := (ptsC out).take (k * 3)) (A := A9) (m := k) (c := c) 5 Ty.sl_L_api_Point hm80 rfl (hrA) (i := 4) rfl (wn rfl) rfl (litEv (by kernel_rfl)) (litEv (by kernel_rfl)) (fun u hu => ptsC_one out u (List.mem_of_mem_take hu)) (by omega) (by omega) ?_
              intro v86 w83 hm82
              clear hm80
              try simp only [List.cons_append, List.nil_append, List.set_cons_succ, List.set_cons_zero] at hm82
              replace hm82 := Mem.rowEq (v := v86) (e := 23) (size := 3) (n := 0 + k) (n' := k) (xs := ([]) ++ ((ptsC out).take (k * 3))) (xs' := ptsC (out.take k)) 5 hm82 rfl (Nat.zero_add k) (ptsC_tk hkl)
              try simp only [List.cons_append, List.nil_append, List.set_cons_succ, List.set_cons_zero] at hm82
              obtain ⟨A84, c85, rfl⟩ := Mem.rowSl (v := v86) (e := 23) (size := 3) (n := k) (xs := ptsC (out.take k)) 5 hm82 rfl
              refine qP rfl ?_
              refine lk (v := .slice A84 k c85) rfl rfl rfl ?_
              refine plD ?_
              refine then_normal (hK78 _ _ ?_)
              refine wp_seq_k fun K87 hK87 => ?_
              refine plStart ?_
              refine lk (v := .slice A84 k c85) rfl rfl rfl ?_
              refine litVal (v := .agg (pcs ⟨x, y, z⟩).toArray) rfl (wn rfl) (gLoadAg (vs := pcs ⟨x, y, z⟩) (k := 0) 3 hm82 rfl (by kernel_rfl) (by kernel_rfl) (.tmp 11) Ty.ag_voxel_api_Point rfl (litEv (by kernel_rfl))) rfl (by decide) ?_
              refine plLit (cs := [.int .i64 x, .int .i64 y, .int .i64 z]) (n := 1) Ty.sl_L_api_Point hm82 (i := 2) rfl (wn rfl) rfl (by decide) (by decide) (by rw [lit_eval]; kernel_rfl) ?_
              intro g88 w90 hm89
              clear hm82
              try simp only [List.cons_append, List.nil_append, List.set_cons_succ, List.set_cons_zero] at hm89
              refine qP rfl ?_
              refine plApp1 (v := .slice A84 k c85) (n := k) (xs := ptsC (out.take k)) (ys := [.int .i64 x, .int .i64 y, .int .i64 z]) 5 6 Ty.sl_L_api_Point hm89 rfl rfl (i := 3) rfl (wn rfl) rfl (litEv (by kernel_rfl)) (litEv (by kernel_rfl)) (by kernel_rfl) (by kernel_rfl) (by omega) (by omega) ?_
              intro v95 w92 hm91
              clear hm89
              try simp only [List.cons_append, List.nil_append, List.set_cons_succ, List.set_cons_zero] at hm91
              replace hm91 := Mem.rowEq (v := v95) (e := 23) (size := 3) (n := k + 1) (n' := k + 1) (xs := (ptsC (out.take k)) ++ ([.int .i64 x, .int .i64 y, .int .i64 z])) (xs' := ptsC (out.take k ++ [(⟨x, y, z⟩ : Pt)])) 5 hm91 rfl (rfl) ((ptsC_snoc (out.take k) ⟨x, y, z⟩))
              try simp only [List.cons_append, List.nil_append, List.set_cons_succ, List.set_cons_zero] at hm91
              obtain ⟨A93, c94, rfl⟩ := Mem.rowSl (v := v95) (e := 23) (size := 3) (n := k + 1) (xs := ptsC (out.take k ++ [(⟨x, y, z⟩ : Pt)])) 5 hm91 rfl
              refine qP rfl ?_
              refine lk (v := .slice A93 (k + 1) c94) rfl rfl rfl ?_
              refine plD ?_
              refine then_normal (hK87 _ _ ?_)
              refine plStart ?_
              refine lk (v := .slice A93 (k + 1) c94) rfl rfl rfl ?_
              refine lk (v := .slice (some ⟨b72, 0, none⟩) out.length c) rfl rfl rfl ?_
              refine lk (v := .int .i64 (k : Int)) rfl rfl rfl ?_
              obtain ⟨A8, hrA, hsA⟩ := sliceL_eq Ty.sl_L_api_Point (hm91.rdRow 2 rfl) hkl
              refine litVal (i := 3) (v := .slice A8 (out.length - k) (c - k)) rfl (wn rfl) (sliceLRun (V := k) (.tmp 104) (.tmp 105) hsA rfl (litEv (by kernel_rfl)) (litEv (by kernel_rfl)) rfl) rfl (by decide) ?_
              refine plAppR (v := .slice A93 (k + 1) c94) (n := k + 1) (xs := ptsC (out.take k ++ [(⟨x, y, z⟩ : Pt)])) (ys := (ptsC out).drop (k * 3)) (A := A8) (m := (out.length - k)) (c := (c - k)) 5 Ty.sl_L_api_Point hm91 rfl (hrA) (i := 4) rfl (wn rfl) rfl (litEv (by kernel_rfl)) (litEv (by kernel_rfl)) (fun u hu => ptsC_one out u (List.mem_of_mem_drop hu)) (by omega) (by omega) ?_
              intro v100 w97 hm96
              clear hm91
              try simp only [List.cons_append, List.nil_append, List.set_cons_succ, List.set_cons_zero] at hm96
              replace hm96 := Mem.rowEq (v := v100) (e := 23) (size := 3) (n := (k + 1) + (out.length - k)) (n' := (out.take k ++ [(⟨x, y, z⟩ : Pt)] ++ out.drop k).length) (xs := (ptsC (out.take k ++ [(⟨x, y, z⟩ : Pt)])) ++ ((ptsC out).drop (k * 3))) (xs' := ptsC (out.take k ++ [(⟨x, y, z⟩ : Pt)] ++ out.drop k)) 5 hm96 rfl (by rw [ins_len _ hkl]; omega) (by rw [ptsC_app _ (out.drop k), ptsC_dp hkl])
              try simp only [List.cons_append, List.nil_append, List.set_cons_succ, List.set_cons_zero] at hm96
              obtain ⟨A98, c99, rfl⟩ := Mem.rowSl (v := v100) (e := 23) (size := 3) (n := (out.take k ++ [(⟨x, y, z⟩ : Pt)] ++ out.drop k).length) (xs := ptsC (out.take k ++ [(⟨x, y, z⟩ : Pt)] ++ out.drop k)) 5 hm96 rfl
              refine qP rfl ?_
              refine lk (v := .slice A98 ((out.take k ++ [(⟨x, y, z⟩ : Pt)] ++ out.drop k).length) c99) rfl rfl rfl ?_
              refine plD ?_
              refine inBlock_normal ?_
              refine then_normal (hK43 _ _ ?_)
              refine plStart ?_
              refine lk (v := .int .i64 z) rfl rfl rfl ?_
              refine litVal (v := .int .i64 (z + 1)) rfl (wn rfl) (addRun (A := z) (B := 1) (C := z + 1) (.tmp 61) (.const (.int .i64 1)) rfl (litEv (by kernel_rfl)) (litEv (by kernel_rfl)) rfl (by omega)) rfl (by decide) ?_
              refine lk (v := .int .i64 (z + 1)) rfl rfl rfl ?_
              refine plD ?_
              refine then_normal ?_
              exact ⟨_, by omega, (z + 1), (out.take k ++ [(⟨x, y, z⟩ : Pt)] ++ out.drop k), A98, c99, rfl, (by omega), (by omega), (hO.ins hok_ hB_ hkl hk1 hk2_), (by rw [ins_len _ hkl]; omega), ⟨litSize, rfl, ⟨litGet (by kernel_rfl), ⟨litGet (by kernel_rfl), ⟨litGet (by kernel_rfl), ⟨litGet (by kernel_rfl), ⟨litGet (by kernel_rfl), ⟨litGet (by kernel_rfl), ⟨litGet (by kernel_rfl), ⟨litGet (by kernel_rfl), ⟨litGet (by kernel_rfl), ⟨litGet (by kernel_rfl), ⟨litGet (by kernel_rfl), ⟨litGet (by kernel_rfl), ⟨litGet (by kernel_rfl), ⟨litGet (by kernel_rfl), ⟨litGet (by kernel_rfl), ⟨litGet (by kernel_rfl), ⟨litGet (by kernel_rfl), ⟨litGet (by kernel_rfl), ⟨litGet (by kernel_rfl), ⟨litGet (by kernel_rfl), ⟨litGet (by kernel_rfl), ⟨litGet (by kernel_rfl), ⟨litGet (by kernel_rfl), ⟨litGet (by kernel_rfl), ⟨litGet (by kernel_rfl), ⟨litGet (by kernel_rfl), ⟨litGet (by kernel_rfl), ⟨litGet (by kernel_rfl), ⟨litGet (by kernel_rfl), ⟨litGet (by kernel_rfl), ⟨litGet (by kernel_rfl), ⟨litGet (by kernel_rfl), trivial⟩⟩⟩⟩⟩⟩⟩⟩⟩⟩⟩⟩⟩⟩⟩⟩⟩⟩⟩⟩⟩⟩⟩⟩⟩⟩⟩⟩⟩⟩⟩⟩⟩, (hm96.sub (.cons_cons _ (.cons_cons _ (.cons _ (.cons _ (.cons _ (.cons_cons _ (.cons _ .slnil))))))))⟩
            rw [h77]
            refine mk_ (i := 15) (v := .bool true) rfl rfl (fun _ _ _ h => h) hm76 rfl ?_
            refine mgDone (by kernel_rfl) ?_
            refine then_normal (hK68 _ _ ?_)
            refine wp_cond_true (litEv (by kernel_rfl)) ?_
            refine wp_skip ?_
            refine then_normal (hK67 _ _ ?_)
            refine wp_block ?_
            refine plStart ?_
            refine lk (v := .int .i64 (k : Int)) rfl rfl rfl ?_
            refine litVal (v := .int .i64 ((k - 1 : Nat) : Int)) rfl (wn rfl) (subRun (A := (k : Int)) (B := 1) (C := ((k - 1 : Nat) : Int)) (.tmp 92) (.const (.int .i64 1)) rfl (litEv (by kernel_rfl)) (litEv (by kernel_rfl)) (by omega) (by omega)) rfl (by decide) ?_
            refine lk (v := .int .i64 ((k - 1 : Nat) : Int)) rfl rfl rfl ?_
            refine plD ?_
            refine inBlock_normal ?_
            refine then_normal ?_
            exact ⟨_, by omega, (k - 1), rfl, (by omega), (drop_all (by omega) hq hk1 (tltb_iff.1 h77)), ⟨litSize, rfl, ⟨litGet (by kernel_rfl), ⟨litGet (by kernel_rfl), ⟨litGet (by kernel_rfl), ⟨litGet (by kernel_rfl), ⟨litGet (by kernel_rfl), ⟨litGet (by kernel_rfl), ⟨litGet (by kernel_rfl), ⟨litGet (by kernel_rfl), ⟨litGet (by kernel_rfl), ⟨litGet (by kernel_rfl), ⟨litGet (by kernel_rfl), ⟨litGet (by kernel_rfl), ⟨litGet (by kernel_rfl), ⟨litGet (by kernel_rfl), ⟨litGet (by kernel_rfl), ⟨litGet (by kernel_rfl), ⟨litGet (by kernel_rfl), ⟨litGet (by kernel_rfl), ⟨litGet (by kernel_rfl), ⟨litGet (by kernel_rfl), ⟨litGet (by kernel_rfl), ⟨litGet (by kernel_rfl), ⟨litGet (by kernel_rfl), ⟨litGet (by kernel_rfl), ⟨litGet (by kernel_rfl), ⟨litGet (by kernel_rfl), ⟨litGet (by kernel_rfl), ⟨litGet (by kernel_rfl), ⟨litGet (by kernel_rfl), ⟨litGet (by kernel_rfl), ⟨litGet (by kernel_rfl), ⟨litGet (by kernel_rfl), ⟨litGet (by kernel_rfl), ⟨litGet (by kernel_rfl), ⟨litGet (by kernel_rfl), ⟨litGet (by kernel_rfl), ⟨litGet (by kernel_rfl), ⟨litGet (by kernel_rfl), ⟨litGet (by kernel_rfl), ⟨litGet (by kernel_rfl), ⟨litGet (by kernel_rfl), ⟨litGet (by kernel_rfl), ⟨litGet (by kernel_rfl), ⟨litGet (by kernel_rfl), ⟨litGet (by kernel_rfl), ⟨litGet (by kernel_rfl), ⟨litGet (by kernel_rfl), ⟨litGet (by kernel_rfl), ⟨litGet (by kernel_rfl), ⟨litGet (by kernel_rfl), ⟨litGet (by kernel_rfl), ⟨litGet (by kernel_rfl), ⟨litGet (by kernel_rfl), ⟨litGet (by kernel_rfl), ⟨litGet (by kernel_rfl), trivial⟩⟩⟩⟩⟩⟩⟩⟩⟩⟩⟩⟩⟩⟩⟩⟩⟩⟩⟩⟩⟩⟩⟩⟩⟩⟩⟩⟩⟩⟩⟩⟩⟩⟩⟩⟩⟩⟩⟩⟩⟩⟩⟩⟩⟩⟩⟩⟩⟩⟩⟩⟩⟩⟩⟩⟩, (hm76.sub (.cons_cons _ (.cons_cons _ (.cons_cons _ (.cons_cons _ (.cons_cons _ .slnil))))))⟩
          refine mgTake (i := 1) (v := .bool false) rfl (by kernel_rfl) (wn rfl) (fun _ _ _ h => h) hm69 (fun w_ h_ => boolTo (decide_eq_false h71) (gtrRun (A := (k : Int)) (B := 0) (.tmp 76) (.const (.int .i64 0)) rfl (litEv (by kernel_rfl)) (litEv (by kernel_rfl)))) ?_
          refine mP rfl ?_
          refine mk_ (i := 2) (v := .bool false) rfl rfl (fun _ _ _ h => h) hm69 rfl ?_
          refine mgSkip (i := 3) rfl (by kernel_rfl) (wgN rfl rfl rfl (by decide) (by kernel_rfl)) (fun _ _ _ h => h) hm69 ?_
          refine mP rfl ?_
          refine mgSkip (i := 4) rfl (by kernel_rfl) (wgN rfl rfl rfl (by decide) (by kernel_rfl)) (fun _ _ _ h => h) hm69 ?_
          refine mP rfl ?_
          refine mgSkip (i := 5) rfl (by kernel_rfl) (wgN rfl rfl rfl (by decide) (by kernel_rfl)) (fun _ _ _ h => h) hm69 ?_
          refine mP rfl ?_
          refine mgSkip (i := 6) rfl (by kernel_rfl) (wgN rfl rfl rfl (by decide) (by kernel_rfl)) (fun _ _ _ h => h) hm69 ?_
          refine mP rfl ?_
          refine mgSkip (i := 7) rfl (by kernel_rfl) (wgN rfl rfl rfl (by decide) (by kernel_rfl)) (fun _ _ _ h => h) hm69 ?_
          refine mP rfl ?_
          refine mgSkip (i := 8) rfl (by kernel_rfl) (wgN rfl rfl rfl (by decide) (by kernel_rfl)) (fun _ _ _ h => h) hm69 ?_
          refine mP rfl ?_
          refine mgSkip (i := 9) rfl (by kernel_rfl) (wgN rfl rfl rfl (by decide) (by kernel_rfl)) (fun _ _ _ h => h) hm69 ?_
          refine mP rfl ?_
          refine mgSkip (i := 10) rfl (by kernel_rfl) (wgN rfl rfl rfl (by decide) (by kernel_rfl)) (fun _ _ _ h => h) hm69 ?_
          refine mP rfl ?_
          refine mgSkip (i := 11) rfl (by kernel_rfl) (wgN rfl rfl rfl (by decide) (by kernel_rfl)) (fun _ _ _ h => h) hm69 ?_
          refine mP rfl ?_
          refine mgSkip (i := 12) rfl (by kernel_rfl) (wgN rfl rfl rfl (by decide) (by kernel_rfl)) (fun _ _ _ h => h) hm69 ?_
          refine mP rfl ?_
          refine mgSkip (i := 13) rfl (by kernel_rfl) (wgN rfl rfl rfl (by decide) (by kernel_rfl)) (fun _ _ _ h => h) hm69 ?_
          refine mP rfl ?_
          refine mgSkip (i := 14) rfl (by kernel_rfl) (wgN rfl rfl rfl (by decide) (by kernel_rfl)) (fun _ _ _ h => h) hm69 ?_
          refine mP rfl ?_
          refine mk_ (i := 15) (v := .bool false) rfl rfl (fun _ _ _ h => h) hm69 rfl ?_
          refine mgDone (by kernel_rfl) ?_
          refine then_normal (hK68 _ _ ?_)
          refine wp_cond_false (litEv (by kernel_rfl)) ?_
          refine wp_exit ?_
          refine then_exit ?_
          refine then_exit ?_
          refine inBlock_exit ?_
          refine then_normal (hK62 _ _ ?_)
          refine wp_seq_k fun K101 hK101 => ?_
          refine plStart ?_
          have hk2_ : k = 0 ∨ ∃ q, out[k - 1]? = some q ∧ ¬ bef a b ⟨x, y, z⟩ q := Or.inl (by omega)
          refine plLit0 Ty.sl_L_api_Point hm69 (i := 0) rfl (wn rfl) rfl rfl ?_
          intro g102 w104 hm103
          clear hm69
          try simp only [List.cons_append, List.nil_append, List.set_cons_succ, List.set_cons_zero] at hm103
          refine qP rfl ?_
          refine lk (v := .slice A out.length c) rfl rfl rfl ?_
          refine lk (v := .int .i64 (k : Int)) rfl rfl rfl ?_
          obtain ⟨A9, hrA, hsA⟩ := sliceH_eq Ty.sl_L_api_Point (hm103.rdRow 2 rfl) hkl
          refine litVal (i := 3) (v := .slice A9 k c) rfl (wn rfl) (sliceHRun (V := k) (.tmp 95) (.tmp 96) hsA rfl (litEv (by kernel_rfl)) (litEv (by kernel_rfl)) rfl) rfl (by decide) ?_
          refine plAppR (v := .slice (some ⟨g102, 0, none⟩) 0 0) (n := 0) (xs := []) (ys := (ptsC out).take (k * 3)) (A := A9) (m := k) (c := c) 5 Ty.sl_L_api_Point hm103 rfl (hrA) (i := 4) rfl (wn rfl) rfl (litEv (by kernel_rfl)) (litEv (by kernel_rfl)) (fun u hu => ptsC_one out u (List.mem_of_mem_take hu)) (by omega) (by omega) ?_
          intro v109 w106 hm105
          clear hm103
          try simp only [List.cons_append, List.nil_append, List.set_cons_succ, List.set_cons_zero] at hm105
          replace hm105 := Mem.rowEq (v := v109) (e := 23) (size := 3) (n := 0 + k) (n' := k) (xs := ([]) ++ ((ptsC out).take (k * 3))) (xs' := ptsC (out.take k)) 5 hm105 rfl (Nat.zero_add k) (ptsC_tk hkl)
          try simp only [List.cons_append, List.nil_append, List.set_cons_succ, List.set_cons_zero] at hm105
          obtain ⟨A107, c108, rfl⟩ := Mem.rowSl (v := v109) (e := 23) (size := 3) (n := k) (xs := ptsC (out.take k)) 5 hm105 rfl
          refine qP rfl ?_
          refine lk (v := .slice A107 k c108) rfl rfl rfl ?_
          refine plD ?_
          refine then_normal (hK101 _ _ ?_)
          refine wp_seq_k fun K110 hK110 => ?_
          refine plStart ?_
          refine lk (v := .slice A107 k c108) rfl rfl rfl ?_
          refine litVal (v := .agg (pcs ⟨x, y, z⟩).toArray) rfl (wn rfl) (gLoadAg (vs := pcs ⟨x, y, z⟩) (k := 0) 3 hm105 rfl (by kernel_rfl) (by kernel_rfl) (.tmp 11) Ty.ag_voxel_api_Point rfl (litEv (by kernel_rfl))) rfl (by decide) ?_
          refine plLit (cs := [.int .i64 x, .int .i64 y, .int .i64 z]) (n := 1) Ty.sl_L_api_Point hm105 (i := 2) rfl (wn rfl) rfl (by decide) (by decide) (by rw [lit_eval]; kernel_rfl) ?_
          intro g111 w113 hm112
          clear hm105
          try simp only [List.cons_append, List.nil_append, List.set_cons_succ, List.set_cons_zero] at hm112
          refine qP rfl ?_
          refine plApp1 (v := .slice A107 k c108) (n := k) (xs := ptsC (out.take k)) (ys := [.int .i64 x, .int .i64 y, .int .i64 z]) 5 6 Ty.sl_L_api_Point hm112 rfl rfl (i := 3) rfl (wn rfl) rfl (litEv (by kernel_rfl)) (litEv (by kernel_rfl)) (by kernel_rfl) (by kernel_rfl) (by omega) (by omega) ?_
          intro v118 w115 hm114
          clear hm112
          try simp only [List.cons_append, List.nil_append, List.set_cons_succ, List.set_cons_zero] at hm114
          replace hm114 := Mem.rowEq (v := v118) (e := 23) (size := 3) (n := k + 1) (n' := k + 1) (xs := (ptsC (out.take k)) ++ ([.int .i64 x, .int .i64 y, .int .i64 z])) (xs' := ptsC (out.take k ++ [(⟨x, y, z⟩ : Pt)])) 5 hm114 rfl (rfl) ((ptsC_snoc (out.take k) ⟨x, y, z⟩))
          try simp only [List.cons_append, List.nil_append, List.set_cons_succ, List.set_cons_zero] at hm114
          obtain ⟨A116, c117, rfl⟩ := Mem.rowSl (v := v118) (e := 23) (size := 3) (n := k + 1) (xs := ptsC (out.take k ++ [(⟨x, y, z⟩ : Pt)])) 5 hm114 rfl
          refine qP rfl ?_
          refine lk (v := .slice A116 (k + 1) c117) rfl rfl rfl ?_
          refine plD ?_
          refine then_normal (hK110 _ _ ?_)
          refine wpPrune [(2, .pointer (some ⟨g2, 0, none⟩)), (3, .pointer (some ⟨g5, 0, none⟩)), (4, .slice none 0 0), (5, .int .i64 0), (7, .slice A out.length c), (8, .int .i64 x), (9, .int .i64 y), (10, .int .i64 z), (11, .pointer (some ⟨g45, 0, none⟩)), (12, .pointer (some ⟨g53, 0, none⟩)), (13, .int .i64 (k : Int)), (14, .slice A116 (k + 1) c117), (26, .int .i64 x), (27, .pointer (some ⟨g2, 0, none⟩)), (28, .int .i64 a.x), (29, .pointer (some ⟨g5, 0, none⟩)), (30, .int .i64 b.x), (31, .int .i64 (max a.x b.x)), (32, .bool true), (35, .pointer (some ⟨g2, 1, none⟩)), (36, .int .i64 a.y), (37, .pointer (some ⟨g5, 1, none⟩)), (38, .int .i64 b.y), (39, .int .i64 (min a.y b.y)), (40, .int .i64 y), (41, .pointer (some ⟨g2, 1, none⟩)), (42, .int .i64 a.y), (43, .pointer (some ⟨g5, 1, none⟩)), (44, .int .i64 b.y), (45, .int .i64 (max a.y b.y)), (46, .bool true), (49, .pointer (some ⟨g2, 2, none⟩)), (50, .int .i64 a.z), (51, .pointer (some ⟨g5, 2, none⟩)), (52, .int .i64 b.z), (53, .int .i64 (min a.z b.z)), (54, .int .i64 z), (55, .pointer (some ⟨g2, 2, none⟩)), (56, .int .i64 a.z), (57, .pointer (some ⟨g5, 2, none⟩)), (58, .int .i64 b.z), (59, .int .i64 (max a.z b.z)), (60, .bool true), (63, .int .i64 x), (64, .int .i64 y), (65, .int .i64 z), (66, .agg (pcs ⟨x, y, z⟩).toArray), (67, .agg (pcs a).toArray), (68, .agg (pcs b).toArray), (69, .agg (pcs ⟨x, y, z⟩).toArray), (70, .agg (bts (insideT a b (⟨x, y, z⟩))).toArray), (71, .pointer (some ⟨g53, 4, none⟩)), (72, .bool true), (73, .bool false), (74, .slice A out.length c), (75, .int .i64 (out.length : Int)), (76, .int .i64 (k : Int)), (77, .bool false), (78, .bool false), (91, .bool false), (94, .slice (some ⟨g102, 0, none⟩) 0 0), (95, .slice A out.length c), (96, .int .i64 (k : Int)), (97, .slice A9 k c), (98, .slice A107 k c108), (99, .slice A107 k c108), (100, .agg (pcs ⟨x, y, z⟩).toArray), (101, .slice (some ⟨g111, 0, none⟩) 1 1), (102, .slice A116 (k + 1) c117)] ⟨litGet (by kernel_rfl), ⟨litGet (by kernel_rfl), ⟨litGet (by kernel_rfl), ⟨litGet (by kernel_rfl), ⟨litGet (by kernel_rfl), ⟨litGet (by kernel_rfl), ⟨litGet (by kernel_rfl), ⟨litGet (by kernel_rfl), ⟨litGet (by kernel_rfl), ⟨litGet (by kernel_rfl), ⟨litGet (by kernel_rfl), ⟨litGet (by kernel_rfl), ⟨litGet (by kernel_rfl), ⟨litGet (by kernel_rfl), ⟨litGet (by kernel_rfl), ⟨litGet (by kernel_rfl), ⟨litGet (by kernel_rfl), ⟨litGet (by kernel_rfl), ⟨litGet (by kernel_rfl), ⟨litGet (by kernel_rfl), ⟨litGet (by kernel_rfl), ⟨litGet (by kernel_rfl), ⟨litGet (by kernel_rfl), ⟨litGet (by kernel_rfl), ⟨litGet (by kernel_rfl), ⟨litGet (by kernel_rfl), ⟨litGet (by kernel_rfl), ⟨litGet (by kernel_rfl), ⟨litGet (by kernel_rfl), ⟨litGet (by kernel_rfl), ⟨litGet (by kernel_rfl), ⟨litGet (by kernel_rfl), ⟨litGet (by kernel_rfl), ⟨litGet (by kernel_rfl), ⟨litGet (by kernel_rfl), ⟨litGet (by kernel_rfl), ⟨litGet (by kernel_rfl), ⟨litGet (by kernel_rfl), ⟨litGet (by kernel_rfl), ⟨litGet (by kernel_rfl), ⟨litGet (by kernel_rfl), ⟨litGet (by kernel_rfl), ⟨litGet (by kernel_rfl), ⟨litGet (by kernel_rfl), ⟨litGet (by kernel_rfl), ⟨litGet (by kernel_rfl), ⟨litGet (by kernel_rfl), ⟨litGet (by kernel_rfl), ⟨litGet (by kernel_rfl), ⟨litGet (by kernel_rfl), ⟨litGet (by kernel_rfl), ⟨litGet (by kernel_rfl), ⟨litGet (by kernel_rfl), ⟨litGet (by kernel_rfl), ⟨litGet (by kernel_rfl), ⟨litGet (by kernel_rfl), ⟨litGet (by kernel_rfl), ⟨litGet (by kernel_rfl), ⟨litGet (by kernel_rfl), ⟨litGet (by kernel_rfl), ⟨litGet (by kernel_rfl), ⟨litGet (by kernel_rfl), ⟨litGet (by kernel_rfl), ⟨litGet (by kernel_rfl), ⟨litGet (by kernel_rfl), ⟨litGet (by kernel_rfl), ⟨litGet (by kernel_rfl), ⟨litGet (by kernel_rfl), ⟨litGet (by kernel_rfl), trivial⟩⟩⟩⟩⟩⟩⟩⟩⟩⟩⟩⟩⟩⟩⟩⟩⟩⟩⟩⟩⟩⟩⟩⟩⟩⟩⟩⟩⟩⟩⟩⟩⟩⟩⟩⟩⟩⟩⟩⟩⟩⟩⟩⟩⟩⟩⟩⟩⟩⟩⟩⟩⟩⟩⟩⟩⟩⟩⟩⟩⟩⟩⟩⟩⟩⟩⟩⟩⟩ (fun X119 => ?_)
          refine plStart ?_
          refine lk (v := .slice A116 (k + 1) c117) rfl rfl rfl ?_
          refine lk (v := .slice A out.length c) rfl rfl rfl ?_
          refine lk (v := .int .i64 (k : Int)) rfl rfl rfl ?_
          obtain ⟨A8, hrA, hsA⟩ := sliceL_eq Ty.sl_L_api_Point (hm114.rdRow 2 rfl) hkl
          refine litVal (i := 3) (v := .slice A8 (out.length - k) (c - k)) rfl (wn rfl) (sliceLRun (V := k) (.tmp 104) (.tmp 105) hsA rfl (litEv (by kernel_rfl)) (litEv (by kernel_rfl)) rfl) rfl (by decide) ?_
          refine plAppR (v := .slice A116 (k + 1) c117) (n := k + 1) (xs := ptsC (out.take k ++ [(⟨x, y, z⟩ : Pt)])) (ys := (ptsC out).drop (k * 3)) (A := A8) (m := (out.length - k)) (c := (c - k)) 5 Ty.sl_L_api_Point hm114 rfl (hrA) (i := 4) rfl (wn rfl) rfl (litEv (by kernel_rfl)) (litEv (by kernel_rfl)) (fun u hu => ptsC_one out u (List.mem_of_mem_drop hu)) (by omega) (by omega) ?_
          intro v124 w121 hm120
          clear hm114
          try simp only [List.cons_append, List.nil_append, List.set_cons_succ, List.set_cons_zero] at hm120
          replace hm120 := Mem.rowEq (v := v124) (e := 23) (size := 3) (n := (k + 1) + (out.length - k)) (n' := (out.take k ++ [(⟨x, y, z⟩ : Pt)] ++ out.drop k).length) (xs := (ptsC (out.take k ++ [(⟨x, y, z⟩ : Pt)])) ++ ((ptsC out).drop (k * 3))) (xs' := ptsC (out.take k ++ [(⟨x, y, z⟩ : Pt)] ++ out.drop k)) 5 hm120 rfl (by rw [ins_len _ hkl]; omega) (by rw [ptsC_app _ (out.drop k), ptsC_dp hkl])
          try simp only [List.cons_append, List.nil_append, List.set_cons_succ, List.set_cons_zero] at hm120
          obtain ⟨A122, c123, rfl⟩ := Mem.rowSl (v := v124) (e := 23) (size := 3) (n := (out.take k ++ [(⟨x, y, z⟩ : Pt)] ++ out.drop k).length) (xs := ptsC (out.take k ++ [(⟨x, y, z⟩ : Pt)] ++ out.drop k)) 5 hm120 rfl
          refine qP rfl ?_
          refine lk (v := .slice A122 ((out.take k ++ [(⟨x, y, z⟩ : Pt)] ++ out.drop k).length) c123) rfl rfl rfl ?_
          refine plD ?_
          refine inBlock_normal ?_
          refine then_normal (hK43 _ _ ?_)
          refine plStart ?_
          refine lk (v := .int .i64 z) rfl rfl rfl ?_
          refine litVal (v := .int .i64 (z + 1)) rfl (wn rfl) (addRun (A := z) (B := 1) (C := z + 1) (.tmp 61) (.const (.int .i64 1)) rfl (litEv (by kernel_rfl)) (litEv (by kernel_rfl)) rfl (by omega)) rfl (by decide) ?_
          refine lk (v := .int .i64 (z + 1)) rfl rfl rfl ?_
          refine plD ?_
          refine then_normal ?_
          exact ⟨_, by omega, (z + 1), (out.take k ++ [(⟨x, y, z⟩ : Pt)] ++ out.drop k), A122, c123, rfl, (by omega), (by omega), (hO.ins hok_ hB_ hkl hk1 hk2_), (by rw [ins_len _ hkl]; omega), ⟨litSize, rfl, ⟨litGet (by kernel_rfl), ⟨litGet (by kernel_rfl), ⟨litGet (by kernel_rfl), ⟨litGet (by kernel_rfl), ⟨litGet (by kernel_rfl), ⟨litGet (by kernel_rfl), ⟨litGet (by kernel_rfl), ⟨litGet (by kernel_rfl), ⟨litGet (by kernel_rfl), ⟨litGet (by kernel_rfl), ⟨litGet (by kernel_rfl), ⟨litGet (by kernel_rfl), ⟨litGet (by kernel_rfl), ⟨litGet (by kernel_rfl), ⟨litGet (by kernel_rfl), ⟨litGet (by kernel_rfl), ⟨litGet (by kernel_rfl), ⟨litGet (by kernel_rfl), ⟨litGet (by kernel_rfl), ⟨litGet (by kernel_rfl), ⟨litGet (by kernel_rfl), ⟨litGet (by kernel_rfl), ⟨litGet (by kernel_rfl), ⟨litGet (by kernel_rfl), ⟨litGet (by kernel_rfl), ⟨litGet (by kernel_rfl), ⟨litGet (by kernel_rfl), ⟨litGet (by kernel_rfl), ⟨litGet (by kernel_rfl), ⟨litGet (by kernel_rfl), ⟨litGet (by kernel_rfl), ⟨litGet (by kernel_rfl), trivial⟩⟩⟩⟩⟩⟩⟩⟩⟩⟩⟩⟩⟩⟩⟩⟩⟩⟩⟩⟩⟩⟩⟩⟩⟩⟩⟩⟩⟩⟩⟩⟩⟩, (hm120.sub (.cons_cons _ (.cons_cons _ (.cons _ (.cons _ (.cons _ (.cons_cons _ (.cons _ .slnil))))))))⟩
        refine litVal (v := .bool false) rfl (wn rfl) (boolTo (decide_eq_false h42) (leqRun (A := z) (B := (max a.z b.z)) (.tmp 54) (.tmp 59) rfl (litEv (by kernel_rfl)) (litEv (by kernel_rfl)))) rfl (by decide) ?_
        refine plD ?_
        refine then_normal (hK41 _ _ ?_)
        refine wp_cond_false (litEv (by kernel_rfl)) ?_
        refine wp_exit ?_
        refine then_exit ?_
        refine then_exit ?_
        refine inBlock_exit ?_
        refine inBlock_normal ?_
        refine then_normal (hK34 _ _ ?_)
        refine plStart ?_
        refine lk (v := .int .i64 y) rfl rfl rfl ?_
        refine litVal (v := .int .i64 (y + 1)) rfl (wn rfl) (addRun (A := y) (B := 1) (C := y + 1) (.tmp 47) (.const (.int .i64 1)) rfl (litEv (by kernel_rfl)) (litEv (by kernel_rfl)) rfl (by omega)) rfl (by decide) ?_
        refine lk (v := .int .i64 (y + 1)) rfl rfl rfl ?_
        refine plD ?_
        refine then_normal ?_
        exact ⟨_, by omega, (y + 1), out, _, _, rfl, (by omega), (by omega), (hO.nextY (by omega)), (by omega), ⟨litSize, rfl, ⟨litGet (by kernel_rfl), ⟨litGet (by kernel_rfl), ⟨litGet (by kernel_rfl), ⟨litGet (by kernel_rfl), ⟨litGet (by kernel_rfl), ⟨litGet (by kernel_rfl), ⟨litGet (by kernel_rfl), ⟨litGet (by kernel_rfl), ⟨litGet (by kernel_rfl), ⟨litGet (by kernel_rfl), ⟨litGet (by kernel_rfl), ⟨litGet (by kernel_rfl), ⟨litGet (by kernel_rfl), ⟨litGet (by kernel_rfl), ⟨litGet (by kernel_rfl), ⟨litGet (by kernel_rfl), ⟨litGet (by kernel_rfl), ⟨litGet (by kernel_rfl), ⟨litGet (by kernel_rfl), trivial⟩⟩⟩⟩⟩⟩⟩⟩⟩⟩⟩⟩⟩⟩⟩⟩⟩⟩⟩⟩, (hm37.sub (.cons_cons _ (.cons_cons _ (.cons_cons _ .slnil))))⟩
      refine litVal (v := .bool false) rfl (wn rfl) (boolTo (decide_eq_false h33) (leqRun (A := y) (B := (max a.y b.y)) (.tmp 40) (.tmp 45) rfl (litEv (by kernel_rfl)) (litEv (by kernel_rfl)))) rfl (by decide) ?_
      refine plD ?_
      refine then_normal (hK32 _ _ ?_)
      refine wp_cond_false (litEv (by kernel_rfl)) ?_
      refine wp_exit ?_
      refine then_exit ?_
      refine then_exit ?_
      refine inBlock_exit ?_
      refine inBlock_normal ?_
      refine then_normal (hK25 _ _ ?_)
      refine plStart ?_
      refine lk (v := .int .i64 x) rfl rfl rfl ?_
      refine litVal (v := .int .i64 (x + 1)) rfl (wn rfl) (addRun (A := x) (B := 1) (C := x + 1) (.tmp 33) (.const (.int .i64 1)) rfl (litEv (by kernel_rfl)) (litEv (by kernel_rfl)) rfl (by omega)) rfl (by decide) ?_
      refine lk (v := .int .i64 (x + 1)) rfl rfl rfl ?_
      refine plD ?_
      refine then_normal ?_
      exact ⟨_, by omega, (x + 1), out, _, _, rfl, (by omega), (by omega), (hO.nextX (by omega)), (by omega), ⟨litSize, rfl, ⟨litGet (by kernel_rfl), ⟨litGet (by kernel_rfl), ⟨litGet (by kernel_rfl), ⟨litGet (by kernel_rfl), ⟨litGet (by kernel_rfl), ⟨litGet (by kernel_rfl), trivial⟩⟩⟩⟩⟩⟩⟩, (hm28.sub (.cons_cons _ (.cons_cons _ (.cons_cons _ .slnil))))⟩
    refine litVal (v := .bool false) rfl (wn rfl) (boolTo (decide_eq_false h24) (leqRun (A := x) (B := (max a.x b.x)) (.tmp 26) (.tmp 31) rfl (litEv (by kernel_rfl)) (litEv (by kernel_rfl)))) rfl (by decide) ?_
    refine plD ?_
    refine then_normal (hK23 _ _ ?_)
    refine wp_cond_false (litEv (by kernel_rfl)) ?_
    refine wp_exit ?_
    refine then_exit ?_
    refine then_exit ?_
    refine inBlock_exit ?_
    refine then_normal (hK15 _ _ ?_)
    refine wp_seq_k fun K125 hK125 => ?_
    refine plStart ?_
    refine lk (v := .slice A out.length c) rfl rfl rfl ?_
    refine lk (v := .slice A out.length c) rfl rfl rfl ?_
    refine lk (v := .int .i64 0) rfl rfl rfl ?_
    refine plD ?_
    refine then_normal (hK125 _ _ ?_)
    refine wpPrune [(4, .slice A out.length c), (5, .int .i64 0)] ⟨litGet (by kernel_rfl), ⟨litGet (by kernel_rfl), trivial⟩⟩ (fun X126 => ?_)
    refine wp_ret ?_
    refine bodyPost_ret (v := .tuple #[.slice A out.length c, .int .i64 0]) (gRes2 rfl (gResTmp (t := 4) (v := .slice A out.length c) (litGet (by kernel_rfl))) (gResTmp (t := 5) (v := .int .i64 0) (litGet (by kernel_rfl)))) rfl ?_
    have hw_ := hO.done (by omega)
    subst hw_
    exact ⟨.slice A (walk a b).length c, congrArg (fun n_ => Ending.returned (.tuple #[.slice A (walk a b).length c, .int .i64 n_])) h13.symm, by unfold walkR; rw [if_pos h13]; exact hm19.row 2 rfl, hm19.bel⟩
  refine litVal (v := .bool true) rfl (wn rfl) (boolTo (by rw [decide_eq_false h13]; rfl) (neqRun (A := (ckE a b)) (B := 0) (.tmp 18) (.const (.int .i64 0)) rfl (litEv (by kernel_rfl)) (litEv (by kernel_rfl)))) rfl (by decide) ?_
  refine plD ?_
  refine then_normal (hK12 _ _ ?_)
  refine wp_cond_true (litEv (by kernel_rfl)) ?_
  refine wp_seq_k fun K127 hK127 => ?_
  refine plStart ?_
  refine lk (v := .int .i64 (ckE a b)) rfl rfl rfl ?_
  refine lk (v := .slice none 0 0) rfl rfl rfl ?_
  refine lk (v := .int .i64 (ckE a b)) rfl rfl rfl ?_
  refine plD ?_
  refine then_normal (hK127 _ _ ?_)
  refine wp_ret ?_
  refine then_ret ?_
  refine bodyPost_ret (v := .tuple #[.slice none 0 0, .int .i64 (ckE a b)]) (gRes2 rfl (gResTmp (t := 4) (v := .slice none 0 0) (litGet (by kernel_rfl))) (gResTmp (t := 5) (v := .int .i64 (ckE a b)) (litGet (by kernel_rfl)))) rfl ?_
  exact ⟨_, rfl, by unfold walkR; rw [if_neg h13]; exact (Mem.row (Mem.nilRow hm10 23 3) 2 rfl), hm10.bel⟩
end Go.Proofs.Ytopdcdjmiepdfaa
