/-
  What the bound on sizes gives for the elements of a []string. No statement is proved here.
-/
import Derived.SizedLaws
import Derived.Test.YthmhmjdppldmiaaDoorBase
namespace Go.Proofs.YthmhmjdppldmiaaDoor
open Go.RowKit
theorem weightsAll_mem {H : Type} {P : Program} {e : TypeId} {n : Nat} {d : DataW H} : ∀ {l : List (DataW H)} {i : Nat}, l[i]? = some d → n ∈ d.weights P e → n ∈ DataW.weightsAll P e l
  | [], i, h, _ => by simp at h
  | x :: r, 0, h, hn => by
    simp only [List.getElem?_cons_zero, Option.some.injEq] at h
    subst h
    rw [DataW.weightsAll]
    exact List.mem_append_left _ hn
  | x :: r, i + 1, h, hn => by
    rw [DataW.weightsAll]
    exact List.mem_append_right _ (weightsAll_mem (by simpa using h) hn)
theorem texts_sized {H : Type} {P : Program} {ts : List TypeId} {ds : List (DataW H)} (h : (DataW.weightsEach P ts ds).all (· ≤ reachBytes) = true) {j : Nat} {t e : TypeId} {D sp : List (DataW H)} (ht : ts[j]? = some t) (hd : ds[j]? = some (.slice D sp)) (hu : P.underlying t = some (.slice e))
    {z : List (List UInt8)} (hE : ∀ (i : Nat) (s : List UInt8), z[i]? = some s → D[i]? = some (.lit (.string s))) : ∀ y ∈ z, y.length ≤ 140737488351232 := by
  intro y hy
  obtain ⟨i, hi⟩ := List.getElem?_of_mem hy
  have hm : y.length ∈ (DataW.slice D sp).weights P t := by
    simp only [DataW.weights, hu]
    refine List.mem_cons_of_mem _ (List.mem_append_left _ (weightsAll_mem (hE i y hi) ?_))
    simp [DataW.weights]
  have := List.all_eq_true.1 h _ (DataW.weights_mem_each ht hd y.length hm)
  exact of_decide_eq_true this
end Go.Proofs.YthmhmjdppldmiaaDoor
