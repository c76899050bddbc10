/- Rows of literals, read. -/
import Derived.Test.YtdhajdgcgjbdnaaDoorDrawn
set_option linter.unusedVariables false
namespace Go.Proofs.YtdhajdgcgjbdnaaDoor.Leaf
open Go.RowKit Go.Proofs.YtdhajdgcgjbdnaaDoorW.PrintWords
theorem flat_get {α : Type} (enc : α → List Value) (sz : Nat) (hsz : ∀ x, (enc x).length = sz) : ∀ (xs : List α) (j : Nat) (x : α), xs[j]? = some x → ∀ i u, (enc x)[i]? = some u → (xs.flatMap enc)[j * sz + i]? = some u := by
  intro xs
  induction xs with
  | nil => intro j x h; simp at h
  | cons y ys ih =>
    intro j x h i u hu
    have hi : i < sz := by rw [← hsz x]; exact (List.getElem?_eq_some_iff.1 hu).1
    cases j with
    | zero =>
      simp only [List.getElem?_cons_zero, Option.some.injEq] at h
      subst h
      rw [Nat.zero_mul, Nat.zero_add, List.flatMap_cons, List.getElem?_append_left (by rw [hsz]; exact hi)]
      exact hu
    | succ j =>
      rw [List.getElem?_cons_succ] at h
      rw [List.flatMap_cons, List.getElem?_append_right (by rw [hsz, Nat.succ_mul]; omega), hsz, show (j + 1) * sz + i - sz = j * sz + i by rw [Nat.succ_mul]; omega]
      exact ih j x h i u hu
/-- A row of literals in a block: it is read as its elements. -/
theorem C_block {α : Type} (d : Kd α) (enc : α → List Value) (hsz : ∀ x, (enc x).length = d.sz) (w : World) (g : Nat) (C : Array Value) (t : Nat) (fr : Nat × Nat) (xs : List α) (hK : ∀ x ∈ xs, d.K w x (enc x))
    (hb : w.heap[g]? = some (.cells C t fr)) (hC : C.toList = xs.flatMap enc) (hm : xs.length ≤ 9223372036854775807) : d.C w (some ⟨g, 0, none⟩) xs.length xs := by
  refine ⟨rfl, hm, fun h0 => ⟨⟨g, 0, none⟩, rfl, fun j x hj => ⟨enc x, hsz x, hK x (List.mem_of_getElem? hj), fun i u hu => ?_⟩⟩⟩
  have := flat_get enc d.sz hsz xs j x hj i u hu
  rw [← hC, Array.getElem?_toList] at this
  rw [add_plain, World.cell?, hb]
  simpa using this
end Go.Proofs.YtdhajdgcgjbdnaaDoor.Leaf
