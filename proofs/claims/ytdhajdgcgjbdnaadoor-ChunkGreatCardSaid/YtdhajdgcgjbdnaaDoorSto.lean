/- Blocks of the call's own, each known whole, beside nothing else. -/
import Derived.Test.YtdhajdgcgjbdnaaDoorFoot
set_option linter.unusedVariables false
namespace Go.Proofs.YtdhajdgcgjbdnaaDoor.Foot
open Go.RowKit Go.Proofs.YtdhajdgcgjbdnaaDoorW.PrintWords

structure Sto (W w : World) (L : List (Nat × Obj)) : Prop where
  below : Below W.heap.size W w
  nodup : (L.map Prod.fst).Nodup
  lo : ∀ x ∈ L, W.heap.size ≤ x.1
  at_ : ∀ x ∈ L, w.heap[x.1]? = some x.2
section
variable {W w w' : World} {L : List (Nat × Obj)} {i p : Nat} {o o' : Obj}
theorem Sto.start (W : World) : Sto W W [] := ⟨Below.refl _ _, List.nodup_nil, fun x h => (by cases h), fun x h => (by cases h)⟩
theorem Sto.of_below (h : Below W.heap.size W w) : Sto W w [] := ⟨h, List.nodup_nil, fun x h => (by cases h), fun x h => (by cases h)⟩
theorem Sto.get (h : Sto W w L) (i : Nat) (hi : L[i]? = some (p, o)) : w.heap[p]? = some o := h.at_ _ (List.mem_of_getElem? hi)
theorem Sto.step (h : Sto W w L) (hB : Below w.heap.size w w') : Sto W w' L :=
  ⟨h.below.trans (hB.mono h.below.size), h.nodup, h.lo, fun x hx => (hB.block _ (blk_lt (h.at_ x hx))).trans (h.at_ x hx)⟩
theorem Sto.drew (h : Sto W w L) : Sto W w.drew L := h.step (below_drew (Below.refl _ _))
theorem Sto.put (h : Sto W w L) (i : Nat) (hi : L[i]? = some (p, o)) (hb : w'.heap[p]? = some o') (hk : Keeps (fun k => k = p) w w') : Sto W w' (L.set i (p, o')) := by
  have hil : i < L.length := (List.getElem?_eq_some_iff.1 hi).1
  have hm : (L.set i (p, o')).map Prod.fst = L.map Prod.fst := by
    rw [List.map_set]
    apply List.ext_getElem?
    intro j
    by_cases hj : i = j
    · subst hj
      rw [List.getElem?_set_self (by rw [List.length_map]; exact hil), List.getElem?_map, hi]; rfl
    · rw [List.getElem?_set_ne hj]
  have hne : ∀ (j : Nat) (x : Nat × Obj), L[j]? = some x → j ≠ i → x.1 ≠ p := fun j x hj hji e => by
    have h1 : (L.map Prod.fst)[j]? = some p := by rw [List.getElem?_map, hj]; exact congrArg some e
    have h2 : (L.map Prod.fst)[i]? = some p := by rw [List.getElem?_map, hi]; rfl
    exact hji ((List.getElem?_inj (by rw [List.length_map]; exact (List.getElem?_eq_some_iff.1 hj).1) h.nodup).1 (h1.trans h2.symm))
  have hp := h.lo _ (List.mem_of_getElem? hi)
  refine ⟨h.below.trans (hk.to_below h.below.size (fun k hk => hk ▸ hp)), by rw [hm]; exact h.nodup, fun x hx => ?_, fun x hx => ?_⟩
  · have : x.1 ∈ (L.set i (p, o')).map Prod.fst := List.mem_map_of_mem hx
    rw [hm] at this
    obtain ⟨y, hy, e⟩ := List.mem_map.1 this
    rw [← e]; exact h.lo y hy
  · obtain ⟨j, hj, rfl⟩ := List.mem_iff_getElem.1 hx
    rw [List.length_set] at hj
    by_cases hji : i = j
    · subst hji
      rw [List.getElem_set_self]; exact hb
    · rw [List.getElem_set_ne hji]
      have hj2 : L[j]? = some L[j] := List.getElem?_eq_getElem hj
      exact hk.blk (h.at_ _ (List.getElem_mem hj)) (hne j _ hj2 (fun e => hji e.symm))
theorem Sto.push (h : Sto W w L) (o : Obj) : Sto W (w.alloc o) (L ++ [(w.heap.size, o)]) := by
  have h2 := h.step (below_alloc (Below.refl _ _) o)
  have hlt : ∀ x ∈ L, x.1 < w.heap.size := fun x hx => blk_lt (h.at_ x hx)
  refine ⟨h2.below, ?_, fun x hx => ?_, fun x hx => ?_⟩
  · rw [List.map_append, List.nodup_append]
    refine ⟨h.nodup, by simp, fun a ha b hb => ?_⟩
    obtain ⟨x, hx, rfl⟩ := List.mem_map.1 ha
    have := hlt x hx
    simp only [List.map_cons, List.map_nil, List.mem_singleton] at hb
    omega
  · rcases List.mem_append.1 hx with hx | hx
    · exact h.lo x hx
    · rw [List.mem_singleton.1 hx]; exact h.below.size
  · rcases List.mem_append.1 hx with hx | hx
    · exact h2.at_ x hx
    · rw [List.mem_singleton.1 hx]; exact blk_new w o
end
end Go.Proofs.YtdhajdgcgjbdnaaDoor.Foot
