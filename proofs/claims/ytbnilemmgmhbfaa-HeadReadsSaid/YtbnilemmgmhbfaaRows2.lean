/- Rows of elements of two cells, by their block: read, written, cleared behind a place; told as a row of the printed words. -/
import Derived.Test.YtbnilemmgmhbfaaDrawn
import Derived.Laws.CopyRow
import Derived.Laws.CopyOwn
set_option linter.unusedVariables false
set_option linter.unusedSimpArgs false
namespace Go.Proofs.Ytbnilemmgmhbfaa.Leaf
open Go.RowKit Go.Proofs.YtbnilemmgmhbfaaW.PrintWords

def Row2 {α : Type} (p q : α → Value) (e : Nat) (W : World) (g cap : Nat) (ys : List α) : Prop :=
  ∃ C : Array Value, W.heap[g]? = some (.cells C e (0, 0)) ∧ C.size = cap * 2 ∧ ys.length ≤ cap ∧ cap ≤ 9223372036854775807 ∧ ∀ (j : Nat) (y : α), ys[j]? = some y → C[j * 2]? = some (p y) ∧ C[j * 2 + 1]? = some (q y)
section
variable {α : Type} {p q : α → Value} {e : Nat} {W W' : World} {g cap : Nat} {ys : List α}
theorem Row2.of_heap (h : Row2 p q e W g cap ys) (hh : W'.heap[g]? = W.heap[g]?) : Row2 p q e W' g cap ys := by
  obtain ⟨C, hb, r⟩ := h
  exact ⟨C, hh.trans hb, r⟩
theorem Row2.lt (h : Row2 p q e W g cap ys) : g < W.heap.size := by
  obtain ⟨C, hb, _⟩ := h
  exact (Array.getElem?_eq_some_iff.1 hb).1
theorem Row2.below (h : Row2 p q e W g cap ys) (hb : Below W.heap.size W W') : Row2 p q e W' g cap ys := h.of_heap (hb.block g h.lt)
theorem Row2.cell (h : Row2 p q e W g cap ys) {j : Nat} {y : α} (hy : ys[j]? = some y) : W.cell? ⟨g, j * 2, none⟩ = some (p y) ∧ W.cell? ⟨g, j * 2 + 1, none⟩ = some (q y) := by
  obtain ⟨C, hb, _, _, _, hc⟩ := h
  have := hc j y hy
  constructor <;> simp [World.cell?, hb, this]
theorem Row2.free (h : Row2 p q e W g cap ys) (j : Nat) : W.frozen? ⟨g, j, none⟩ = false := by
  obtain ⟨C, hb, _⟩ := h
  simp [World.frozen?, hb]
theorem Row2.set (h : Row2 p q e W g cap ys) {i : Nat} (hi : i < ys.length) (y : α) : Row2 p q e ((W.setCell ⟨g, i * 2, none⟩ (p y)).setCell ⟨g, i * 2 + 1, none⟩ (q y)) g cap (ys.set i y) := by
  obtain ⟨C, hb, hs, hl, hm, hc⟩ := h
  refine ⟨(C.setIfInBounds (i * 2) (p y)).setIfInBounds (i * 2 + 1) (q y), ?_, by simp [hs], by rw [List.length_set]; exact hl, hm, fun j z hz => ?_⟩
  · exact blk_set (blk_set hb _ _) _ _
  · have hj : j < ys.length := by
      have := (List.getElem?_eq_some_iff.1 hz).1
      rwa [List.length_set] at this
    by_cases hji : i = j
    · subst hji
      rw [List.getElem?_set_self hi] at hz
      injection hz with hz
      subst hz
      refine ⟨?_, ?_⟩
      · rw [Array.getElem?_setIfInBounds_ne (by omega), Array.getElem?_setIfInBounds_self_of_lt (by omega)]
      · rw [Array.getElem?_setIfInBounds_self_of_lt (by rw [Array.size_setIfInBounds]; omega)]
    · rw [List.getElem?_set_ne hji] at hz
      have := hc j z hz
      refine ⟨?_, ?_⟩
      · rw [Array.getElem?_setIfInBounds_ne (by omega), Array.getElem?_setIfInBounds_ne (by omega)]; exact this.1
      · rw [Array.getElem?_setIfInBounds_ne (by omega), Array.getElem?_setIfInBounds_ne (by omega)]; exact this.2
/-- Written anew from a place on, as long as the row is: what stands ahead stays. -/
theorem Row2.ahead (h : Row2 p q e W g cap ys) {i : Nat} (hi : i ≤ ys.length) (vs : List Value) (hv : i * 2 + vs.length ≤ cap * 2) (C : Array Value) (hb : W.heap[g]? = some (.cells C e (0, 0))) :
    Row2 p q e (W.setRow g (C.toList.take (i * 2 + 0) ++ vs ++ C.toList.drop (i * 2 + 0 + vs.length)).toArray) g cap (ys.take i) := by
  obtain ⟨C', hb', hs, hl, hm, hc⟩ := h
  rw [hb] at hb'
  injection hb' with hb'
  injection hb' with hb' _
  subst hb'
  have hsz : C.toList.length = cap * 2 := by rw [Array.length_toList, hs]
  refine ⟨_, setRow_heap W g C _ e (0, 0) hb, ?_, by rw [List.length_take]; omega, hm, fun j z hz => ?_⟩
  · simp only [List.size_toArray, List.length_append, List.length_take, List.length_drop, hsz]; omega
  · have hj : j < i := by
      have := (List.getElem?_eq_some_iff.1 hz).1
      rw [List.length_take] at this
      omega
    rw [List.getElem?_take_of_lt hj] at hz
    have := hc j z hz
    have at_ : ∀ q, q < i * 2 → (C.toList.take (i * 2 + 0) ++ vs ++ C.toList.drop (i * 2 + 0 + vs.length)).toArray[q]? = C[q]? := by
      intro q hq
      rw [List.getElem?_toArray, List.append_assoc, List.getElem?_append_left (by rw [List.length_take]; omega), List.getElem?_take_of_lt (by omega), Array.getElem?_toList]
    rw [at_ _ (by omega), at_ _ (by omega)]
    exact this
/-- A row of one's own of a kind whose elements' cells are told by themselves. -/
theorem Row2.to_R {d : Kd α} (h : Row2 p q e W g cap ys) (hd : d.sz = 2) (base : Nat) (hMb : ∀ (ok : Nat → Prop) (y : α), d.M W base ok y [p y, q y]) (hb0 : base ≤ g) (n : Nat) (hn : n = ys.length) :
    d.R e W base (fun _ => True) (.slice (some ⟨g, 0, none⟩) n cap) ys := by
  obtain ⟨C, hb, hs, hl, hm, hc⟩ := h
  subst hn
  have hsz : C.toList.length = cap * 2 := by rw [Array.length_toList, hs]
  refine ⟨fun _ _ => trivial, C.toList.take (ys.length * 2), ⟨by rw [List.length_take, hsz, hd]; omega, .inr ⟨g, cap, C, rfl, hb0, hb, hl, by simpa [maxLen] using hm, by rw [hs, hd], by rw [hd]⟩⟩, ⟨by rw [List.length_take, hsz, hd]; omega, fun j y hy => ?_⟩⟩
  have hj := (List.getElem?_eq_some_iff.1 hy).1
  have hcj := hc j y hy
  have e2 : ((C.toList.take (ys.length * 2)).drop (j * d.sz)).take d.sz = [p y, q y] := by
    rw [hd]
    apply List.ext_getElem?
    intro i
    rw [List.getElem?_take]
    by_cases hi : i < 2
    · rw [if_pos hi, List.getElem?_drop, List.getElem?_take_of_lt (by omega), Array.getElem?_toList]
      have : i = 0 ∨ i = 1 := by omega
      rcases this with rfl | rfl
      · rw [Nat.add_zero, hcj.1]; rfl
      · rw [hcj.2]; rfl
    · rw [if_neg hi]
      rw [List.getElem?_eq_none (by simp; omega)]
  rw [e2]
  exact hMb _ y
/-- .. and back. -/
theorem Row2.of_R {d : Kd α} {v : Value} {xs : List α} {base : Nat} (h : d.R e W base (fun _ => True) v xs) (hd : d.sz = 2) (hM : ∀ (ok : Nat → Prop) (y : α) (cs : List Value), d.M W base ok y cs → cs = [p y, q y]) (h0 : 0 < xs.length) :
    ∃ g cap, v = .slice (some ⟨g, 0, none⟩) xs.length cap ∧ base ≤ g ∧ Row2 p q e W g cap xs := by
  obtain ⟨_, inner, ⟨hil, hown⟩, hr⟩ := h
  rcases hown with ⟨_, hz⟩ | ⟨g, cap, C, rfl, hg, hb, hl, hm, hs, ht⟩
  · omega
  refine ⟨g, cap, rfl, hg, C, hb, by rw [hs, hd], hl, by simpa [maxLen] using hm, fun j y hy => ?_⟩
  have hj := (List.getElem?_eq_some_iff.1 hy).1
  have hR := hM _ y _ (hr.2 j y hy)
  have hsz : C.toList.length = cap * 2 := by rw [Array.length_toList, hs, hd]
  have at_ : ∀ i, i < 2 → C[j * 2 + i]? = ([p y, q y] : List Value)[i]? := by
    intro i hi
    rw [← hR, hd, List.getElem?_take_of_lt hi, List.getElem?_drop, ← ht, hd, List.getElem?_take_of_lt (by omega), Array.getElem?_toList]
  exact ⟨by simpa using at_ 0 (by omega), by simpa using at_ 1 (by omega)⟩
end
end Go.Proofs.Ytbnilemmgmhbfaa.Leaf
