/- Texts, one behind another, cut off anywhere. -/
import Derived.Test.YthbapljhhglamaaCodeY
set_option linter.unusedVariables false
namespace Go.Proofs.Ythbapljhhglamaa.Code
open Go.RowKit Go.Proofs.YthbapljhhglamaaW.PrintWords Go.Proofs.Ythbapljhhglamaa.CodeL
def flatT (l : List (List Int)) : List Int := l.flatMap encT
/-- Where the i-th text ends. -/
def endT (l : List (List Int)) (i : Nat) : Nat := (flatT (l.take i)).length
def endsL (l : List (List Int)) (i : Nat) : List Int := (List.range i).map fun j => (endT l (j + 1) : Int)
theorem endsL_succ (l : List (List Int)) (i : Nat) : endsL l (i + 1) = endsL l i ++ [(endT l (i + 1) : Int)] := by simp [endsL, List.range_succ]
theorem endsL_len (l : List (List Int)) (i : Nat) : (endsL l i).length = i := by simp [endsL]
theorem endsL_at (l : List (List Int)) {i n : Nat} (h : i < n) : (endsL l n).getD i 0 = (endT l (i + 1) : Int) := by simp [endsL, List.getD_eq_getElem?_getD, h]
theorem getD_at (l : List (List Int)) {i : Nat} (h : i < l.length) : l[i]? = some (l.getD i []) := by
  rw [List.getD_eq_getElem?_getD, List.getElem?_eq_getElem h]; rfl
theorem flatT_succ (l : List (List Int)) {i : Nat} (h : i < l.length) : flatT (l.take (i + 1)) = flatT (l.take i) ++ encT (l.getD i []) := by
  unfold flatT
  rw [List.take_succ_eq_append_getElem h, List.flatMap_append, List.getD_eq_getElem?_getD, List.getElem?_eq_getElem h]
  simp
theorem flatT_drop (l : List (List Int)) {i : Nat} (h : i < l.length) : flatT (l.drop i) = encT (l.getD i []) ++ flatT (l.drop (i + 1)) := by
  unfold flatT
  rw [List.drop_eq_getElem_cons h, List.getD_eq_getElem?_getD, List.getElem?_eq_getElem h, List.flatMap_cons]
  rfl
theorem endT_succ (l : List (List Int)) {i : Nat} (h : i < l.length) : endT l (i + 1) = endT l i + (encT (l.getD i [])).length := by
  unfold endT
  rw [flatT_succ l h, List.length_append]
theorem encT_len {b : List Int} (h : b.length < 2 ^ 64) : b.length < (encT b).length ∧ (encT b).length ≤ b.length + 10 := by
  have := enc_len10 h
  unfold encT
  rw [List.length_append]
  omega
theorem endT_le (l : List (List Int)) : ∀ i, i ≤ l.length → (∀ j, j < i → (l.getD j []).length ≤ 200) → endT l i ≤ 210 * i
  | 0, _, _ => by simp [endT, flatT]
  | i + 1, hi, h => by
    have := endT_le l i (by omega) (fun j hj => h j (by omega))
    have h1 := h i (by omega)
    have := (encT_len (b := l.getD i []) (by omega)).2
    rw [endT_succ l (by omega)]
    omega
/-- What is left, i texts having been read of the first k bytes; none: it has failed. -/
def cutS (l : List (List Int)) (k i : Nat) : Option (List Int) := if endT l i ≤ k then some ((flatT (l.drop i)).take (k - endT l i)) else none
theorem cutS_zero (l : List (List Int)) (k : Nat) : cutS l k 0 = some ((flatT l).take k) := by simp [cutS, endT, flatT]
theorem cutS_end (l : List (List Int)) (k : Nat) (h : k < (flatT l).length) : cutS l k l.length = none := by
  unfold cutS endT
  rw [List.take_length, if_neg (by omega)]
theorem cutS_len {l : List (List Int)} {k i : Nat} {xs : List Int} (h : cutS l k i = some xs) : xs.length ≤ k := by
  unfold cutS at h
  split at h
  · injection h with h
    rw [← h, List.length_take]
    omega
  · cases h
theorem textS_some {xs b r : List Int} (h : textD xs = some (b, r)) : textS (some xs) = (b, some r) := by unfold textS; simp only [h]
theorem textS_bad {xs : List Int} (h : textD xs = none) : textS (some xs) = ([], none) := by unfold textS; simp only [h]
theorem cutS_step (l : List (List Int)) (k : Nat) {i : Nat} (h : i < l.length) (hb : (l.getD i []).length ≤ 200) :
    textS (cutS l k i) = (if endT l (i + 1) ≤ k then l.getD i [] else [], cutS l k (i + 1)) := by
  have he := endT_succ l h
  have hbb : (l.getD i []).length < 2 ^ 64 := by omega
  by_cases h1 : endT l i ≤ k
  · have hs : cutS l k i = some ((encT (l.getD i []) ++ flatT (l.drop (i + 1))).take (k - endT l i)) := by
      unfold cutS
      rw [if_pos h1, flatT_drop l h]
    by_cases h2 : endT l (i + 1) ≤ k
    · rw [hs, if_pos h2, List.take_append, List.take_of_length_le (by omega), textS_some (textD_enc hbb _)]
      unfold cutS
      rw [if_pos h2, show k - endT l i - (encT (l.getD i [])).length = k - endT l (i + 1) by omega]
    · rw [hs, if_neg h2, List.take_append_of_le_length (by omega), textS_bad (textD_cut hbb (by omega))]
      unfold cutS
      rw [if_neg h2]
  · have hs : cutS l k i = none := by unfold cutS; rw [if_neg h1]
    have hs2 : cutS l k (i + 1) = none := by unfold cutS; rw [if_neg (by omega)]
    rw [hs, hs2, if_neg (by omega)]
    rfl
theorem flatT_byte {l : List (List Int)} (h : ∀ x ∈ l, Bytes8 x) : Bytes8 (flatT l) := by
  intro y hy
  obtain ⟨x, hx, hy⟩ := List.mem_flatMap.1 hy
  unfold encT at hy
  rcases List.mem_append.1 hy with hy | hy
  · exact enc_byte _ y hy
  · exact h x hx y hy
end Go.Proofs.Ythbapljhhglamaa.Code
