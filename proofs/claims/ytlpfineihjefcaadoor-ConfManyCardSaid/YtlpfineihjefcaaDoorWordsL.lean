/- strings.FieldsFunc at blanks (space, tab): the runs of bytes between, whatever the text holds. Plain words, no seat's function (the predicate is handed in as the seat's injected text has it). -/
import Derived.Test.YtlpfineihjefcaaDoorPlainA
import Derived.Lib.FieldsP
import Derived.Lib.DecodeN
set_option linter.unusedVariables false
set_option linter.unusedSimpArgs false
namespace Go.Proofs.YtlpfineihjefcaaDoor.Plain
open Go.RowKit Go.Proofs.YtlpfineihjefcaaDoorW.PrintWords

def spW (n : Nat) : Bool := n == 32 || n == 9
def wordsL (cur : List Int) : List Int → List (List Int)
  | [] => if cur = [] then [] else [cur]
  | c :: r => if c = 32 ∨ c = 9 then (if cur = [] then wordsL [] r else cur :: wordsL [] r) else wordsL (cur ++ [c]) r
theorem wordsL_on : ∀ (l cur r : List Int), (∀ c ∈ l, ¬ (c = 32 ∨ c = 9)) → wordsL cur (l ++ r) = wordsL (cur ++ l) r := by
  intro l
  induction l with
  | nil => intro cur r _; rw [List.nil_append, List.append_nil]
  | cons c l ih =>
    intro cur r h
    rw [List.cons_append, wordsL, if_neg (h c List.mem_cons_self), ih _ _ fun x hx => h x (List.mem_cons_of_mem _ hx), List.append_assoc]; rfl
theorem get_bytes (s : ByteArray) (j : Nat) (h : j < s.size) : (bytesOf s).getD j 0 = ((s.get! j).toNat : Int) := by
  have h2 : j < s.data.size := h
  unfold bytesOf
  rw [List.getD_eq_getElem?_getD, List.getElem?_map, Array.getElem?_toList, Array.getElem?_eq_getElem h2]
  show ((s.data[j].toNat : Int)) = _
  have : s.get! j = s.data[j] := by
    show s.data[j]! = _
    exact getElem!_pos s.data j h2
  rw [this]
theorem decode_facts (s : ByteArray) (pos : Nat) (h : pos < s.size) :
    (spW (Utf8.decode s pos).1 = true ∧ (Utf8.decode s pos).2 = 1 ∧ ((bytesOf s).getD pos 0 = 32 ∨ (bytesOf s).getD pos 0 = 9)) ∨
    (spW (Utf8.decode s pos).1 = false ∧ 1 ≤ (Utf8.decode s pos).2 ∧ pos + (Utf8.decode s pos).2 ≤ s.size ∧ ∀ j, pos ≤ j → j < pos + (Utf8.decode s pos).2 → ¬ ((bytesOf s).getD j 0 = 32 ∨ (bytesOf s).getD j 0 = 9)) := by
  rw [Lib.decode_at]
  have g0 := get_bytes s pos h
  have g1 : pos + 1 < s.size → (bytesOf s).getD (pos + 1) 0 = ((s.get! (pos + 1)).toNat : Int) := get_bytes s (pos + 1)
  have g2 : pos + 2 < s.size → (bytesOf s).getD (pos + 2) 0 = ((s.get! (pos + 2)).toNat : Int) := get_bytes s (pos + 2)
  have g3 : pos + 3 < s.size → (bytesOf s).getD (pos + 3) 0 = ((s.get! (pos + 3)).toNat : Int) := get_bytes s (pos + 3)
  generalize (s.get! pos).toNat = b0 at g0 ⊢
  generalize (s.get! (pos + 1)).toNat = b1 at g1 ⊢
  generalize (s.get! (pos + 2)).toNat = b2 at g2 ⊢
  generalize (s.get! (pos + 3)).toNat = b3 at g3 ⊢
  obtain ⟨n, hn⟩ : ∃ n, s.size - pos = n := ⟨_, rfl⟩
  rw [hn]
  have hsp : ∀ r : Nat, 128 ≤ r → spW r = false := fun r hr => by
    unfold spW
    rw [beq_false_of_ne (by omega), beq_false_of_ne (by omega)]; rfl
  have one : ∀ j, pos ≤ j → j < pos + 1 → j = pos := fun j a b => by omega
  unfold Lib.decodeN
  by_cases c0 : b0 < 128
  · rw [if_pos c0]
    by_cases hs : b0 = 32 ∨ b0 = 9
    · left
      refine ⟨?_, rfl, by omega⟩
      unfold spW
      rcases hs with rfl | rfl <;> rfl
    · right
      refine ⟨?_, Nat.le_refl _, by show pos + 1 ≤ s.size; omega, fun j a b => ?_⟩
      · unfold spW
        rw [beq_false_of_ne (by omega), beq_false_of_ne (by omega)]; rfl
      · rw [one j a b, g0]; omega
  rw [if_neg c0]
  right
  have bad : spW 65533 = false ∧ 1 ≤ 1 ∧ pos + 1 ≤ s.size ∧ ∀ j, pos ≤ j → j < pos + 1 → ¬ ((bytesOf s).getD j 0 = 32 ∨ (bytesOf s).getD j 0 = 9) :=
    ⟨by decide, Nat.le_refl _, by omega, fun j a b => by rw [one j a b, g0]; omega⟩
  by_cases c1 : b0 / 32 = 6 ∧ (1 < n ∧ b1 / 64 = 2)
  · rw [if_pos c1]
    have h1 := g1 (by omega)
    split
    · rename_i hr
      refine ⟨hsp _ hr, by show 1 ≤ 2; decide, by show pos + 2 ≤ s.size; omega, fun j a b => ?_⟩
      have hb : j < pos + 2 := b
      have : j = pos ∨ j = pos + 1 := by omega
      rcases this with rfl | rfl
      · rw [g0]; omega
      · rw [h1]; omega
    · exact bad
  rw [if_neg c1]
  by_cases c2 : b0 / 16 = 14 ∧ (1 < n ∧ b1 / 64 = 2) ∧ (2 < n ∧ b2 / 64 = 2)
  · rw [if_pos c2]
    have h1 := g1 (by omega)
    have h2 := g2 (by omega)
    split
    · rename_i hr
      refine ⟨hsp _ (by omega), by show 1 ≤ 3; decide, by show pos + 3 ≤ s.size; omega, fun j a b => ?_⟩
      have hb : j < pos + 3 := b
      have : j = pos ∨ j = pos + 1 ∨ j = pos + 2 := by omega
      rcases this with rfl | rfl | rfl
      · rw [g0]; omega
      · rw [h1]; omega
      · rw [h2]; omega
    · exact bad
  rw [if_neg c2]
  by_cases c3 : b0 / 8 = 30 ∧ (1 < n ∧ b1 / 64 = 2) ∧ (2 < n ∧ b2 / 64 = 2) ∧ (3 < n ∧ b3 / 64 = 2)
  · rw [if_pos c3]
    have h1 := g1 (by omega)
    have h2 := g2 (by omega)
    have h3 := g3 (by omega)
    split
    · rename_i hr
      refine ⟨hsp _ (by omega), by show 1 ≤ 4; decide, by show pos + 4 ≤ s.size; omega, fun j a b => ?_⟩
      have hb : j < pos + 4 := b
      have : j = pos ∨ j = pos + 1 ∨ j = pos + 2 ∨ j = pos + 3 := by omega
      rcases this with rfl | rfl | rfl | rfl
      · rw [g0]; omega
      · rw [h1]; omega
      · rw [h2]; omega
      · rw [h3]; omega
    · exact bad
  rw [if_neg c3]
  exact bad
/-- What spans say: their bytes. -/
def spanB (s : ByteArray) (x : Nat × Nat) : List Int := ((bytesOf s).take x.2).drop x.1
def curB (s : ByteArray) (pos : Nat) : Option Nat → List Int
  | none => []
  | some a => ((bytesOf s).take pos).drop a
theorem cut_more (l : List Int) {a p w : Nat} (h1 : a ≤ p) (h2 : p + w ≤ l.length) : (l.take (p + w)).drop a = (l.take p).drop a ++ (l.drop p).take w := by
  rw [List.take_add, List.drop_append_of_le_length (by rw [List.length_take]; omega)]
theorem spans_words (s : ByteArray) : ∀ (f pos : Nat) (st : Option Nat) (acc : List (Nat × Nat)), s.size ≤ f + pos → pos ≤ s.size → (∀ a, st = some a → a < pos) →
    (Lib.closeSpans s (Lib.spansFromP spW s f pos st acc)).map (spanB s) = acc.map (spanB s) ++ wordsL (curB s pos st) ((bytesOf s).drop pos) := by
  have hz := size_bytes s
  have stop : ∀ (pos : Nat) (st : Option Nat) (acc : List (Nat × Nat)), ¬ pos < s.size → pos ≤ s.size → (∀ a, st = some a → a < pos) → (Lib.closeSpans s (acc, st)).map (spanB s) = acc.map (spanB s) ++ wordsL (curB s pos st) ((bytesOf s).drop pos) := by
    intro pos st acc h hp ha
    have hps : pos = s.size := by omega
    rw [List.drop_eq_nil_of_le (by omega), wordsL]
    cases st with
    | none =>
      show _ = _ ++ (if ([] : List Int) = [] then [] else _)
      rw [if_pos rfl, List.append_nil]; rfl
    | some a =>
      have h1 := ha a rfl
      have hne : curB s pos (some a) ≠ [] := fun h0 => by
        have := congrArg List.length h0
        unfold curB at this
        rw [List.length_drop, List.length_take] at this
        simp only [List.length_nil] at this
        omega
      rw [if_neg hne]
      show (acc ++ [(a, s.size)]).map (spanB s) = _
      rw [List.map_append, hps]; rfl
  intro f
  induction f with
  | zero =>
    intro pos st acc h hp ha
    have h0 : ¬ pos < s.size := by omega
    rw [Lib.spansFromP_end _ _ _ _ _ _ h0]
    exact stop pos st acc h0 hp ha
  | succ f ih =>
    intro pos st acc h hp ha
    by_cases h0 : pos < s.size
    case neg =>
      rw [Lib.spansFromP_end _ _ _ _ _ _ h0]
      exact stop pos st acc h0 hp ha
    unfold Lib.spansFromP
    rw [if_pos h0]
    rcases decode_facts s pos h0 with ⟨e1, e2, e3⟩ | ⟨e1, e2, e3, e4⟩
    · rw [if_pos e1, e2, drop_cons (bytesOf s) 0 (show pos < (bytesOf s).length by omega), wordsL, if_pos e3]
      cases st with
      | none =>
        show (Lib.closeSpans s (Lib.spansFromP spW s f (pos + 1) none acc)).map (spanB s) = _
        rw [ih (pos + 1) none acc (by omega) (by omega) (fun _ h => by cases h)]
        show _ = _ ++ (if ([] : List Int) = [] then _ else _)
        rw [if_pos rfl]; rfl
      | some a =>
        have h1 := ha a rfl
        have hne : curB s pos (some a) ≠ [] := fun h0 => by
          have := congrArg List.length h0
          unfold curB at this
          rw [List.length_drop, List.length_take] at this
          simp only [List.length_nil] at this
          omega
        rw [if_neg hne]
        show (Lib.closeSpans s (Lib.spansFromP spW s f (pos + 1) none (acc ++ [(a, pos)]))).map (spanB s) = _
        rw [ih (pos + 1) none _ (by omega) (by omega) (fun _ h => by cases h), List.map_append, List.append_assoc]; rfl
    · rw [if_neg (by rw [e1]; decide)]
      generalize (Utf8.decode s pos).2 = w at e2 e3 e4 ⊢
      have hsplit : (bytesOf s).drop pos = ((bytesOf s).drop pos).take w ++ (bytesOf s).drop (pos + w) := by
        rw [← List.drop_drop, List.take_append_drop]
      have hno : ∀ c ∈ ((bytesOf s).drop pos).take w, ¬ (c = 32 ∨ c = 9) := by
        intro c hc
        obtain ⟨j, hj, rfl⟩ := List.getElem_of_mem hc
        rw [List.length_take, List.length_drop] at hj
        have hg : (((bytesOf s).drop pos).take w)[j]'(by rw [List.length_take, List.length_drop]; exact hj) = (bytesOf s).getD (pos + j) 0 := by
          rw [List.getElem_take, List.getElem_drop, List.getD_eq_getElem?_getD, List.getElem?_eq_getElem (by omega)]; rfl
        rw [hg]
        exact e4 (pos + j) (by omega) (by omega)
      rw [hsplit, wordsL_on _ _ _ hno]
      cases st with
      | none =>
        show (Lib.closeSpans s (Lib.spansFromP spW s f (pos + w) (some pos) acc)).map (spanB s) = _
        rw [ih (pos + w) (some pos) acc (by omega) e3 (fun a h => by injection h with h; omega)]
        congr 2
        show ((bytesOf s).take (pos + w)).drop pos = [] ++ _
        rw [List.nil_append, cut_more _ (Nat.le_refl _) (by omega), List.drop_eq_nil_of_le (by rw [List.length_take]; omega), List.nil_append]
      | some a =>
        have h1 := ha a rfl
        show (Lib.closeSpans s (Lib.spansFromP spW s f (pos + w) (some a) acc)).map (spanB s) = _
        rw [ih (pos + w) (some a) acc (by omega) e3 (fun b h => by injection h with h; omega)]
        congr 2
        show ((bytesOf s).take (pos + w)).drop a = _
        rw [cut_more _ (by omega) (by omega)]; rfl
/-- The words of a text, as bytes. -/
theorem words_bytes (s : ByteArray) : (Lib.goFieldsP spW s).map bytesOf = wordsL [] (bytesOf s) := by
  have h := spans_words s s.size 0 none [] (by omega) (by omega) (fun _ h => by cases h)
  rw [List.map_nil, List.nil_append] at h
  unfold Lib.goFieldsP Lib.spansOfP
  rw [List.map_map]
  have e : (bytesOf ∘ fun x : Nat × Nat => s.extract x.1 x.2) = spanB s := by
    funext x
    exact bytes_extract s x.1 x.2
  rw [e, h]; rfl
end Go.Proofs.YtlpfineihjefcaaDoor.Plain
