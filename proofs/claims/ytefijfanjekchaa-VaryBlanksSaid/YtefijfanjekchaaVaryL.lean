/- Lists in strict order: made by putting in, or by sorting and leaving out what stands twice: the same. -/
import Derived.Test.YtefijfanjekchaaPlainA
import Derived.Test.YtefijfanjekchaaSrt
set_option linter.unusedVariables false
namespace Go.Proofs.Ytefijfanjekchaa.Plain
open Go.RowKit Go.Proofs.YtefijfanjekchaaW.PrintWords

abbrev W8 := List UInt8
def SS (l : List W8) : Prop := l.Pairwise (· < ·)
theorem w8_lt {a b : W8} (h1 : ¬ a < b) (h2 : ¬ a = b) : b < a := by
  by_cases h : b < a
  · exact h
  · exact absurd (List.le_antisymm (List.not_lt.1 h) (List.not_lt.1 h1)) h2
theorem ss_ext : ∀ l m : List W8, SS l → SS m → (∀ x, x ∈ l ↔ x ∈ m) → l = m
  | [], [], _, _, _ => rfl
  | [], b :: m, _, _, h => absurd ((h b).2 List.mem_cons_self) (by simp)
  | a :: l, [], _, _, h => absurd ((h a).1 List.mem_cons_self) (by simp)
  | a :: l, b :: m, hl, hm, h => by
    have hl' := List.pairwise_cons.1 hl
    have hm' := List.pairwise_cons.1 hm
    have hab : a = b := by
      rcases List.mem_cons.1 ((h a).1 List.mem_cons_self) with e | e
      · exact e
      · rcases List.mem_cons.1 ((h b).2 List.mem_cons_self) with f | f
        · exact f.symm
        · exact absurd (List.lt_trans (hm'.1 a e) (hl'.1 b f)) (List.lt_irrefl _)
    subst hab
    have hx : ∀ x, x ∈ l ↔ x ∈ m := fun x => by
      constructor
      · intro hx
        rcases List.mem_cons.1 ((h x).1 (List.mem_cons_of_mem _ hx)) with e | e
        · subst e; exact absurd (hl'.1 x hx) (List.lt_irrefl _)
        · exact e
      · intro hx
        rcases List.mem_cons.1 ((h x).2 (List.mem_cons_of_mem _ hx)) with e | e
        · subst e; exact absurd (hm'.1 x hx) (List.lt_irrefl _)
        · exact e
    rw [ss_ext l m hl'.2 hm'.2 hx]
def insL (n : W8) : List W8 → List W8
  | [] => [n]
  | x :: r => if x < n then x :: insL n r else if x = n then x :: r else n :: x :: r
theorem ins_mem (n x : W8) : ∀ l : List W8, x ∈ insL n l ↔ x = n ∨ x ∈ l
  | [] => by simp [insL]
  | y :: r => by
    rw [insL]
    by_cases h1 : y < n
    · rw [if_pos h1, List.mem_cons, ins_mem n x r, List.mem_cons]
      constructor
      · rintro (h | h | h)
        · exact .inr (.inl h)
        · exact .inl h
        · exact .inr (.inr h)
      · rintro (h | h | h)
        · exact .inr (.inl h)
        · exact .inl h
        · exact .inr (.inr h)
    · rw [if_neg h1]
      by_cases h2 : y = n
      · rw [if_pos h2, List.mem_cons]
        constructor
        · exact .inr
        · rintro (h | h)
          · exact .inl (h.trans h2.symm)
          · exact h
      · rw [if_neg h2, List.mem_cons]
theorem ins_ss (n : W8) : ∀ l : List W8, SS l → SS (insL n l)
  | [], _ => by simp [insL, SS]
  | y :: r, h => by
    have h' := List.pairwise_cons.1 h
    rw [insL]
    by_cases h1 : y < n
    · rw [if_pos h1]
      refine List.pairwise_cons.2 ⟨fun x hx => ?_, ins_ss n r h'.2⟩
      rcases (ins_mem n x r).1 hx with e | e
      · rw [e]; exact h1
      · exact h'.1 x e
    · rw [if_neg h1]
      by_cases h2 : y = n
      · rw [if_pos h2]; exact h
      · rw [if_neg h2]
        have hn := w8_lt h1 h2
        refine List.pairwise_cons.2 ⟨fun x hx => ?_, h⟩
        rcases List.mem_cons.1 hx with e | e
        · rw [e]; exact hn
        · exact List.lt_trans hn (h'.1 x e)
theorem fold_ins : ∀ (B acc : List W8), SS acc → SS (B.foldl (fun o n => insL n o) acc) ∧ ∀ x, x ∈ B.foldl (fun o n => insL n o) acc ↔ x ∈ acc ∨ x ∈ B
  | [], acc, h => ⟨h, fun x => by simp⟩
  | n :: B, acc, h => by
    obtain ⟨h1, h2⟩ := fold_ins B (insL n acc) (ins_ss n acc h)
    refine ⟨h1, fun x => ?_⟩
    rw [List.foldl_cons, h2, ins_mem, List.mem_cons]
    constructor
    · rintro ((h | h) | h)
      · exact .inr (.inl h)
      · exact .inl h
      · exact .inr (.inr h)
    · rintro (h | h | h)
      · exact .inl (.inr h)
      · exact .inl (.inl h)
      · exact .inr h
theorem compact_ss (l : List W8) (hl : l.Pairwise (· ≤ ·)) : SS (Lib.compact l) ∧ ∀ x, x ∈ Lib.compact l ↔ x ∈ l := by
  have key : ∀ m, m ≤ l.length → SS (Lib.compactUpTo l.toArray m) ∧ ∀ x, x ∈ Lib.compactUpTo l.toArray m ↔ x ∈ l.take m := by
    intro m
    induction m with
    | zero => intro _; exact ⟨by simp [Lib.compactUpTo, SS], fun x => by simp [Lib.compactUpTo]⟩
    | succ m ih =>
      intro hm
      have hlt : m < l.length := by omega
      obtain ⟨i1, i2⟩ := ih (by omega)
      have hg : l.toArray[m]! = l[m] := by simp [hlt]
      have hgt : l.take (m + 1) = l.take m ++ [l[m]] := List.take_succ_eq_append_getElem hlt
      have hle : ∀ x ∈ l.take m, x ≤ l[m] := by
        intro x hx
        obtain ⟨i, hi⟩ := List.getElem?_of_mem hx
        rw [List.getElem?_take] at hi
        split at hi
        case isFalse => cases hi
        rename_i him
        have hil : i < l.length := by omega
        rw [List.getElem?_eq_getElem hil] at hi
        have := List.pairwise_iff_getElem.1 hl i m hil hlt him
        rw [← Option.some.inj hi]; exact this
      rw [Lib.compactUpTo_succ, hgt]
      by_cases hk : Lib.keeps l.toArray m = true
      · rw [if_pos hk, hg]
        have hne : ∀ x ∈ l.take m, x < l[m] := by
          intro x hx
          rcases Nat.eq_zero_or_pos m with h0 | h0
          · subst h0; simp at hx
          · have hkk : l[m] ≠ l[m - 1] := by
              unfold Lib.keeps at hk
              have hk := of_decide_eq_true hk
              rcases hk with h | h
              · omega
              · have hg1 : l.toArray[m - 1]! = l[m - 1] := by simp [show m - 1 < l.length by omega]
                rw [hg, hg1] at h; exact h
            have h1 : x ≤ l[m - 1] := by
              obtain ⟨i, hi⟩ := List.getElem?_of_mem hx
              rw [List.getElem?_take] at hi
              split at hi
              case isFalse => cases hi
              rename_i him
              have hil : i < l.length := by omega
              rw [List.getElem?_eq_getElem hil] at hi
              rw [← Option.some.inj hi]
              rcases Nat.lt_or_ge i (m - 1) with h | h
              · exact List.pairwise_iff_getElem.1 hl i (m - 1) hil (by omega) h
              · have : i = m - 1 := by omega
                subst this; exact List.le_refl _
            have h2 : l[m - 1] ≤ l[m] := List.pairwise_iff_getElem.1 hl (m - 1) m (by omega) hlt (by omega)
            by_cases h3 : x < l[m]
            · exact h3
            · have h4 : l[m] ≤ x := List.not_lt.1 h3
              exact absurd (List.le_antisymm (List.le_trans h4 h1) h2) hkk
        refine ⟨List.pairwise_append.2 ⟨i1, by simp, fun x hx y hy => ?_⟩, fun x => by rw [List.mem_append, i2, List.mem_append]⟩
        rw [List.mem_singleton.1 hy]
        exact hne x ((i2 x).1 hx)
      · rw [if_neg hk, List.append_nil]
        refine ⟨i1, fun x => ?_⟩
        rw [i2, List.mem_append]
        refine ⟨.inl, fun h => h.elim id fun h => ?_⟩
        rw [List.mem_singleton.1 h]
        have hk2 : ¬ (m = 0 ∨ l.toArray[m]! ≠ l.toArray[m - 1]!) := fun h => hk (by unfold Lib.keeps; exact decide_eq_true h)
        have h0 : m ≠ 0 := fun h => hk2 (.inl h)
        have h1 : l.toArray[m]! = l.toArray[m - 1]! := Classical.byContradiction fun h => hk2 (.inr h)
        have hg1 : l.toArray[m - 1]! = l[m - 1] := by simp [show m - 1 < l.length by omega]
        rw [hg, hg1] at h1
        rw [h1]
        exact List.mem_iff_getElem?.2 ⟨m - 1, by rw [List.getElem?_take_of_lt (by omega), List.getElem?_eq_getElem (by omega)]⟩
  obtain ⟨h1, h2⟩ := key l.length (Nat.le_refl _)
  rw [List.take_length] at h2
  exact ⟨h1, h2⟩
theorem order_pairwise (B : List W8) : (Srt.inOrder B).Pairwise (· ≤ ·) := by
  have h := List.pairwise_mergeSort (le := fun x y : W8 => decide (x ≤ y)) (fun a b c h1 h2 => by
    simp only [decide_eq_true_eq] at *
    exact List.le_trans h1 h2) (fun a b => by
    simp only [Bool.or_eq_true, decide_eq_true_eq]
    exact List.le_total a b) B
  exact h.imp fun h => by simpa using h
theorem order_mem (B : List W8) (x : W8) : x ∈ Srt.inOrder B ↔ x ∈ B := List.mem_mergeSort
/-- Sorted and made single, or put in one by one: the same. -/
theorem sorted_ins (B : List W8) : Lib.compact (Srt.inOrder B) = B.foldl (fun o n => insL n o) [] := by
  obtain ⟨h1, h2⟩ := compact_ss _ (order_pairwise B)
  obtain ⟨h3, h4⟩ := fold_ins B [] (by simp [SS])
  exact ss_ext _ _ h1 h3 fun x => by rw [h2, order_mem, h4]; simp
end Go.Proofs.Ytefijfanjekchaa.Plain
