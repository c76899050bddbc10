/- The words of a text: what the program's Words and the document's come to: the same. -/
import Derived.Test.YtlpfineihjefcaaDoorGx1
import Derived.Test.YtlpfineihjefcaaDoorGx1
import Derived.Test.YtlpfineihjefcaaDoorWordsL
set_option linter.unusedVariables false
set_option linter.unusedSimpArgs false
namespace Go.Proofs.YtlpfineihjefcaaDoor.Plain
open Go.RowKit Go.Proofs.YtlpfineihjefcaaDoor.G Go.Proofs.YtlpfineihjefcaaDoorW.PrintWords

def wordsOf (s : ByteArray) : List ByteArray := Lib.goFieldsP spW s
theorem words_acl (s : ByteArray) (h : s.size ≤ 1000) : acl_Words.f s = some (wordsOf s) := if_pos (by omega)
theorem map_bytes_inj : ∀ {a b : List ByteArray}, a.map bytesOf = b.map bytesOf → a = b
  | [], [], _ => rfl
  | [], _ :: _, h => by cases h
  | _ :: _, [], h => by cases h
  | x :: a, y :: b, h => by
    rw [List.map_cons, List.map_cons] at h
    injection h with h1 h2
    rw [bytes_inj h1, map_bytes_inj h2]
/-- How a run stands that is not over. -/
def Run (s : ByteArray) (i : Nat) (st : Int) (cur : List Int) : Prop := (st = -1 ∧ cur = []) ∨ ∃ a : Nat, st = (a : Int) ∧ a < i ∧ cur = ((bytesOf s).take i).drop a
theorem run_ne {s : ByteArray} {i a : Nat} (hi : i ≤ (bytesOf s).length) (h : a < i) : ((bytesOf s).take i).drop a ≠ [] := fun h0 => by
  have := congrArg List.length h0
  rw [List.length_drop, List.length_take] at this
  simp only [List.length_nil] at this
  omega
/-! What words are; a text of words is told as them -/
theorem words_good : ∀ (l cur : List Int), (∀ c ∈ cur, ¬ (c = 32 ∨ c = 9)) → ∀ w ∈ wordsL cur l, w ≠ [] ∧ ∀ c ∈ w, ¬ (c = 32 ∨ c = 9) := by
  intro l
  induction l with
  | nil =>
    intro cur hc w hw
    rw [wordsL] at hw
    split at hw
    · cases hw
    · rw [List.mem_singleton.1 hw]; exact ⟨by assumption, hc⟩
  | cons c l ih =>
    intro cur hc w hw
    rw [wordsL] at hw
    split at hw
    · split at hw
      · exact ih [] (fun _ h => by cases h) w hw
      · rcases List.mem_cons.1 hw with rfl | hw
        · exact ⟨by assumption, hc⟩
        · exact ih [] (fun _ h => by cases h) w hw
    · rename_i h
      refine ih _ (fun x hx => ?_) w hw
      rcases List.mem_append.1 hx with hx | hx
      · exact hc x hx
      · rw [List.mem_singleton.1 hx]; exact h
theorem words_one {a : List Int} (h : a ≠ []) (ha : ∀ c ∈ a, ¬ (c = 32 ∨ c = 9)) (r : List Int) : wordsL [] (a ++ 32 :: r) = a :: wordsL [] r := by
  rw [wordsL_on a [] _ ha, List.nil_append, wordsL, if_pos (Or.inl rfl), if_neg h]
theorem words_last {a : List Int} (h : a ≠ []) (ha : ∀ c ∈ a, ¬ (c = 32 ∨ c = 9)) : wordsL [] a = [a] := by
  have := wordsL_on a [] [] ha
  rw [List.append_nil, List.nil_append, wordsL, if_neg h] at this
  exact this
theorem word_of {s w : ByteArray} (h : w ∈ wordsOf s) : bytesOf w ≠ [] ∧ ∀ c ∈ bytesOf w, ¬ (c = 32 ∨ c = 9) := by
  refine words_good (bytesOf s) [] (fun _ h => by cases h) (bytesOf w) ?_
  rw [← words_bytes]
  exact List.mem_map_of_mem h
end Go.Proofs.YtlpfineihjefcaaDoor.Plain
