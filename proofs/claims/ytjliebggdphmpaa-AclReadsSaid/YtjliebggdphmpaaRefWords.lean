/- The words of a text: what the program's Words and the document's come to: the same. -/
import Derived.Test.YtjliebggdphmpaaGx2
import Derived.Test.YtjliebggdphmpaaGx9
import Derived.Test.YtjliebggdphmpaaWordsL
set_option linter.unusedVariables false
set_option linter.unusedSimpArgs false
namespace Go.Proofs.Ytjliebggdphmpaa.Plain
open Go.RowKit Go.Proofs.Ytjliebggdphmpaa.G Go.Proofs.YtjliebggdphmpaaW.PrintWords

def wordsOf (s : ByteArray) : List ByteArray := Lib.goFieldsP spW s
theorem words_acl (s : ByteArray) (h : s.size ≤ 1000) : acl_Words.f s = some (wordsOf s) := if_pos (by omega)
theorem map_bytes_inj : ∀ {a b : List ByteArray}, a.map bytesOf = b.map bytesOf → a = b
  | [], [], _ => rfl
  | [], _ :: _, h => by cases h
  | _ :: _, [], h => by cases h
  | x :: a, y :: b, h => by
    rw [List.map_cons, List.map_cons] at h
    injection h with h1 h2
    rw [bytes_inj h1, map_bytes_inj h2]
/-- How a run stands that is not over. -/
def Run (s : ByteArray) (i : Nat) (st : Int) (cur : List Int) : Prop := (st = -1 ∧ cur = []) ∨ ∃ a : Nat, st = (a : Int) ∧ a < i ∧ cur = ((bytesOf s).take i).drop a
theorem run_ne {s : ByteArray} {i a : Nat} (hi : i ≤ (bytesOf s).length) (h : a < i) : ((bytesOf s).take i).drop a ≠ [] := fun h0 => by
  have := congrArg List.length h0
  rw [List.length_drop, List.length_take] at this
  simp only [List.length_nil] at this
  omega
theorem refwords_loop (s : ByteArray) (hs : s.size ≤ 1000) : ∀ (d i : Nat) (st : Int) (cur : List Int) (acc : List ByteArray), s.size - i = d → i ≤ s.size → Run s i st cur → acc.length ≤ i →
    ∃ R, Ev (fun k => ambryref23_Words.l0 k s acc st (i : Int)) R ∧ R.map bytesOf = acc.map bytesOf ++ wordsL cur ((bytesOf s).drop i) := by
  have hz := size_bytes s
  -- over the end
  have over : ∀ (acc : List ByteArray) (st : Int), Ev (fun k => ambryref23_Words.l0 k s acc st ((s.size + 1 : Nat) : Int)) acc := fun acc st =>
    Ev.step (fun k => ambryref23_Words.l0.eq_2 s acc st ((s.size + 1 : Nat) : Int) k) (ev_neg (by omega) (Ev.now _))
  intro d
  induction d with
  | zero =>
    intro i st cur acc hd hi hr ha
    obtain rfl : i = s.size := by omega
    rw [List.drop_eq_nil_of_le (by omega), wordsL]
    rcases hr with ⟨rfl, rfl⟩ | ⟨a, rfl, h1, rfl⟩
    · refine ⟨acc, ?_, by rw [if_pos rfl, List.append_nil]⟩
      refine Ev.step (fun k => ambryref23_Words.l0.eq_2 s acc (-1) (s.size : Int) k) (ev_pos (by omega) (ev_pos rfl ?_))
      refine Ev.step (fun k => ambryref23_Words.j1.eq_2 s acc (-1) (s.size : Int) true k) (ev_pos rfl ?_)
      refine Ev.step (fun k => ambryref23_Words.j2.eq_2 s acc (-1) (s.size : Int) true (decide ((-1 : Int) ≥ 0)) k) (ev_neg (by decide) (ev_pos rfl ?_))
      rw [wrap_succ (by omega)]
      exact over acc (-1)
    · refine ⟨acc ++ [s.extract a s.size], ?_, ?_⟩
      · refine Ev.step (fun k => ambryref23_Words.l0.eq_2 s acc (a : Int) (s.size : Int) k) (ev_pos (by omega) (ev_pos rfl ?_))
        refine Ev.step (fun k => ambryref23_Words.j1.eq_2 s acc (a : Int) (s.size : Int) true k) (ev_pos rfl ?_)
        refine Ev.step (fun k => ambryref23_Words.j2.eq_2 s acc (a : Int) (s.size : Int) true (decide ((a : Int) ≥ 0)) k) (ev_pos (decide_eq_true (by omega)) (ev_pos (by omega) (ev_pos (by omega) (ev_pos (by omega) (ev_pos (by omega) ?_)))))
        refine ev_some rfl (ev_pos rfl ?_)
        rw [wrap_succ (by omega), Int.toNat_natCast, Int.toNat_natCast]
        exact over _ (-1)
      · rw [if_neg (run_ne (by omega) h1), List.map_append, List.map_singleton, bytes_extract]
  | succ d ih =>
    intro i st cur acc hd hi hr ha
    have hlt : i < s.size := by omega
    rw [drop_cons (bytesOf s) 0 (show i < (bytesOf s).length by omega), wordsL]
    have step : ∀ b : Bool, b = decide ((bytesOf s).getD i 0 = 32 ∨ (bytesOf s).getD i 0 = 9) → ∀ R, Ev (fun k => ambryref23_Words.j1 k s acc st (i : Int) b) R → Ev (fun k => ambryref23_Words.l0 k s acc st (i : Int)) R := by
      intro b hb R h
      refine Ev.step (fun k => ambryref23_Words.l0.eq_2 s acc st (i : Int) k) (ev_pos (by omega) (ev_neg (by omega) (ev_pos (by omega) (ev_pos (by omega) ?_))))
      rw [bt_nat]
      by_cases h32 : (bytesOf s).getD i 0 = 32
      · refine ev_pos h32 ?_
        rw [decide_eq_true (Or.inl h32)] at hb
        rw [← hb]; exact h
      · refine ev_neg h32 ?_
        have : ((bytesOf s).getD i 0 == 9) = b := by
          rw [hb]
          by_cases h9 : (bytesOf s).getD i 0 = 9
          · rw [h9]; rfl
          · rw [beq_false_of_ne h9, decide_eq_false (by omega)]
        rw [this]; exact h
    by_cases hc : (bytesOf s).getD i 0 = 32 ∨ (bytesOf s).getD i 0 = 9
    · rw [if_pos hc]
      have hb := (decide_eq_true hc).symm
      rcases hr with ⟨rfl, rfl⟩ | ⟨a, rfl, h1, rfl⟩
      · rw [if_pos rfl]
        obtain ⟨R, e, hR⟩ := ih (i + 1) (-1) [] acc (by omega) (by omega) (Or.inl ⟨rfl, rfl⟩) (by omega)
        refine ⟨R, step true hb R ?_, hR⟩
        refine Ev.step (fun k => ambryref23_Words.j1.eq_2 s acc (-1) (i : Int) true k) (ev_pos rfl ?_)
        refine Ev.step (fun k => ambryref23_Words.j2.eq_2 s acc (-1) (i : Int) true (decide ((-1 : Int) ≥ 0)) k) (ev_neg (by decide) (ev_pos rfl ?_))
        rw [wrap_succ (by omega)]; exact e
      · rw [if_neg (run_ne (by omega) h1)]
        obtain ⟨R, e, hR⟩ := ih (i + 1) (-1) [] (acc ++ [s.extract a i]) (by omega) (by omega) (Or.inl ⟨rfl, rfl⟩) (by rw [List.length_append, List.length_singleton]; omega)
        refine ⟨R, step true hb R ?_, ?_⟩
        · refine Ev.step (fun k => ambryref23_Words.j1.eq_2 s acc (a : Int) (i : Int) true k) (ev_pos rfl ?_)
          refine Ev.step (fun k => ambryref23_Words.j2.eq_2 s acc (a : Int) (i : Int) true (decide ((a : Int) ≥ 0)) k) (ev_pos (decide_eq_true (by omega)) (ev_pos (by omega) (ev_pos (by omega) (ev_pos (by omega) (ev_pos (by omega) ?_)))))
          refine ev_some rfl (ev_pos rfl ?_)
          rw [wrap_succ (by omega), Int.toNat_natCast, Int.toNat_natCast]; exact e
        · rw [hR, List.map_append, List.map_singleton, bytes_extract, List.append_assoc]; rfl
    · rw [if_neg hc]
      have hb := (decide_eq_false hc).symm
      have hg : (bytesOf s).take (i + 1) = (bytesOf s).take i ++ [(bytesOf s).getD i 0] := by
        rw [List.take_succ_eq_append_getElem (by omega), List.getD_eq_getElem?_getD, List.getElem?_eq_getElem (by omega)]; rfl
      rcases hr with ⟨rfl, rfl⟩ | ⟨a, rfl, h1, rfl⟩
      · have hn : [(bytesOf s).getD i 0] = ((bytesOf s).take (i + 1)).drop i := by
          rw [hg, List.drop_append_of_le_length (by rw [List.length_take]; omega), List.drop_eq_nil_of_le (by rw [List.length_take]; omega), List.nil_append]
        obtain ⟨R, e, hR⟩ := ih (i + 1) (i : Int) [(bytesOf s).getD i 0] acc (by omega) (by omega) (Or.inr ⟨i, rfl, by omega, hn⟩) (by omega)
        refine ⟨R, step false hb R ?_, by rw [hR]; rfl⟩
        refine Ev.step (fun k => ambryref23_Words.j1.eq_2 s acc (-1) (i : Int) false k) (ev_neg (by decide) ?_)
        refine Ev.step (fun k => ambryref23_Words.j2.eq_2 s acc (-1) (i : Int) false false k) (ev_neg (by decide) (ev_neg (by decide) (ev_pos (by decide) ?_)))
        rw [wrap_succ (by omega)]; exact e
      · have hn : ((bytesOf s).take i).drop a ++ [(bytesOf s).getD i 0] = ((bytesOf s).take (i + 1)).drop a := by
          rw [hg, List.drop_append_of_le_length (by rw [List.length_take]; omega)]
        obtain ⟨R, e, hR⟩ := ih (i + 1) (a : Int) (((bytesOf s).take i).drop a ++ [(bytesOf s).getD i 0]) acc (by omega) (by omega) (Or.inr ⟨a, rfl, by omega, hn⟩) (by omega)
        refine ⟨R, step false hb R ?_, hR⟩
        refine Ev.step (fun k => ambryref23_Words.j1.eq_2 s acc (a : Int) (i : Int) false k) (ev_neg (by decide) ?_)
        refine Ev.step (fun k => ambryref23_Words.j2.eq_2 s acc (a : Int) (i : Int) false false k) (ev_neg (by decide) (ev_neg (by decide) (ev_neg (by omega) ?_)))
        rw [wrap_succ (by omega)]; exact e
theorem words_ref (s : ByteArray) (hs : s.size ≤ 1000) : Ev (fun k => ambryref23_Words.f k s) (wordsOf s) := by
  obtain ⟨R, e, hR⟩ := refwords_loop s hs _ 0 (-1) [] [] rfl (Nat.zero_le _) (Or.inl ⟨rfl, rfl⟩) (Nat.le_refl _)
  have : R = wordsOf s := map_bytes_inj (by rw [hR, wordsOf, words_bytes]; rfl)
  exact Ev.congr (fun k => ambryref23_Words.f.eq_1 k s) (this ▸ e)
/-! What words are; a text of words is told as them -/
theorem words_good : ∀ (l cur : List Int), (∀ c ∈ cur, ¬ (c = 32 ∨ c = 9)) → ∀ w ∈ wordsL cur l, w ≠ [] ∧ ∀ c ∈ w, ¬ (c = 32 ∨ c = 9) := by
  intro l
  induction l with
  | nil =>
    intro cur hc w hw
    rw [wordsL] at hw
    split at hw
    · cases hw
    · rw [List.mem_singleton.1 hw]; exact ⟨by assumption, hc⟩
  | cons c l ih =>
    intro cur hc w hw
    rw [wordsL] at hw
    split at hw
    · split at hw
      · exact ih [] (fun _ h => by cases h) w hw
      · rcases List.mem_cons.1 hw with rfl | hw
        · exact ⟨by assumption, hc⟩
        · exact ih [] (fun _ h => by cases h) w hw
    · rename_i h
      refine ih _ (fun x hx => ?_) w hw
      rcases List.mem_append.1 hx with hx | hx
      · exact hc x hx
      · rw [List.mem_singleton.1 hx]; exact h
theorem words_one {a : List Int} (h : a ≠ []) (ha : ∀ c ∈ a, ¬ (c = 32 ∨ c = 9)) (r : List Int) : wordsL [] (a ++ 32 :: r) = a :: wordsL [] r := by
  rw [wordsL_on a [] _ ha, List.nil_append, wordsL, if_pos (Or.inl rfl), if_neg h]
theorem words_last {a : List Int} (h : a ≠ []) (ha : ∀ c ∈ a, ¬ (c = 32 ∨ c = 9)) : wordsL [] a = [a] := by
  have := wordsL_on a [] [] ha
  rw [List.append_nil, List.nil_append, wordsL, if_neg h] at this
  exact this
theorem word_of {s w : ByteArray} (h : w ∈ wordsOf s) : bytesOf w ≠ [] ∧ ∀ c ∈ bytesOf w, ¬ (c = 32 ∨ c = 9) := by
  refine words_good (bytesOf s) [] (fun _ h => by cases h) (bytesOf w) ?_
  rw [← words_bytes]
  exact List.mem_map_of_mem h
end Go.Proofs.Ytjliebggdphmpaa.Plain
