/- Rules: what the document reads of a text, its text of a rule, as the program's. -/
import Derived.Test.YtjliebggdphmpaaGx10
import Derived.Test.YtjliebggdphmpaaGx11
import Derived.Test.YtjliebggdphmpaaAclRules
set_option linter.unusedVariables false
set_option linter.unusedSimpArgs false
namespace Go.Proofs.Ytjliebggdphmpaa.Plain
open Go.RowKit Go.Proofs.Ytjliebggdphmpaa.G Go.Proofs.YtjliebggdphmpaaW.PrintWords

theorem rvalid_vb (p : ByteArray) : Ev (fun k => ambryref23_Valid.f k p) (if vb p = true then 0 else 120) := rvalid_ev p
theorem sum_zero (a b c : Bool) : (wrap64 (wrap64 ((if a = true then 0 else 120) + (if b = true then 0 else 120)) + (if c = true then 0 else 120)) = 0) ↔ (a = true ∧ b = true ∧ c = true) := by
  cases a <;> cases b <;> cases c <;> decide +kernel
theorem rule_ref (s : ByteArray) (hs : s.size ≤ 1000) : Ev (fun k => ambryref23_RuleOf.f k s) (ruleW (wordsOf s)) := by
  refine Ev.congr (fun k => ambryref23_RuleOf.f.eq_1 k s) (ev_bind (words_ref s hs) ?_)
  generalize wordsOf s = w
  rcases w with _ | ⟨a, _ | ⟨m, _ | ⟨h, _ | ⟨p, _ | ⟨q, w⟩⟩⟩⟩⟩
  · exact ev_neg (by simp) (Ev.now _)
  · exact ev_neg (by simp) (Ev.now _)
  · exact ev_neg (by simp) (Ev.now _)
  · exact ev_neg (by simp) (Ev.now _)
  · have l4 := len4 a m h p
    have e1 : (rdOf ByteArray.empty [a, m, h, p] 0).toList = ([97, 108, 108, 111, 119] : List UInt8) ↔ a = allowW := ⟨fun e => toList_inj (e.trans (show _ = allowW.toList by decide +kernel)), fun e => by rw [e]; show allowW.toList = _; decide +kernel⟩
    have e2 : (rdOf ByteArray.empty [a, m, h, p] 0).toList = ([100, 101, 110, 121] : List UInt8) ↔ a = denyW := ⟨fun e => toList_inj (e.trans (show _ = denyW.toList by decide +kernel)), fun e => by rw [e]; show denyW.toList = _; decide +kernel⟩
    have e3 : ((rdOf ByteArray.empty [a, m, h, p] 0).toList == ([97, 108, 108, 111, 119] : List UInt8)) = decide (a = allowW) := by
      by_cases h : a = allowW
      · rw [beq_iff_eq.mpr (e1.2 h), decide_eq_true h]
      · rw [beq_false_of_ne fun e => h (e1.1 e), decide_eq_false h]
    refine ev_pos rfl (ev_pos (by omega) ?_)
    show Ev _ (rule4 a m h p)
    unfold rule4
    by_cases h1 : a = allowW
    · refine ev_pos (e1.2 h1) (ev_pos (by omega) (ev_bind (rvalid_vb m) (ev_pos (by omega) (ev_bind (rvalid_vb h) (ev_pos (by omega) (ev_bind (rvalid_vb p) ?_))))))
      rw [e3]
      by_cases hv : vb m = true ∧ vb h = true ∧ vb p = true
      · rw [if_pos (show (a = allowW ∨ a = denyW) ∧ vb m = true ∧ vb h = true ∧ vb p = true from ⟨Or.inl h1, hv⟩)]
        exact ev_pos ((sum_zero _ _ _).2 hv) (Ev.now _)
      · rw [if_neg (show ¬ ((a = allowW ∨ a = denyW) ∧ vb m = true ∧ vb h = true ∧ vb p = true) from fun x => hv x.2)]
        exact ev_neg (fun x => hv ((sum_zero _ _ _).1 x)) (Ev.now _)
    · refine ev_neg (fun x => h1 (e1.1 x)) ?_
      by_cases h2 : a = denyW
      · refine ev_pos (e2.2 h2) (ev_pos (by omega) (ev_bind (rvalid_vb m) (ev_pos (by omega) (ev_bind (rvalid_vb h) (ev_pos (by omega) (ev_bind (rvalid_vb p) ?_))))))
        rw [e3]
        by_cases hv : vb m = true ∧ vb h = true ∧ vb p = true
        · rw [if_pos (show (a = allowW ∨ a = denyW) ∧ vb m = true ∧ vb h = true ∧ vb p = true from ⟨Or.inr h2, hv⟩)]
          exact ev_pos ((sum_zero _ _ _).2 hv) (Ev.now _)
        · rw [if_neg (show ¬ ((a = allowW ∨ a = denyW) ∧ vb m = true ∧ vb h = true ∧ vb p = true) from fun x => hv x.2)]
          exact ev_neg (fun x => hv ((sum_zero _ _ _).1 x)) (Ev.now _)
      · rw [if_neg (show ¬ ((a = allowW ∨ a = denyW) ∧ vb m = true ∧ vb h = true ∧ vb p = true) from fun x => x.1.elim h1 h2)]
        exact ev_neg (fun x => h2 (e2.1 x)) (Ev.now _)
  · exact ev_neg (by simp only [List.length_cons]; omega) (Ev.now _)
theorem ruletext_ref (b : Bool) (m h p : ByteArray) (hm : m.size ≤ 1000) (hh : h.size ≤ 1000) (hp : p.size ≤ 1000) : ambryref23_RuleText.f b m h p = some ⟨(textL b m h p).toArray⟩ := by
  have sz : ∀ l : List UInt8, (ByteArray.mk l.toArray).size = l.length := fun l => by show l.toArray.size = _; rw [List.size_toArray]
  have s6 : (⟨#[97, 108, 108, 111, 119, 32]⟩ : ByteArray).size = 6 := rfl
  have s5 : (⟨#[100, 101, 110, 121, 32]⟩ : ByteArray).size = 5 := rfl
  have s1 : (⟨#[32]⟩ : ByteArray).size = 1 := rfl
  unfold ambryref23_RuleText.f
  cases b with
  | true =>
    rw [if_pos rfl, if_pos (by omega), if_pos (by rw [size_append]; omega), if_pos (by rw [size_append, size_append]; omega), if_pos (by rw [size_append, size_append, size_append]; omega), if_pos (by rw [size_append, size_append, size_append, size_append]; omega)]
    refine congrArg some (bytes_inj ?_)
    rw [bytes_text, bytes_append, bytes_append, bytes_append, bytes_append, bytes_append]
    simp only [lit_bytes, wordB, allowW, if_true, List.append_assoc]
    rfl
  | false =>
    rw [if_neg (by decide), if_pos (by omega), if_pos (by rw [size_append]; omega), if_pos (by rw [size_append, size_append]; omega), if_pos (by rw [size_append, size_append, size_append]; omega), if_pos (by rw [size_append, size_append, size_append, size_append]; omega)]
    refine congrArg some (bytes_inj ?_)
    rw [bytes_text, bytes_append, bytes_append, bytes_append, bytes_append, bytes_append]
    simp only [lit_bytes, wordB, denyW, List.append_assoc]
    rfl
end Go.Proofs.Ytjliebggdphmpaa.Plain
