/- Rules: what a text is read as by the program and by the document; a rule's text; what is read from it. -/
import Derived.Test.YtlpfineihjefcaaDoorGx2
import Derived.Test.YtlpfineihjefcaaDoorGx3
import Derived.Test.YtlpfineihjefcaaDoorGx4
import Derived.Test.YtlpfineihjefcaaDoorGx4
import Derived.Test.YtlpfineihjefcaaDoorRefWords
import Derived.Test.YtlpfineihjefcaaDoorPat
set_option linter.unusedVariables false
set_option linter.unusedSimpArgs false
namespace Go.Proofs.YtlpfineihjefcaaDoor.Plain
open Go.RowKit Go.Proofs.YtlpfineihjefcaaDoor.G Go.Proofs.YtlpfineihjefcaaDoorW.PrintWords

abbrev RuleR := Bool × ByteArray × ByteArray × ByteArray × Int
def badR : RuleR := (false, (⟨#[]⟩ : ByteArray), (⟨#[]⟩ : ByteArray), (⟨#[]⟩ : ByteArray), 122)
def allowW : ByteArray := ⟨#[97, 108, 108, 111, 119]⟩
def denyW : ByteArray := ⟨#[100, 101, 110, 121]⟩
theorem toList_inj {a b : ByteArray} (h : a.toList = b.toList) : a = b := by
  apply bytes_inj
  have := list_beq a b
  rw [h, beq_self_eq_true] at this
  exact beq_iff_eq.mp this.symm
/-- What the words of a text say. -/
def rule4 (a m h p : ByteArray) : RuleR := if (a = allowW ∨ a = denyW) ∧ vb m = true ∧ vb h = true ∧ vb p = true then (decide (a = allowW), m, h, p, 0) else badR
def ruleW : List ByteArray → RuleR
  | [a, m, h, p] => rule4 a m h p
  | _ => badR
theorem len4 (a m h p : ByteArray) : (([a, m, h, p] : List ByteArray).length : Int) = 4 := rfl
theorem len3 (m h p : ByteArray) : (([m, h, p] : List ByteArray).length : Int) = 3 := rfl
theorem wr1 : wrap64 (0 + 1) = 1 := by unfold wrap64; omega
theorem wr2 : wrap64 (1 + 1) = 2 := by unfold wrap64; omega
theorem wr3 : wrap64 (2 + 1) = 3 := by unfold wrap64; omega
theorem beqL (a b : ByteArray) : (a.toList == b.toList) = decide (a = b) := by
  by_cases h : a = b
  · rw [h, beq_self_eq_true, decide_eq_true rfl]
  · rw [beq_false_of_ne fun e => h (toList_inj e), decide_eq_false h]
theorem valid_vb (p : ByteArray) : Ev (fun k => glob_Valid.f k p) (if vb p = true then 0 else 120) := valid_ev p
theorem parse_acl (s : ByteArray) (hs : s.size ≤ 1000) : Ev (fun k => acl_Parse.f k s) (ruleW (wordsOf s)) := by
  refine Ev.congr (fun k => acl_Parse.f.eq_1 k s) (ev_some (words_acl s hs) ?_)
  generalize wordsOf s = w
  have j1 : ∀ w : List ByteArray, Ev (fun k => acl_Parse.j0 k w true) badR := fun w => Ev.step (fun k => acl_Parse.j0.eq_2 w true k) (ev_pos rfl (Ev.now _))
  have four : ∀ a m h p : ByteArray, (a = allowW ∨ a = denyW) → Ev (fun k => acl_Parse.j0 k [a, m, h, p] false) (rule4 a m h p) := by
    intro a m h p ha
    have l3 := len3 m h p
    have l4 := len4 a m h p
    refine Ev.step (fun k => acl_Parse.j0.eq_2 _ _ k) (ev_neg (by decide) (ev_pos (by omega) (ev_some rfl ?_)))
    show Ev (fun k => acl_Parse.l0 k [a, m, h, p] [m, h, p] 3 0) _
    unfold rule4
    refine Ev.step (fun k => acl_Parse.l0.eq_2 _ _ _ _ k) (ev_pos (by decide) (ev_pos (by decide) (ev_pos (by omega) (ev_bind (valid_vb m) ?_))))
    by_cases hm : vb m = true
    case neg => rw [if_neg hm, if_neg (fun h => hm h.2.1)]; exact ev_neg (by decide) (Ev.now _)
    rw [if_pos hm, wr1]
    refine ev_pos rfl (Ev.step (fun k => acl_Parse.l0.eq_2 _ _ _ _ k) (ev_pos (by decide) (ev_pos (by decide) (ev_pos (by omega) (ev_bind (valid_vb h) ?_)))))
    by_cases hh : vb h = true
    case neg => rw [if_neg hh, if_neg (fun x => hh x.2.2.1)]; exact ev_neg (by decide) (Ev.now _)
    rw [if_pos hh, wr2]
    refine ev_pos rfl (Ev.step (fun k => acl_Parse.l0.eq_2 _ _ _ _ k) (ev_pos (by decide) (ev_pos (by decide) (ev_pos (by omega) (ev_bind (valid_vb p) ?_)))))
    by_cases hp : vb p = true
    case neg => rw [if_neg hp, if_neg (fun x => hp x.2.2.2)]; exact ev_neg (by decide) (Ev.now _)
    rw [if_pos hp, wr3]
    refine ev_pos rfl (Ev.step (fun k => acl_Parse.l0.eq_2 _ _ _ _ k) (ev_neg (by decide) (ev_pos (by omega) (ev_some (show acl_word.f true = some allowW from rfl) (ev_pos (by omega) (ev_pos (by omega) (ev_pos (by omega) (ev_ret ?_))))))))
    rw [if_pos ⟨ha, hm, hh, hp⟩]
    show ((a.toList == allowW.toList), m, h, p, (0 : Int)) = _
    rw [beqL]
  rcases w with _ | ⟨a, _ | ⟨m, _ | ⟨h, _ | ⟨p, _ | ⟨q, w⟩⟩⟩⟩⟩
  · exact ev_neg (by simp) (j1 _)
  · exact ev_neg (by simp) (j1 _)
  · exact ev_neg (by simp) (j1 _)
  · exact ev_neg (by simp) (j1 _)
  · have l4 := len4 a m h p
    refine ev_pos rfl (ev_pos (by omega) (ev_some (show acl_word.f true = some allowW from rfl) ?_))
    show Ev (fun k => if a.toList = allowW.toList then acl_Parse.j0 k [a, m, h, p] false else (acl_word.f false).bind fun t127 => acl_Parse.j0 k [a, m, h, p] (a.toList != t127.toList)) (rule4 a m h p)
    by_cases h1 : a = allowW
    · exact ev_pos (by rw [h1]) (four a m h p (Or.inl h1))
    · refine ev_neg (fun e => h1 (toList_inj e)) (ev_some (show acl_word.f false = some denyW from rfl) ?_)
      by_cases h2 : a = denyW
      · have : (a.toList != denyW.toList) = false := by rw [bne, beqL, decide_eq_true h2]; rfl
        rw [this]
        exact four a m h p (Or.inr h2)
      · have : (a.toList != denyW.toList) = true := by rw [bne, beqL, decide_eq_false h2]; rfl
        rw [this]
        unfold rule4
        rw [if_neg (fun h => by rcases h.1 with h | h; exact h1 h; exact h2 h)]
        exact j1 _
  · exact ev_neg (by simp only [List.length_cons]; omega) (j1 _)
/-! A rule's text -/
def wordB (b : Bool) : ByteArray := if b = true then allowW else denyW
def textL (b : Bool) (m h p : ByteArray) : List UInt8 := (wordB b).data.toList ++ 32 :: (m.data.toList ++ 32 :: (h.data.toList ++ 32 :: p.data.toList))
theorem bytes_text (b : Bool) (m h p : ByteArray) : bytesOf ⟨(textL b m h p).toArray⟩ = bytesOf (wordB b) ++ 32 :: (bytesOf m ++ 32 :: (bytesOf h ++ 32 :: bytesOf p)) := by
  unfold textL bytesOf
  simp only [List.map_append, List.map_cons]
  rfl
/-! What is read is read back -/
theorem ruleW_text {s m h p : ByteArray} {b : Bool} (hr : ruleW (wordsOf s) = (b, m, h, p, 0)) : vb m = true ∧ vb h = true ∧ vb p = true ∧ wordsOf ⟨(textL b m h p).toArray⟩ = [wordB b, m, h, p] := by
  have hw : ∀ w ∈ wordsOf s, bytesOf w ≠ [] ∧ ∀ c ∈ bytesOf w, ¬ (c = 32 ∨ c = 9) := fun w h => word_of h
  generalize wordsOf s = w at hr hw
  have no : ¬ badR = (b, m, h, p, 0) := fun e => absurd (show (122 : Int) = 0 from congrArg (fun r : RuleR => r.2.2.2.2) e) (by decide)
  rcases w with _ | ⟨a, _ | ⟨m', _ | ⟨h', _ | ⟨p', _ | ⟨q, w⟩⟩⟩⟩⟩
  · exact absurd hr no
  · exact absurd hr no
  · exact absurd hr no
  · exact absurd hr no
  · unfold ruleW rule4 at hr
    dsimp only at hr
    split at hr
    case isFalse => exact absurd hr no
    rename_i hc
    injection hr with e1 hr
    injection hr with e2 hr
    injection hr with e3 hr
    injection hr with e4 hr
    subst e2; subst e3; subst e4
    refine ⟨hc.2.1, hc.2.2.1, hc.2.2.2, map_bytes_inj ?_⟩
    have hb : bytesOf (wordB b) ≠ [] ∧ ∀ c ∈ bytesOf (wordB b), ¬ (c = 32 ∨ c = 9) := by
      unfold wordB; split <;> exact ⟨by decide, by decide⟩
    have hm := hw m' (by simp)
    have hh := hw h' (by simp)
    have hp := hw p' (by simp)
    rw [wordsOf, words_bytes, bytes_text, words_one hb.1 hb.2, words_one hm.1 hm.2, words_one hh.1 hh.2, words_last hp.1 hp.2]
    rfl
  · exact absurd hr no
theorem back_text {s m h p : ByteArray} {b : Bool} (hr : ruleW (wordsOf s) = (b, m, h, p, 0)) : ruleW (wordsOf ⟨(textL b m h p).toArray⟩) = (b, m, h, p, 0) := by
  obtain ⟨hm, hh, hp, hw⟩ := ruleW_text hr
  rw [hw]
  show rule4 (wordB b) m h p = _
  unfold rule4
  have ha : wordB b = allowW ∨ wordB b = denyW := by unfold wordB; split <;> simp
  have hb : decide (wordB b = allowW) = b := by cases b <;> decide
  rw [if_pos ⟨ha, hm, hh, hp⟩, hb]
theorem ruleW_code (s : ByteArray) : (ruleW (wordsOf s)).2.2.2.2 = 0 ∨ (ruleW (wordsOf s)).2.2.2.2 = 122 := by
  unfold ruleW
  split
  · unfold rule4
    split
    · exact Or.inl rfl
    · exact Or.inr rfl
  · exact Or.inr rfl
end Go.Proofs.YtlpfineihjefcaaDoor.Plain
