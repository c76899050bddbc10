/- Any text is read as just the document's rule, or refused, and rules are told as they are. -/
import Derived.Test.YtjliebggdphmpaaAclRef
import Derived.Test.YtjliebggdphmpaaGx12
set_option linter.unusedVariables false
set_option linter.unusedSimpArgs false
namespace Go.Proofs.Ytjliebggdphmpaa.Pure
open Go.RowKit Go.Proofs.Ytjliebggdphmpaa.G Go.Proofs.YtjliebggdphmpaaW.PrintWords Go.Proofs.YtjliebggdphmpaaW.PrintLast Go.Proofs.Ytjliebggdphmpaa.Plain
theorem known_tab : ambrylaw26_known.f 3000 = some true := by decide +kernel
theorem known_ev : Ev (fun k => ambrylaw26_known.f k) true := Ev.of (fun k => ambrylaw26_known.mono k) known_tab
theorem light_one (b : Bool) (m h p : ByteArray) : (Ev (fun k => ambrylaw26_light.f k [⟨b, m, h, p⟩]) true ∧ m.size ≤ 100 ∧ h.size ≤ 100 ∧ p.size ≤ 100) ∨ Ev (fun k => ambrylaw26_light.f k [⟨b, m, h, p⟩]) false := by
  have go : ∀ r, Ev (fun k => ambrylaw26_light.l0 k [⟨b, m, h, p⟩] 0) r → Ev (fun k => ambrylaw26_light.f k [⟨b, m, h, p⟩]) r := fun r e => Ev.congr (fun k => ambrylaw26_light.f.eq_1 k _) (ev_neg (show ¬ ((1 : Int) > 20) by decide) e)
  have step : ∀ r, Ev (fun k => if (m.size : Int) > 100 then some false else if (h.size : Int) > 100 then some false else if (p.size : Int) > 100 then some false else ambrylaw26_light.l0 k [⟨b, m, h, p⟩] (wrap64 (0 + 1))) r → Ev (fun k => ambrylaw26_light.l0 k [⟨b, m, h, p⟩] 0) r := fun r e =>
    Ev.step (fun k => ambrylaw26_light.l0.eq_2 _ _ k) (ev_pos (show (0 : Int) < 1 by decide) (ev_pos (by decide) e))
  by_cases hm : m.size ≤ 100
  case neg => exact Or.inr (go _ (step _ (ev_pos (by omega) (Ev.now _))))
  by_cases hh : h.size ≤ 100
  case neg => exact Or.inr (go _ (step _ (ev_neg (by omega) (ev_pos (by omega) (Ev.now _)))))
  by_cases hp : p.size ≤ 100
  case neg => exact Or.inr (go _ (step _ (ev_neg (by omega) (ev_neg (by omega) (ev_pos (by omega) (Ev.now _))))))
  refine Or.inl ⟨go _ (step _ (ev_neg (by omega) (ev_neg (by omega) (ev_neg (by omega) ?_)))), hm, hh, hp⟩
  rw [wr1]
  exact Ev.step (fun k => ambrylaw26_light.l0.eq_2 _ _ k) (ev_neg (by simp) (Ev.now _))
theorem back_ev {s m h p : ByteArray} {b : Bool} (hr : ruleW (wordsOf s) = (b, m, h, p, 0)) : Ev (fun k => ambrylaw26_back.f k b m h p) true := by
  obtain ⟨hm, hh, hp, _⟩ := ruleW_text hr
  have hm := vb_size hm
  have hh := vb_size hh
  have hp := vb_size hp
  refine Ev.congr (fun k => ambrylaw26_back.f.eq_1 k b m h p) (ev_some (text_acl b m h p (by omega) (by omega) (by omega)) (ev_bind (parse_acl _ ?_) ?_))
  · have hl : ∀ x : ByteArray, x.data.toList.length = x.size := fun x => by rw [Array.length_toList]; rfl
    have hb : (wordB b).size ≤ 10 := by unfold wordB; split <;> decide
    show (textL b m h p).toArray.size ≤ _
    rw [List.size_toArray]
    simp only [textL, List.length_append, List.length_cons, hl]
    omega
  · rw [back_text hr]
    refine ev_pos rfl (ev_ret ?_)
    show (b == b && (m.toList == m.toList && (h.toList == h.toList && p.toList == p.toList))) = true
    simp only [beq_self_eq_true, Bool.and_self]
theorem AclReads_ev (s : ByteArray) (b : Bool) (m h p : ByteArray) : Ev (fun k => ambrylaw26_AclReads.f k s b m h p) true := by
  refine Ev.congr (fun k => ambrylaw26_AclReads.f.eq_1 k s b m h p) (ev_bind known_ev (ev_pos rfl ?_))
  have hj : Ev (fun k => ambrylaw26_AclReads.j0 k s true b m h p) true := Ev.step (fun k => ambrylaw26_AclReads.j0.eq_2 _ _ _ _ _ _ k) (ev_pos rfl (Ev.now _))
  by_cases hs : s.size ≤ 500
  case neg => exact ev_pos (by omega) hj
  refine ev_neg (by omega) ?_
  rcases light_one b m h p with ⟨e, hm, hh, hp⟩ | e
  case inr => exact ev_bind e hj
  refine ev_bind e (Ev.step (fun k => ambrylaw26_AclReads.j0.eq_2 _ _ _ _ _ _ k) (ev_neg (by decide) ?_))
  refine ev_bind (parse_acl s (by omega)) (ev_bind (rule_ref s (by omega)) (ev_pos rfl (ev_pos ?_ ?_)))
  · simp only [beq_self_eq_true, Bool.and_self]
  · refine ev_some (text_acl b m h p (by omega) (by omega) (by omega)) (ev_some (ruletext_ref b m h p (by omega) (by omega) (by omega)) (ev_pos rfl ?_))
    by_cases h0 : (ruleW (wordsOf s)).2.2.2.2 = 0
    · refine ev_pos h0 (ev_bind (back_ev (s := s) ?_) (Ev.now _))
      rw [← h0]
    · exact ev_neg h0 (Ev.now _)
end Go.Proofs.Ytjliebggdphmpaa.Pure
