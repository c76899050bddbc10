/- What is in its form stays as it is. -/
import Derived.Test.YtgpkgfdojfnafaaDoorNormDots
import Derived.Test.YtgpkgfdojfnafaaDoorKx9
set_option linter.unusedVariables false
set_option linter.unusedSimpArgs false
namespace Go.Proofs.YtgpkgfdojfnafaaDoor.Pure
open Go.RowKit Go.Proofs.YtgpkgfdojfnafaaDoor.K Go.Proofs.YtgpkgfdojfnafaaDoorW.PrintWords Go.Proofs.YtgpkgfdojfnafaaDoorW.PrintLast Go.Proofs.YtgpkgfdojfnafaaDoor.Plain Go.Proofs.YtgpkgfdojfnafaaDoor.Norm
theorem qcut_at (e : ByteArray) (p q : List Int) (h : bytesOf e = p ++ 63 :: q) (hp : ∀ c ∈ p, c ≠ 63) : bytesOf (qCut e).1 = p ∧ bytesOf (qCut e).2.1 = q ∧ (qCut e).2.2 = true := by
  have hz := size_bytes e
  have hl : e.size = p.length + 1 + q.length := by rw [hz, h, List.length_append, List.length_cons]; omega
  have hm : (e.data.toList.map fun b => (b.toNat : Int)) = p ++ 63 :: q := h
  have hx : Lib.indexByte e.data.toList 63 = (p.length : Int) := by
    refine idx_hit 63 e.data.toList p.length (by rw [← size_data]; omega) ?_ ?_
    · rw [hm, List.getD_eq_getElem?_getD, List.getElem?_append_right (Nat.le_refl _), Nat.sub_self]; rfl
    · rw [hm, List.take_left' rfl]; exact hp
  unfold qCut Leaf.cutAt
  rw [hx, if_pos (by omega), Int.toNat_natCast]
  refine ⟨?_, ?_, rfl⟩
  · show bytesOf (e.extract 0 p.length) = p
    rw [bytes_extract, h, List.drop_zero, List.take_left' rfl]
  · show bytesOf (e.extract (p.length + 1) e.size) = q
    rw [bytes_extract, List.take_of_length_le (by omega), h, ← List.drop_drop, List.drop_left' rfl]; rfl
theorem qcut_none (e : ByteArray) (h : ∀ c ∈ bytesOf e, c ≠ 63) : (qCut e).1 = e ∧ (qCut e).2.2 = false := by
  have hx : Lib.indexByte e.data.toList 63 = -1 := idx_none 63 e.data.toList h
  unfold qCut Leaf.cutAt
  rw [hx, if_neg (by decide)]
  exact ⟨rfl, rfl⟩
theorem at_63 (l : List Int) : (∀ c ∈ l, c ≠ 63) ∨ ∃ p q, l = p ++ 63 :: q ∧ ∀ c ∈ p, c ≠ 63 := by
  by_cases h : (63 : Int) ∈ l
  · obtain ⟨p, q, he, hn⟩ := List.eq_append_cons_of_mem h
    exact .inr ⟨p, q, he, fun c hc e => hn (e ▸ hc)⟩
  · exact .inl fun c hc e => h (e ▸ hc)
/-- What a whole address in its form is: it is told as it is, and begins with a slash. -/
theorem target_again {s : ByteArray} {t : ByteArray} (h : targetB s = (t, true)) : escL (bytesOf t) = some (bytesOf t) ∧ targetB t = (t, true) ∧ (∃ r, bytesOf t = 47 :: r) := by
  unfold targetB at h
  cases he : escL (bytesOf s) with
  | none => rw [he] at h; cases h
  | some y =>
    rw [he] at h
    have hT : targetE (strOfNums y) = (t, true) := h
    clear h
    have hy : escL y = some y := esc_again _ _ he
    have hrange : ∀ c ∈ y, 0 ≤ c ∧ c ≤ 255 := by
      have key : ∀ l y, escL l = some y → (∀ c ∈ l, 0 ≤ c ∧ c ≤ 255) → ∀ c ∈ y, 0 ≤ c ∧ c ≤ 255 := by
        refine esc_ind (P := fun l => ∀ y, escL l = some y → (∀ c ∈ l, 0 ≤ c ∧ c ≤ 255) → ∀ c ∈ y, 0 ≤ c ∧ c ≤ 255) ?_ ?_ ?_ ?_ ?_
        · intro y h _ c hc; rw [escL_nil] at h; injection h with h; rw [← h] at hc; cases hc
        · intro d r hd ih y h hl c hc
          rw [escL_plain hd] at h
          obtain ⟨z, hz, rfl⟩ := Option.map_eq_some_iff.1 h
          rcases List.mem_cons.1 hc with rfl | hc
          · exact hl _ List.mem_cons_self
          · exact ih z hz (fun x hx => hl x (List.mem_cons_of_mem _ hx)) c hc
        · intro y h; rw [escL_short0] at h; cases h
        · intro a y h; rw [escL_short1] at h; cases h
        · intro a b r ih y h hl c hc
          rw [escL_hex] at h
          split at h
          · rename_i hh
            obtain ⟨z, hz, rfl⟩ := Option.map_eq_some_iff.1 h
            have ta := hex_top a
            have tb := hex_top b
            rcases List.mem_append.1 hc with hc | hc
            · unfold encC at hc
              have dig : ∀ n : Int, 0 ≤ n → n ≤ 15 → 0 ≤ digU n ∧ digU n ≤ 255 := fun n h0 h1 => by unfold digU; split <;> omega
              split at hc
              · rw [List.mem_singleton.1 hc]; omega
              · simp only [List.mem_cons, List.not_mem_nil, or_false] at hc
                rcases hc with rfl | rfl | rfl
                · omega
                · exact dig _ (by omega) (by omega)
                · exact dig _ (by omega) (by omega)
            · exact ih z hz (fun x hx => hl x (by simp [hx])) c hc
          · cases h
      exact key _ _ he (bytes_range s)
    have hb : bytesOf (strOfNums y) = y := bytes_of_nums hrange
    generalize strOfNums y = e at hT hb
    subst hb
    have finish : ∀ (p : List Int) (tail : List Int), bytesOf t = dotsL p ++ tail → Fixed p → Fixed tail → (∀ c ∈ p, c ≠ 63) → (tail = [] ∨ ∃ q, tail = 63 :: q) → escL (bytesOf t) = some (bytesOf t) ∧ targetB t = (t, true) ∧ (∃ r, bytesOf t = 47 :: r) := by
      intro p tail hbt hp htl h63 htail
      have hfix : Fixed (bytesOf t) := by rw [hbt]; exact Fixed.append (dots_fixed hp) htl
      have hd63 : ∀ c ∈ dotsL p, c ≠ 63 := dots_pure (P := fun c => c ≠ 63) (by decide) h63
      refine ⟨hfix, ?_, ?_⟩
      · unfold targetB
        have hf2 : escL (bytesOf t) = some (bytesOf t) := hfix
        rw [hf2]
        show targetE (strOfNums (bytesOf t)) = (t, true)
        rw [strOf_bytes]
        unfold targetE
        rcases htail with rfl | ⟨q, rfl⟩
        · rw [List.append_nil] at hbt
          obtain ⟨e1, e2⟩ := qcut_none t (by rw [hbt]; exact hd63)
          rw [e2, if_neg (by decide), e1]
          congr 1
          refine bytes_inj ?_
          rw [bytes_dots, hbt, dots_again]
        · obtain ⟨e1, e2, e3⟩ := qcut_at t _ _ hbt hd63
          rw [e3, if_pos rfl]
          congr 1
          refine bytes_inj ?_
          rw [bytes_append, bytes_append, bytes_dots, e1, e2, dots_again, hbt]; rfl
      · obtain ⟨r, hr⟩ := dots_head p
        exact ⟨r ++ tail, by rw [hbt, hr]; rfl⟩
    unfold targetE at hT
    rcases at_63 (bytesOf e) with h63 | ⟨p, q, hpq, h63⟩
    · obtain ⟨e1, e2⟩ := qcut_none e h63
      rw [e2, if_neg (by decide), e1] at hT
      have ht : dotsB e = t := (Prod.mk.inj hT).1
      exact finish (bytesOf e) [] (by rw [← ht, bytes_dots, List.append_nil]) hy Fixed.nil h63 (.inl rfl)
    · obtain ⟨e1, e2, e3⟩ := qcut_at e p q hpq h63
      rw [e3, if_pos rfl] at hT
      have ht : dotsB (qCut e).1 ++ ((⟨#[63]⟩ : ByteArray) ++ (qCut e).2.1) = t := (Prod.mk.inj hT).1
      have hF : Fixed (p ++ 63 :: q) := by rw [← hpq]; exact hy
      obtain ⟨f1, f2⟩ := Fixed.cut (by decide) (by decide) hF
      refine finish p (63 :: q) ?_ f1 (Fixed.cons (by decide) f2) h63 (.inr ⟨q, rfl⟩)
      rw [← ht, bytes_append, bytes_append, bytes_dots, e1, e2]; rfl
theorem NormOnce : ambrylaw23_NormOnce.Pure := by
  intro s _
  refine Ev.rounds (Ev.congr (fun k => ambrylaw23_NormOnce.f.eq_1 k s) (ev_bind known_ev (ev_pos rfl ?_)))
  by_cases hs : (s.size : Int) > 500
  · exact ev_pos hs (Ev.now _)
  refine ev_neg hs (ev_bind (target_norm s (by omega)) ?_)
  have hz := target_size (s := s) (by omega)
  obtain ⟨⟨t, b⟩, ht⟩ : ∃ x, targetB s = x := ⟨_, rfl⟩
  rw [ht] at hz ⊢
  cases b with
  | false =>
    refine ev_neg (by show ¬ (false = true); decide) (ev_ret ?_)
    have h0 : t = ⟨#[]⟩ := by
      unfold targetB at ht
      cases he : escL (bytesOf s) with
      | none => rw [he] at ht; exact ((Prod.mk.inj ht).1).symm
      | some y =>
        rw [he] at ht
        have ht : targetE (strOfNums y) = (t, false) := ht
        unfold targetE at ht
        split at ht <;> cases (Prod.mk.inj ht).2
    rw [h0]
    show ((⟨#[]⟩ : ByteArray).toList == ([] : List UInt8)) = true
    rw [(is_none _).2 rfl]; rfl
  | true =>
    obtain ⟨h1, h2, r, h3⟩ := target_again ht
    have hz : t.size ≤ 1100 := hz
    have hf : finE [] (escL (bytesOf t)) = (t, true) := by
      rw [h1]
      show (strOfNums ([] ++ bytesOf t), true) = (t, true)
      rw [List.nil_append, strOf_bytes]
    have hpos : 0 < t.size := by rw [size_bytes, h3]; exact Nat.succ_pos _
    have hbt : bt t 0 = 47 := by
      have := bt_nat t 0
      rw [h3] at this
      exact this
    have e1 := target_norm t (by omega)
    have e2 := esc_norm t (by omega)
    rw [h2] at e1
    rw [hf] at e2
    refine ev_pos rfl (ev_bind e1 (ev_bind e2 (ev_pos rfl (ev_pos rfl (ev_pos rfl (ev_pos rfl (ev_pos ?_ (ev_pos ?_ (ev_ret ?_)))))))))
    · show (t.size : Int) > 0; omega
    · show (0 : Int) < (t.size : Int); omega
    · show (bt t 0 == 47) = true
      rw [hbt]; rfl
end Go.Proofs.YtgpkgfdojfnafaaDoor.Pure
