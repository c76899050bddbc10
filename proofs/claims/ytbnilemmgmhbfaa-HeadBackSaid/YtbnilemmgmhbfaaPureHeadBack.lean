/- Right fields, written, are read back as they are. -/
import Derived.Test.YtbnilemmgmhbfaaHeadLists
import Derived.Test.YtbnilemmgmhbfaaHx8
set_option linter.unusedVariables false
set_option linter.unusedSimpArgs false
namespace Go.Proofs.Ytbnilemmgmhbfaa.Pure
open Go.RowKit Go.Proofs.Ytbnilemmgmhbfaa.H Go.Proofs.YtbnilemmgmhbfaaW.PrintWords Go.Proofs.Ytbnilemmgmhbfaa.Plain
theorem back_length (C : Nat) : ∀ l : List S39, (∀ x ∈ l, x.f0.size + x.f1.size + 4 ≤ C) → (head_Lines.text l).length ≤ l.length * C := by
  intro l
  induction l with
  | nil => intro _; exact Nat.zero_le _
  | cons x l ih =>
    intro h
    have h1 : head_Lines.text (x :: l) = head_Lines.one x ++ head_Lines.text l := rfl
    have h2 := h x List.mem_cons_self
    have h3 := ih fun y hy => h y (List.mem_cons_of_mem _ hy)
    have h4 : (head_Lines.one x).length = x.f0.size + x.f1.size + 4 := by
      unfold head_Lines.one
      simp only [List.length_append, List.length_cons, List.length_nil, Array.length_toList]
      show x.f0.data.size + 2 + x.f1.data.size + 2 = x.f0.data.size + x.f1.data.size + 4
      omega
    rw [h1, List.length_append, List.length_cons, Nat.succ_mul]
    omega
theorem back_cons (x : S39) (l : List S39) : head_Lines.text (x :: l) = x.f0.data.toList ++ [58, 32] ++ x.f1.data.toList ++ [13, 10] ++ head_Lines.text l := rfl
theorem data_extract (s : ByteArray) (a b : Nat) : (s.extract a b).data.toList = (s.data.toList.take b).drop a := by
  rw [ByteArray.data_extract, Array.toList_extract, List.extract_eq_take_drop, List.drop_take]
theorem size_data (b : ByteArray) : b.size = b.data.toList.length := by rw [Array.length_toList]; rfl
theorem colon_at : ∀ a b : List Int, (∀ c ∈ a, c ≠ 58) → colonN (a ++ 58 :: b) = a.length := by
  intro a b
  unfold colonN
  induction a with
  | nil => intro _; rfl
  | cons c a ih =>
    intro h
    rw [List.cons_append, List.findIdx_cons, decide_eq_false (h c List.mem_cons_self), cond_false, ih fun x hx => h x (List.mem_cons_of_mem _ hx)]
    rfl
theorem line_back (x : S39) (s : ByteArray) (h : s.data.toList = x.f0.data.toList ++ [58, 32] ++ x.f1.data.toList) (ht : tokenL (bytesOf x.f0) = true) (hv : valueL (bytesOf x.f1) = true) : lineP s = some x := by
  have hb : bytesOf s = bytesOf x.f0 ++ 58 :: (32 :: bytesOf x.f1) := by
    unfold bytesOf
    rw [h]; simp
  have hn : ∀ c ∈ bytesOf x.f0, c ≠ 58 := by
    intro c hc h58
    unfold tokenL at ht
    rw [Bool.and_eq_true] at ht
    have := List.all_eq_true.1 ht.1 c hc
    rw [h58] at this
    have h2 := (tok_tab ⟨58, by decide⟩).1 this
    revert h2
    decide
  have hl : (bytesOf x.f0).length = x.f0.size := bytesOf_length x.f0
  have hsz : s.size = x.f0.size + 2 + x.f1.size := by
    rw [size_data, h, List.length_append, List.length_append, size_data x.f0, size_data x.f1]; rfl
  have hc : colon s = (x.f0.size : Int) := by
    rw [colon_eq, hb, colon_at _ _ hn, hl, if_pos (by omega)]
  have e1 : s.extract 0 x.f0.size = x.f0 := by
    refine bytes_inj ?_
    rw [bytes_extract, hb, List.drop_zero, List.take_left' hl]
  have e2 : trimB (s.extract (x.f0.size + 1) s.size) = x.f1 := by
    refine bytes_inj ?_
    have e3 : bytesOf (s.extract (x.f0.size + 1) s.size) = 32 :: bytesOf x.f1 := by
      rw [bytes_extract, List.take_of_length_le (by rw [← size_bytes]; exact Nat.le_refl _), hb]
      rw [show x.f0.size + 1 = (bytesOf x.f0).length + 1 by omega, List.drop_length_add_append]
      rfl
    rw [bytes_trim, e3, front_cons, if_pos (by decide)]
    unfold valueL at hv
    rw [Bool.and_eq_true] at hv
    exact eq_of_beq hv.2
  unfold lineP
  rw [hc, Int.toNat_natCast, e1, e2, if_pos ⟨by omega, ht, hv⟩]
theorem HeadBack_ev (l : List S39) : Ev (fun k => ambrylaw10_HeadBack.f k l) true := by
  refine Ev.congr (fun k => ambrylaw10_HeadBack.f.eq_1 k l) (ev_bind known_ev (ev_pos rfl ?_))
  rcases light_ev l with ⟨e, h20, hx⟩ | e
  case inr => exact ev_bind e (ev_neg (by decide) (Ev.now _))
  refine ev_bind e (ev_pos rfl ?_)
  have hs := small_of h20 hx
  have hx2 : ∀ x ∈ l, x.f0.size + x.f1.size + 4 ≤ 1000 := fun x h => by have := hx x h; omega
  have htl : (head_Lines.text l).length ≤ 140737488355328 := Nat.le_trans (back_length 1000 l hx2) (Nat.le_trans (Nat.mul_le_mul h20 (Nat.le_refl _)) (by decide))
  refine ev_some (if_pos htl) ?_
  clear htl hx e
  have key : ∀ j, j ≤ l.length → ∀ (X : List ByteArray) (s : ByteArray), X.length = j → (∀ y ∈ X, y.size ≤ 140737488355328) → (∀ rest, parseA [] (X ++ rest) = parseA (l.take j) rest) → s.data.toList = head_Lines.text (l.drop j) → Ev (fun k => ambrylaw10_HeadBack.l0 k l X s (j : Int)) true := by
    refine up _ fun j hj ih X s hX hXs hP hT => ?_
    refine Ev.step (fun k => ambrylaw10_HeadBack.l0.eq_2 l X s (j : Int) k) ?_
    by_cases hlt : j < l.length
    · refine ev_pos (by omega) (ev_pos (by omega) ?_)
      have hxm := hx2 _ (getD_mem z39 l hlt)
      have htk : l.take (j + 1) = l.take j ++ [l.getD j z39] := by
        rw [List.take_succ_eq_append_getElem hlt, List.getD_eq_getElem?_getD, List.getElem?_eq_getElem hlt]; rfl
      rw [drop_cons l z39 hlt] at hT
      rw [rd39_nat]
      have hstop : Ev (fun k => ambrylaw10_HeadBack.j1 k l X s (j : Int) true) true := Ev.step (fun k => ambrylaw10_HeadBack.j1.eq_2 l X s (j : Int) true k) (ev_pos rfl (Ev.now _))
      refine ev_bind (token_ref _ (by omega)) ?_
      by_cases ht : tokenL (bytesOf (l.getD j z39).f0) = true
      case neg => exact ev_neg ht hstop
      refine ev_pos ht (ev_bind (value_ref _ (by omega)) ?_)
      by_cases hv : valueL (bytesOf (l.getD j z39).f1) = true
      case neg =>
        rw [Bool.not_eq_true] at hv
        rw [hv]; exact hstop
      rw [hv]
      refine Ev.step (fun k => ambrylaw10_HeadBack.j1.eq_2 l X s (j : Int) (!true) k) (ev_neg (by decide) (ev_pos (by omega) (ev_pos (by omega) ?_)))
      rw [rd39_nat]
      generalize l.getD j z39 = x at hxm htk hT ht hv ⊢
      rw [back_cons] at hT
      have hlen := congrArg List.length hT
      simp only [List.length_append, List.length_cons, List.length_nil] at hlen
      rw [← size_data, ← size_data, ← size_data] at hlen
      have hw1 : wrap64 (wrap64 ((x.f0.size : Int) + 2) + (x.f1.size : Int)) = ((x.f0.size + 2 + x.f1.size : Nat) : Int) := by unfold wrap64; omega
      have hw2 : wrap64 (((x.f0.size + 2 + x.f1.size : Nat) : Int) + 2) = ((x.f0.size + 2 + x.f1.size + 2 : Nat) : Int) := by unfold wrap64; omega
      rw [hw1, hw2, wrap_succ (by omega), Int.toNat_natCast, Int.toNat_natCast]
      have a0 := size_data x.f0
      have a1 := size_data x.f1
      have hn : (x.f0.data.toList ++ [58, 32] ++ x.f1.data.toList).length = x.f0.size + 2 + x.f1.size := by
        rw [List.length_append, List.length_append, ← size_data, ← size_data]; rfl
      have hcut : (s.extract 0 (x.f0.size + 2 + x.f1.size)).data.toList = x.f0.data.toList ++ [58, 32] ++ x.f1.data.toList := by
        rw [data_extract, hT, List.append_assoc (x.f0.data.toList ++ [58, 32] ++ x.f1.data.toList), List.drop_zero, List.take_left' hn]
      have hend : (s.extract (x.f0.size + 2 + x.f1.size) (x.f0.size + 2 + x.f1.size + 2)).toList = [13, 10] := by
        rw [ByteArray.toList_eq, data_extract, hT, List.take_left' (by rw [List.length_append, hn]; rfl), List.drop_left' hn]
      have hrest : (s.extract (x.f0.size + 2 + x.f1.size + 2) s.size).data.toList = head_Lines.text (l.drop (j + 1)) := by
        rw [data_extract, List.take_of_length_le (by rw [← size_data]; exact Nat.le_refl _), hT, List.drop_left' (by rw [List.length_append, hn]; rfl)]
      refine ev_neg (by omega) (ev_pos (by omega) (ev_pos (by omega) (ev_pos (by omega) (ev_pos hend (ev_pos (by omega) (ev_pos (by omega) (ev_pos (by omega) ?_)))))))
      refine ih hlt _ _ (by rw [List.length_append, hX]; rfl) ?_ ?_ hrest
      · intro y hy
        rcases List.mem_append.1 hy with hy | hy
        · exact hXs y hy
        · rw [List.mem_singleton.1 hy]
          rw [size_data, hcut, hn]; omega
      · intro rest
        rw [List.append_assoc, hP, htk]
        show parseA (l.take j) (_ :: rest) = _
        rw [parseA, line_back x _ hcut ht hv]
    · have hjl : j = l.length := by omega
      rw [List.drop_of_length_le (by omega)] at hT
      have h1 := hP []
      rw [List.append_nil, List.take_of_length_le (by omega)] at h1
      have h2 : parseL X = (l, 0) := by
        unfold parseL
        rw [if_neg (by omega), h1]; rfl
      have h3 : s.toList = [] := by rw [ByteArray.toList_eq, hT]; rfl
      refine ev_neg (by omega) (ev_bind (parse_head X hXs) ?_)
      rw [h2]
      exact ev_pos h3 (ev_pos rfl (ev_bind (fields_eq l (by omega)) (ev_ret rfl)))
  exact key 0 (Nat.zero_le _) [] _ rfl (fun _ h => by cases h) (fun rest => rfl) rfl
end Go.Proofs.Ytbnilemmgmhbfaa.Pure
