/- Any fields tell any name's values, lists, and are put, dropped, written. -/
import Derived.Test.YtbnilemmgmhbfaaHeadParts
import Derived.Test.YtbnilemmgmhbfaaHx13
set_option linter.unusedVariables false
set_option linter.unusedSimpArgs false
namespace Go.Proofs.Ytbnilemmgmhbfaa.Pure
open Go.RowKit Go.Proofs.Ytbnilemmgmhbfaa.H Go.Proofs.YtbnilemmgmhbfaaW.PrintWords Go.Proofs.Ytbnilemmgmhbfaa.Plain
def linesB (l : List S39) : ByteArray := ⟨(head_Lines.text l).toArray⟩
theorem text_length (C : Nat) : ∀ l : List S39, (∀ x ∈ l, x.f0.size + x.f1.size + 4 ≤ C) → (head_Lines.text l).length ≤ l.length * C := by
  intro l
  induction l with
  | nil => intro _; exact Nat.zero_le _
  | cons x l ih =>
    intro h
    have h1 : head_Lines.text (x :: l) = head_Lines.one x ++ head_Lines.text l := rfl
    have h2 := h x List.mem_cons_self
    have h3 := ih fun y hy => h y (List.mem_cons_of_mem _ hy)
    have h4 : (head_Lines.one x).length = x.f0.size + x.f1.size + 4 := by
      unfold head_Lines.one
      simp only [List.length_append, List.length_cons, List.length_nil, Array.length_toList]
      show x.f0.data.size + 2 + x.f1.data.size + 2 = x.f0.data.size + x.f1.data.size + 4
      omega
    rw [h1, List.length_append, List.length_cons, Nat.succ_mul]
    omega
theorem text_cons (x : S39) (l : List S39) : head_Lines.text (x :: l) = x.f0.data.toList ++ [58, 32] ++ x.f1.data.toList ++ [13, 10] ++ head_Lines.text l := rfl
theorem lines_ref (l : List S39) (hl : l.length ≤ 4000) (ht : (head_Lines.text l).length ≤ 140737488355328) : Ev (fun k => ambryref10_Lines.f k l) (linesB l) := by
  refine Ev.congr (fun k => ambryref10_Lines.f.eq_1 k l) ?_
  have key : ∀ j, j ≤ l.length → ∀ acc : ByteArray, acc.data.toList ++ head_Lines.text (l.drop j) = head_Lines.text l → Ev (fun k => ambryref10_Lines.l0 k l acc (j : Int)) (linesB l) := by
    refine up _ fun j hj ih acc ha => ?_
    refine Ev.step (fun k => ambryref10_Lines.l0.eq_2 l acc (j : Int) k) ?_
    have hsz : ∀ b : ByteArray, b.size = b.data.toList.length := fun b => by rw [Array.length_toList]; rfl
    by_cases hlt : j < l.length
    · refine ev_pos (by omega) (ev_pos (by omega) ?_)
      rw [drop_cons l z39 hlt] at ha
      rw [rd39_nat, wrap_succ (by omega)]
      generalize l.getD j z39 = x at ha ⊢
      rw [text_cons] at ha
      have hlen := congrArg List.length ha
      simp only [List.length_append, List.length_cons, List.length_nil] at hlen
      have s1 : ∀ a b : ByteArray, (a ++ b).size = a.size + b.size := size_append
      have t2 : (⟨#[58, 32]⟩ : ByteArray).size = 2 := rfl
      have t3 : (⟨#[13, 10]⟩ : ByteArray).size = 2 := rfl
      have e1 := hsz acc
      have e2 := hsz x.f0
      have e3 := hsz x.f1
      refine ev_pos (by omega) (ev_pos (by rw [s1]; omega) (ev_pos (by rw [s1, s1, t2]; omega) (ev_pos (by rw [s1, s1, s1, t2]; omega) (ih hlt _ ?_))))
      rw [← ha]
      simp only [ByteArray.data_append, Array.toList_append, List.append_assoc]
    · refine ev_neg (by omega) (ev_ret ?_)
      rw [List.drop_of_length_le (by omega)] at ha
      have h2 : acc.data.toList = head_Lines.text l := by
        rw [← ha]; exact (List.append_nil _).symm
      unfold linesB
      rw [← h2]
  exact key 0 (Nat.zero_le _) _ rfl
theorem HeadAsks_ev (l : List S39) (a b : ByteArray) : Ev (fun k => ambrylaw10_HeadAsks.f k l a b) true := by
  refine Ev.congr (fun k => ambrylaw10_HeadAsks.f.eq_1 k l a b) (ev_bind known_ev (ev_pos rfl ?_))
  have hj : Ev (fun k => ambrylaw10_HeadAsks.j0 k l a b true) true := Ev.step (fun k => ambrylaw10_HeadAsks.j0.eq_2 l a b true k) (ev_pos rfl (Ev.now _))
  rcases light_ev l with ⟨e, h20, hx⟩ | e
  case inr => exact ev_bind e (ev_neg (by decide) hj)
  refine ev_bind e (ev_pos rfl ?_)
  by_cases h1 : (a.size : Int) > 100
  · exact ev_pos h1 hj
  refine ev_neg h1 ?_
  by_cases h2 : (b.size : Int) > 300
  · rw [decide_eq_true h2]; exact hj
  rw [decide_eq_false h2]
  have hs := small_of h20 hx
  have ha : a.size ≤ 140737488355328 := by omega
  have hal := all_small l a hs
  have hpl := parts_small _ hal.1 hal.2
  have htl : (head_Lines.text l).length ≤ 140737488355328 := Nat.le_trans (text_length 1000 l fun x h => by have := hx x h; omega) (Nat.le_trans (Nat.mul_le_mul h20 (Nat.le_refl _)) (by decide))
  have hkl := keep_length l a
  have hll := hs.1
  refine Ev.step (fun k => ambrylaw10_HeadAsks.j0.eq_2 l a b false k) (ev_neg (by decide) ?_)
  refine ev_bind (get_head l a hs) (ev_bind (get_ref l a hs ha) (ev_pos rfl (ev_pos (beq_self_eq_true _) ?_)))
  refine ev_bind (all_head l a hs) (ev_bind (all_ref l a hs ha) (ev_bind (strings_eq _ (by omega)) (ev_pos rfl ?_)))
  refine ev_bind (list_head l a hs) (ev_bind (list_ref l a hs ha) (ev_bind (strings_eq _ (by unfold listL; omega)) (ev_pos rfl ?_)))
  refine ev_some (drop_head l a hs ha) (ev_bind (drop_ref l a hs ha) (ev_bind (fields_eq _ (by omega)) (ev_pos rfl ?_)))
  refine ev_some (set_head l a b hs ha) (ev_bind (set_ref l a b hs ha) (ev_bind (fields_eq _ (by unfold setL; rw [List.length_append, List.length_singleton]; omega)) (ev_pos rfl ?_)))
  exact ev_some (if_pos htl) (ev_bind (lines_ref l hs.1 htl) (ev_ret (beq_self_eq_true _)))
end Go.Proofs.Ytbnilemmgmhbfaa.Pure
