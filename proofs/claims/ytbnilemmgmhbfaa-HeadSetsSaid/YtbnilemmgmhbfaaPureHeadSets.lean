/- A field that is set, and one that is dropped. -/
import Derived.Test.YtbnilemmgmhbfaaHeadLists
import Derived.Test.YtbnilemmgmhbfaaHx13
set_option linter.unusedVariables false
namespace Go.Proofs.Ytbnilemmgmhbfaa.Pure
open Go.RowKit Go.Proofs.Ytbnilemmgmhbfaa.H Go.Proofs.YtbnilemmgmhbfaaW.PrintWords Go.Proofs.Ytbnilemmgmhbfaa.Plain
theorem same_self (n : ByteArray) : Leaf.sameB n n = true := by unfold Leaf.sameB; exact beq_self_eq_true _
theorem keep_set (l : List S39) (n v : ByteArray) : keepL (setL l n v) n = keepL l n := by
  unfold setL keepL
  rw [List.filter_append, List.filter_filter]
  have : List.filter (fun x => !Leaf.sameB x.f0 n) [(⟨n, v⟩ : S39)] = [] := by rw [List.filter_cons, same_self]; rfl
  rw [this, List.append_nil]
  simp
theorem all_keep (l : List S39) (n : ByteArray) : allL (keepL l n) n = [] := by
  unfold allL keepL
  rw [List.filter_filter]
  simp
theorem all_set (l : List S39) (n v : ByteArray) : allL (setL l n v) n = [v] := by
  have h := all_keep l n
  unfold setL
  unfold allL at h ⊢
  rw [List.filter_append, List.map_append, h, List.nil_append, List.filter_cons, same_self]
  rfl
theorem keep_keep (l : List S39) (n : ByteArray) : keepL (keepL l n) n = keepL l n := by
  unfold keepL; rw [List.filter_filter]; simp
theorem HeadSets_ev (l : List S39) (a b : ByteArray) : Ev (fun k => ambrylaw10_HeadSets.f k l a b) true := by
  refine Ev.congr (fun k => ambrylaw10_HeadSets.f.eq_1 k l a b) (ev_bind known_ev (ev_pos rfl ?_))
  have hj : Ev (fun k => ambrylaw10_HeadSets.j0 k l a b true) true := Ev.step (fun k => ambrylaw10_HeadSets.j0.eq_2 l a b true k) (ev_pos rfl (Ev.now _))
  rcases light_ev l with ⟨e, h20, hx⟩ | e
  case inr => exact ev_bind e (ev_neg (by decide) hj)
  refine ev_bind e (ev_pos rfl ?_)
  by_cases h1 : (a.size : Int) > 100
  · exact ev_pos h1 hj
  refine ev_neg h1 ?_
  by_cases h2 : (b.size : Int) > 100
  · rw [decide_eq_true h2]; exact hj
  rw [decide_eq_false h2]
  have hs := small_of h20 hx
  have hkl := keep_length l a
  have hss : Small (setL l a b) := ⟨by unfold setL; rw [List.length_append, List.length_singleton]; omega, fun x hm => by
    rcases List.mem_append.1 hm with hm | hm
    · exact (keep_small a hs).2 x hm
    · rw [List.mem_singleton.1 hm]; exact ⟨by show a.size ≤ _; omega, by show b.size ≤ _; omega⟩⟩
  have hlen : (setL l a b).length = (keepL l a).length + 1 := by unfold setL; rw [List.length_append, List.length_singleton]
  refine Ev.step (fun k => ambrylaw10_HeadSets.j0.eq_2 l a b false k) (ev_neg (by decide) ?_)
  refine ev_some (set_head l a b hs (by omega)) (ev_some (drop_head _ a hss (by omega)) ?_)
  rw [keep_set]
  have g1 : getL (setL l a b) a = (b, true) := by unfold getL; rw [all_set]
  have g2 : getL (keepL l a) a = (⟨#[]⟩, false) := by unfold getL; rw [all_keep]
  refine ev_bind (ev_eq (get_head _ a hss) g1) (ev_bind (ev_eq (get_head _ a (keep_small a hs)) g2) ?_)
  refine ev_neg (by omega) (ev_pos rfl (ev_pos rfl (ev_neg (by decide) ?_)))
  refine ev_bind (ev_eq (all_head _ a hss) (all_set l a b)) (ev_pos rfl ?_)
  have hw : wrap64 (((setL l a b).length : Int) - 1) = (((keepL l a).length : Nat) : Int) := by unfold wrap64; omega
  rw [hw]
  refine ev_pos (by omega) (ev_pos (by omega) ?_)
  have hlast : (setL l a b).getD (keepL l a).length z39 = ⟨a, b⟩ := by
    unfold setL
    rw [List.getD_eq_getElem?_getD, List.getElem?_append_right (Nat.le_refl _), Nat.sub_self]; rfl
  rw [rd39_nat, hlast]
  refine Ev.step (fun k => ambrylaw10_HeadSets.j1.eq_2 l a _ _ k) (ev_neg (by simp) ?_)
  refine ev_some (drop_head l a hs (by omega)) (ev_bind (fields_eq _ (keep_small a hs).1) (ev_pos rfl ?_))
  refine ev_some (drop_head _ a (keep_small a hs) (by omega)) ?_
  rw [keep_keep]
  exact ev_bind (fields_eq _ (keep_small a hs).1) (Ev.now _)
end Go.Proofs.Ytbnilemmgmhbfaa.Pure
