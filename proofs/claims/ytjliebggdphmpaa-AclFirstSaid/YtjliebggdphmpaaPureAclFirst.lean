/- A rule ahead of others counts where it fits, and says nothing where it doesn't. -/
import Derived.Test.YtjliebggdphmpaaGx0
import Derived.Test.YtjliebggdphmpaaGx8
import Derived.Test.YtjliebggdphmpaaGx9
import Derived.Test.YtjliebggdphmpaaAclOne
import Derived.Test.YtjliebggdphmpaaGx9
set_option linter.unusedVariables false
set_option linter.unusedSimpArgs false
namespace Go.Proofs.Ytjliebggdphmpaa.Pure
open Go.RowKit Go.Proofs.Ytjliebggdphmpaa.G Go.Proofs.YtjliebggdphmpaaW.PrintWords Go.Proofs.YtjliebggdphmpaaW.PrintLast Go.Proofs.Ytjliebggdphmpaa.Plain
theorem known_tab : ambrylaw26_known.f 3000 = some true := by decide +kernel
theorem known_ev : Ev (fun k => ambrylaw26_known.f k) true := Ev.of (fun k => ambrylaw26_known.mono k) known_tab
theorem mtc_all (s : ByteArray) : mtc (⟨#[42, 42]⟩ : ByteArray) s = true := by
  have h : pparse (⟨#[42, 42]⟩ : ByteArray) = some [⟨3, 0⟩] := rfl
  unfold mtc
  rw [h]
  exact (Mm_iff _ _).2 ((show Lg [] [] from (Mm_iff _ _).1 rfl).all_more (bytesOf s))
theorem mtc_x (s : ByteArray) : mtc (⟨#[120]⟩ : ByteArray) s = (bytesOf s == [120]) := by
  have h : pparse (⟨#[120]⟩ : ByteArray) = some ([120].map own) := rfl
  unfold mtc
  rw [h]
  exact Mm_own [120] (bytesOf s)
theorem checkA_more (m h p : ByteArray) : ∀ (l : List S23) (i : Nat), checkA m h p l (i + 1) = ((checkA m h p l i).1, if (checkA m h p l i).2 ≥ 0 then (checkA m h p l i).2 + 1 else (checkA m h p l i).2) := by
  intro l
  induction l with
  | nil => intro i; rfl
  | cons x l ih =>
    intro i
    rw [checkA, checkA]
    by_cases hf : fitsA x m h p = true
    · rw [if_pos hf, if_pos hf]
      show (x.f0, ((i + 1 : Nat) : Int)) = (x.f0, if (i : Int) ≥ 0 then (i : Int) + 1 else (i : Int))
      rw [if_pos (by omega)]; rfl
    · rw [if_neg hf, if_neg hf]
      exact ih (i + 1)
theorem checkA_range (m h p : ByteArray) : ∀ (l : List S23) (i : Nat), (checkA m h p l i).2 ≤ (i : Int) + l.length := by
  intro l
  induction l with
  | nil => intro i; show (-1 : Int) ≤ _; simp only [List.length_nil]; omega
  | cons x l ih =>
    intro i
    rw [checkA]
    split
    · show (i : Int) ≤ _; omega
    · have := ih (i + 1); simp only [List.length_cons]; omega
theorem path_x (s : ByteArray) : s.toList = ([120] : List UInt8) ↔ (bytesOf s == [120]) = true := by
  have h := list_beq s (⟨#[120]⟩ : ByteArray)
  rw [show (⟨#[120]⟩ : ByteArray).toList = ([120] : List UInt8) by decide +kernel, show bytesOf (⟨#[120]⟩ : ByteArray) = [120] from rfl] at h
  rw [← h]
  exact beq_iff_eq.symm
theorem AclFirst_ev (l : List S23) (m t : ByteArray) (q : List S72) (b : List Int) (a : Bool) : Ev (fun k => ambrylaw26_AclFirst.f k l m t q b a) true := by
  refine Ev.congr (fun k => ambrylaw26_AclFirst.f.eq_1 k l m t q b a) (ev_bind known_ev (ev_pos rfl ?_))
  have hj : Ev (fun k => ambrylaw26_AclFirst.j0 k l a true m t q b) true := Ev.step (fun k => ambrylaw26_AclFirst.j0.eq_2 l a true m t q b k) (ev_pos rfl (Ev.now _))
  rcases rulesA l with ⟨e, hl⟩ | e
  case inr => exact ev_bind e (ev_neg (by decide) hj)
  refine ev_bind e (ev_pos rfl ?_)
  rcases lightQA m t q b with ⟨e2, hm, ht, hq⟩ | e2
  case inr => exact ev_bind e2 (ev_neg (by decide) hj)
  refine ev_bind e2 (ev_pos rfl ?_)
  by_cases h90 : (m.size : Int) > 90
  · rw [decide_eq_true h90]; exact hj
  rw [decide_eq_false h90]
  refine Ev.step (fun k => ambrylaw26_AclFirst.j0.eq_2 l a false m t q b k) (ev_neg (by decide) (ev_some rfl (ev_pos (by simp only [List.length_singleton]; omega) ?_)))
  refine ev_bind (check_acl _ m t q b (by rw [List.length_append, List.length_singleton]; omega) (by omega) (by omega) hq) ?_
  refine ev_bind (check_acl l m t q b (by omega) (by omega) (by omega) hq) (ev_some rfl (ev_pos (by simp only [List.length_singleton]; omega) ?_))
  refine ev_bind (check_acl _ m t q b (by rw [List.length_append, List.length_singleton]; omega) (by omega) (by omega) hq) (ev_bind (split_refA t (by omega)) ?_)
  unfold tellA
  generalize (getA q (⟨#[72, 111, 115, 116]⟩ : ByteArray)).1 = h
  generalize (qCutA t).1 = p
  rw [List.singleton_append, List.singleton_append, checkA, checkA]
  have fa : fitsA ⟨a, (⟨#[42, 42]⟩ : ByteArray), (⟨#[42, 42]⟩ : ByteArray), (⟨#[42, 42]⟩ : ByteArray)⟩ m h p = true := by unfold fitsA; rw [mtc_all, mtc_all, mtc_all]; rfl
  have fx : fitsA ⟨a, (⟨#[42, 42]⟩ : ByteArray), (⟨#[42, 42]⟩ : ByteArray), (⟨#[120]⟩ : ByteArray)⟩ m h p = (bytesOf p == [120]) := by unfold fitsA; rw [mtc_all, mtc_all, mtc_x]; rfl
  rw [if_pos fa, fx, checkA_more]
  have hr := checkA_range m h p l 0
  generalize checkA m h p l 0 = r at hr ⊢
  by_cases hx : (bytesOf p == [120]) = true
  · rw [if_pos hx]
    exact ev_pos ((path_x p).2 hx) (ev_pos (by show (a == a) = true; rw [beq_self_eq_true]) (ev_ret rfl))
  · rw [if_neg hx]
    refine ev_neg (fun e => hx ((path_x p).1 e)) ?_
    by_cases hge : r.2 ≥ 0
    · refine ev_pos hge (ev_pos (by show (a == a) = true; rw [beq_self_eq_true]) (ev_pos rfl (ev_pos (beq_self_eq_true _) (ev_ret ?_))))
      show (wrap64 (r.2 + 1) == if r.2 ≥ 0 then r.2 + 1 else r.2) = true
      rw [if_pos hge, wrap_nat (by omega) (by omega), beq_self_eq_true]
    · refine ev_neg hge (ev_pos (by show (a == a) = true; rw [beq_self_eq_true]) (ev_pos rfl (ev_pos (beq_self_eq_true _) (ev_ret ?_))))
      show (r.2 == if r.2 ≥ 0 then r.2 + 1 else r.2) = true
      rw [if_neg hge, beq_self_eq_true]
end Go.Proofs.Ytjliebggdphmpaa.Pure
