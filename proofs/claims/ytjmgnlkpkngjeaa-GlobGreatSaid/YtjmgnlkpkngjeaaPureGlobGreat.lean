/- For great patterns and texts, put together out of three numbers: what glob.Match tells is what the reference tells. No condition. -/
import Derived.OpenShut
import Derived.Test.YtjmgnlkpkngjeaaGx6
import Derived.Test.YtjmgnlkpkngjeaaGlobKnown
import Derived.Test.YtjmgnlkpkngjeaaGlobRef
set_option linter.unusedVariables false
set_option linter.unusedSimpArgs false
namespace Go.Proofs.Ytjmgnlkpkngjeaa.Pure
open Go.RowKit Go.Proofs.Ytjmgnlkpkngjeaa.G Go.Proofs.YtjmgnlkpkngjeaaW.PrintWords Go.Proofs.YtjmgnlkpkngjeaaW.PrintLast Go.Proofs.Ytjmgnlkpkngjeaa.Plain

theorem loop1 (m q : Int) (hm : 0 ≤ m ∧ m ≤ 255) (hq : 0 ≤ q ∧ q ≤ 255) (p : ByteArray) (hp : p.size ≤ 1000) : ∀ (d : Nat) (i : Int) (s : ByteArray), (m - i).toNat = d → 0 ≤ i → i ≤ m → s.size ≤ 2 * i.toNat →
    Ev (fun k => ambrylaw24_GlobGreat.l1 k m q p s i) true := by
  have wm : wrap64 m = m := wrap_nat hm.1 (by omega)
  have wq : wrap64 q = q := wrap_nat hq.1 (by omega)
  have hdiv : 0 ≤ Int.tdiv q 4 ∧ Int.tdiv q 4 ≤ 255 := by rw [Int.tdiv_eq_ediv_of_nonneg hq.1]; omega
  have wd : wrap64 (Int.tdiv q 4) = Int.tdiv q 4 := wrap_nat hdiv.1 (by omega)
  intro d
  induction d with
  | zero =>
    intro i s hd h0 hi hs
    refine Ev.step (fun k => ambrylaw24_GlobGreat.l1.eq_2 _ _ _ _ _ _) (ev_neg (by rw [wm]; omega) ?_)
    refine ev_bind (match_ev p s (by omega)) (ev_bind (rmatch_ev p s (by omega)) (ev_pos (by simp) (ev_pos (by omega) ?_)))
    exact ev_bind (match_ev _ s (by omega)) (ev_bind (rmatch_ev _ s (by omega)) (ev_ret (by simp)))
  | succ d ih =>
    intro i s hd h0 hi hs
    refine Ev.step (fun k => ambrylaw24_GlobGreat.l1.eq_2 _ _ _ _ _ _) (ev_pos (by rw [wm]; omega) (ev_some rfl ?_))
    rw [wq, wd]
    have hmod : 0 ≤ Int.tmod (Int.tdiv q 4) 3 ∧ Int.tmod (Int.tdiv q 4) 3 < 3 := by rw [Int.tmod_eq_emod_of_nonneg hdiv.1]; omega
    generalize Int.tmod (Int.tdiv q 4) 3 = z at hmod
    have hz : (rdOf ByteArray.empty [(⟨#[97]⟩ : ByteArray), (⟨#[97, 98]⟩ : ByteArray), (⟨#[97, 47]⟩ : ByteArray)] z).size ≤ 2 := by
      have : z = 0 ∨ z = 1 ∨ z = 2 := by omega
      rcases this with rfl | rfl | rfl <;> decide
    rw [show wrap64 (i + 1) = i + 1 from wrap_nat (by omega) (by omega)]
    refine ev_pos hmod.1 (ev_pos (by simpa using hmod.2) (ev_pos (by omega) ?_))
    exact ih (i + 1) _ (by omega) (by omega) (by omega) (by rw [size_append]; omega)
theorem loop0 (n m q : Int) (hn : 0 ≤ n ∧ n ≤ 255) (hm : 0 ≤ m ∧ m ≤ 255) (hq : 0 ≤ q ∧ q ≤ 255) : ∀ (d : Nat) (i : Int) (p : ByteArray), (Int.tmod n 60 - i).toNat = d → 0 ≤ i → i ≤ Int.tmod n 60 → p.size ≤ 3 * i.toNat →
    Ev (fun k => ambrylaw24_GlobGreat.l0 k n m q p (⟨#[]⟩ : ByteArray) i) true := by
  have wq : wrap64 q = q := wrap_nat hq.1 (by omega)
  have hmod : 0 ≤ Int.tmod n 60 ∧ Int.tmod n 60 < 60 := by rw [Int.tmod_eq_emod_of_nonneg hn.1]; omega
  have wn : wrap64 (Int.tmod n 60) = Int.tmod n 60 := wrap_nat hmod.1 (by omega)
  intro d
  induction d with
  | zero =>
    intro i p hd h0 hi hp
    refine Ev.step (fun k => ambrylaw24_GlobGreat.l0.eq_2 _ _ _ _ _ _ _) (ev_neg (by rw [wn]; omega) ?_)
    exact loop1 m q hm hq p (by omega) _ 0 _ rfl (by omega) (by omega) (by simp [ByteArray.size])
  | succ d ih =>
    intro i p hd h0 hi hp
    refine Ev.step (fun k => ambrylaw24_GlobGreat.l0.eq_2 _ _ _ _ _ _ _) (ev_pos (by rw [wn]; omega) (ev_some rfl ?_))
    rw [wq]
    have hmod4 : 0 ≤ Int.tmod q 4 ∧ Int.tmod q 4 < 4 := by rw [Int.tmod_eq_emod_of_nonneg hq.1]; omega
    generalize Int.tmod q 4 = z at hmod4
    have hz : (rdOf ByteArray.empty [(⟨#[42, 97]⟩ : ByteArray), (⟨#[42, 42, 97]⟩ : ByteArray), (⟨#[63, 42]⟩ : ByteArray), (⟨#[42, 42]⟩ : ByteArray)] z).size ≤ 3 := by
      have : z = 0 ∨ z = 1 ∨ z = 2 ∨ z = 3 := by omega
      rcases this with rfl | rfl | rfl | rfl <;> decide
    rw [show wrap64 (i + 1) = i + 1 from wrap_nat (by omega) (by omega)]
    refine ev_pos hmod4.1 (ev_pos (by simpa using hmod4.2) (ev_pos (by omega) ?_))
    exact ih (i + 1) _ (by omega) (by omega) (by omega) (by rw [size_append]; omega)
theorem u8_range {n : Int} (h : (Lit.int .u8 n).wf = true) : 0 ≤ n ∧ n ≤ 255 := bounds_u8 h
theorem GlobGreat : ambrylaw24_GlobGreat.Pure := by
  intro n m q hn hm hq
  have hn := u8_range hn
  have hm := u8_range hm
  have hq := u8_range hq
  refine Ev.rounds (g := fun k => ambrylaw24_GlobGreat.f k n m q) ?_
  refine Ev.congr (fun k => ambrylaw24_GlobGreat.f.eq_1 k n m q) ?_
  refine ev_bind known_ev (ev_pos rfl ?_)
  have hmod : 0 ≤ Int.tmod n 60 := by rw [Int.tmod_eq_emod_of_nonneg hn.1]; omega
  exact loop0 n m q hn hm hq _ 0 _ rfl (by omega) hmod (by simp [ByteArray.size])
end Go.Proofs.Ytjmgnlkpkngjeaa.Pure
