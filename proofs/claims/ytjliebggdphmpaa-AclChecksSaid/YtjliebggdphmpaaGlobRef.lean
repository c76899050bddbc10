/- What the reference's functions on patterns come to: Valid, Match, Literal: as the program's. -/
import Derived.Test.YtjliebggdphmpaaGlobRuns
import Derived.Test.YtjliebggdphmpaaGx9
import Derived.Test.YtjliebggdphmpaaGx10
set_option linter.unusedVariables false
set_option linter.unusedSimpArgs false
namespace Go.Proofs.Ytjliebggdphmpaa.Plain
open Go.RowKit Go.Proofs.Ytjliebggdphmpaa.G Go.Proofs.YtjliebggdphmpaaW.PrintWords

theorem some_cons : ∀ (n : Nat) (c : Int) (r : List Int), r.length ≤ n → c ≠ 92 → (parse (c :: r)).isSome = (parse r).isSome := by
 intro n
 induction n with
 | zero =>
  intro c r hr hc
  obtain rfl := List.eq_nil_of_length_eq_zero (show r.length = 0 by omega)
  simp only [parse, if_neg hc]
  repeat' split
  all_goals rfl
 | succ n ih =>
  intro c r hr hc
  cases r with
  | nil =>
   simp only [parse, if_neg hc]
   repeat' split
   all_goals rfl
  | cons d r =>
   simp only [List.length_cons] at hr
   simp only [parse, if_neg hc]
   split
   ·split
    ·rename_i h
     rw [Option.isSome_map, h]
     exact (ih 42 r (by omega) (by omega)).symm
    ·rw [Option.isSome_map]
   ·split <;> rw [Option.isSome_map]

theorem rvalid_loop (p : ByteArray) (hp : p.size ≤ 200) : ∀ (n i : Nat), p.size - i ≤ n → i ≤ p.size →
  Ev (fun k => ambryref23_Valid.l0 k p (i : Int)) (if (parse ((bytesOf p).drop i)).isSome then 0 else 120) := by
 have hsz := size_bytes p
 intro n
 induction n with
 | zero =>
  intro i hn hi
  refine Ev.step (fun k => ambryref23_Valid.l0.eq_2 _ _ _) (ev_neg (by omega) (ev_ret ?_))
  rw [List.drop_eq_nil_of_le (by omega)]; rfl
 | succ n ih =>
  intro i hn hi
  by_cases hlt : i < p.size
  case neg =>
   refine Ev.step (fun k => ambryref23_Valid.l0.eq_2 _ _ _) (ev_neg (by omega) (ev_ret ?_))
   rw [List.drop_eq_nil_of_le (by omega)]; rfl
  have hd := drop_cons (bytesOf p) 0 (show i < (bytesOf p).length by omega)
  refine Ev.step (fun k => ambryref23_Valid.l0.eq_2 _ _ _) (ev_pos (by omega) (ev_pos (by omega) ?_))
  rw [bt_nat, hd, wrap_succ (by omega)]
  generalize (bytesOf p).getD i 0 = c
  by_cases hc : c = 92
  ·refine ev_pos hc ?_
   by_cases he : i + 1 = p.size
   ·refine ev_pos (by omega) (ev_ret ?_)
    rw [List.drop_eq_nil_of_le (by omega), hc]; rfl
   ·refine ev_neg (by omega) ?_
    rw [wrap_succ (by omega)]
    refine ev_eq (ih (i + 1 + 1) (by omega) (by omega)) ?_
    rw [drop_cons (bytesOf p) 0 (show i + 1 < (bytesOf p).length by omega), hc, parse_back, Option.isSome_map]
  ·refine ev_neg hc (ev_eq (ih (i + 1) (by omega) (by omega)) ?_)
   rw [some_cons _ c _ (Nat.le_refl _) hc]
theorem rvalid_ev (p : ByteArray) : Ev (fun k => ambryref23_Valid.f k p) (if (pparse p).isSome then 0 else 120) := by
 refine Ev.congr (fun k => ambryref23_Valid.f.eq_1 k p) ?_
 unfold pparse
 by_cases h : p.size ≤ 200
 ·rw [if_pos h]
  exact ev_neg (by omega) (ev_eq (rvalid_loop p h _ 0 (Nat.le_refl _) (by omega)) (by simp))
 ·rw [if_neg h]
  exact ev_pos (by omega) (ev_ret rfl)

/-! ### the reference's Match: row by row -/
def prevB (g : Nat → Bool) : Nat → Bool
 | 0 => false
 | q + 1 => g q
theorem Grow_all (s : List Int) (f : Nat → Bool) (j : Nat) : Grow ⟨3, 0⟩ s f j = (prevB (Grow ⟨3, 0⟩ s f) j || f j) := by
 cases j with
 | zero => show (f 0 && true) = _; rw [Bool.and_true]; rfl
 | succ q => show (f (q + 1) || (Grow ⟨3, 0⟩ s f q && true)) = (Grow ⟨3, 0⟩ s f q || f (q + 1)); rw [Bool.and_true, Bool.or_comm]
theorem Grow_some (s : List Int) (f : Nat → Bool) (q : Nat) : Grow ⟨2, 0⟩ s f (q + 1) = (f (q + 1) || (Grow ⟨2, 0⟩ s f q && (s.getD q 0 != 47))) := rfl
section
variable (p s : ByteArray) (x5 : List Bool) (f : Nat → Bool) (h5 : Arr x5 (s.size + 1) f) (hs : s.size ≤ 4611686018427387904) (i6 : Int) (r : Bool)
include h5 hs
theorem rall_loop (fin : ∀ x7, Arr x7 (s.size + 1) (Grow ⟨3, 0⟩ (bytesOf s) f) → Ev (fun k => ambryref23_Match.l0 k p s x7 (wrap64 (i6 + 1))) r) :
  ∀ (d j : Nat) (x7 : List Bool), s.size + 1 - j = d → j ≤ s.size + 1 → Arr x7 (s.size + 1) (fun q => if q < j then Grow ⟨3, 0⟩ (bytesOf s) f q else false) →
   Ev (fun k => ambryref23_Match.l1 k p s x5 i6 x7 (prevB (Grow ⟨3, 0⟩ (bytesOf s) f) j) (j : Int)) r := by
 intro d
 induction d with
 | zero =>
  intro j x7 hd hj hx
  refine Ev.step (fun k => ambryref23_Match.l1.eq_2 _ _ _ _ _ _ _ _) (ev_neg (by omega) (fin x7 (hx.congr fun q hq => by rw [if_pos (by omega)])))
 | succ d ih =>
  intro j x7 hd hj hx
  have l5 := h5.len
  have l7 := hx.len
  have step := ih (j + 1) (x7.set j (Grow ⟨3, 0⟩ (bytesOf s) f j)) (by omega) (by omega) ((hx.set (show j < s.size + 1 by omega) _).congr fun q hq => by
   by_cases e : q = j
   ·rw [if_pos e, if_pos (by omega), e]
   ·rw [if_neg e]
    by_cases e2 : q < j
    ·rw [if_pos e2, if_pos (by omega)]
    ·rw [if_neg e2, if_neg (by omega)])
  have e0 : ((j : Nat) : Int).toNat = j := rfl
  refine Ev.step (fun k => ambryref23_Match.l1.eq_2 _ _ _ _ _ _ _ _) (ev_pos (by omega) ?_)
  rw [wrap_succ (by omega), e0, h5.rd (by omega)]
  have hg := Grow_all (bytesOf s) f j
  have hpr : prevB (Grow ⟨3, 0⟩ (bytesOf s) f) (j + 1) = Grow ⟨3, 0⟩ (bytesOf s) f j := rfl
  rw [hpr] at step
  generalize prevB (Grow ⟨3, 0⟩ (bytesOf s) f) j = o at hg
  cases o with
  | true =>
   rw [Bool.true_or] at hg
   rw [hg] at step
   exact ev_pos rfl (ev_pos (by omega) (ev_pos (by omega) step))
  | false =>
   rw [Bool.false_or] at hg
   rw [hg] at step
   exact ev_neg (by simp) (ev_pos (by omega) (ev_pos (by omega) (ev_pos (by omega) step)))
theorem rsome_loop (fin : ∀ x7, Arr x7 (s.size + 1) (Grow ⟨2, 0⟩ (bytesOf s) f) → Ev (fun k => ambryref23_Match.l0 k p s x7 (wrap64 (i6 + 1))) r) :
  ∀ (d j : Nat) (x7 : List Bool), s.size + 1 - j = d → j ≤ s.size + 1 → Arr x7 (s.size + 1) (fun q => if q < j then Grow ⟨2, 0⟩ (bytesOf s) f q else false) →
   Ev (fun k => ambryref23_Match.l2 k p s x5 i6 x7 (prevB (Grow ⟨2, 0⟩ (bytesOf s) f) j) (j : Int)) r := by
 intro d
 induction d with
 | zero =>
  intro j x7 hd hj hx
  refine Ev.step (fun k => ambryref23_Match.l2.eq_2 _ _ _ _ _ _ _ _) (ev_neg (by omega) (fin x7 (hx.congr fun q hq => by rw [if_pos (by omega)])))
 | succ d ih =>
  intro j x7 hd hj hx
  have l5 := h5.len
  have l7 := hx.len
  have step := ih (j + 1) (x7.set j (Grow ⟨2, 0⟩ (bytesOf s) f j)) (by omega) (by omega) ((hx.set (show j < s.size + 1 by omega) _).congr fun q hq => by
   by_cases e : q = j
   ·rw [if_pos e, if_pos (by omega), e]
   ·rw [if_neg e]
    by_cases e2 : q < j
    ·rw [if_pos e2, if_pos (by omega)]
    ·rw [if_neg e2, if_neg (by omega)])
  have e0 : ((j : Nat) : Int).toNat = j := rfl
  refine Ev.step (fun k => ambryref23_Match.l2.eq_2 _ _ _ _ _ _ _ _) (ev_pos (by omega) ?_)
  rw [wrap_succ (by omega), e0, h5.rd (by omega)]
  have hpr : prevB (Grow ⟨2, 0⟩ (bytesOf s) f) (j + 1) = Grow ⟨2, 0⟩ (bytesOf s) f j := rfl
  rw [hpr] at step
  cases j with
  | zero =>
   have hg : Grow ⟨2, 0⟩ (bytesOf s) f 0 = f 0 := by simp [Grow, mn]
   rw [hg] at step
   exact ev_neg (by omega) (ev_neg (by show ¬ false = true; simp) (ev_pos (by omega) (ev_pos (by omega) (ev_pos (by omega) step))))
  | succ q =>
   have hg := Grow_some (bytesOf s) f q
   have e1 : wrap64 (((q + 1 : Nat) : Int) - 1) = (q : Int) := by unfold wrap64; omega
   have hpq : prevB (Grow ⟨2, 0⟩ (bytesOf s) f) (q + 1) = Grow ⟨2, 0⟩ (bytesOf s) f q := rfl
   rw [e1, bt_nat, hpq]
   generalize Grow ⟨2, 0⟩ (bytesOf s) f q = o at hg
   refine ev_pos (by omega) (ev_pos (by omega) (ev_pos (by omega) ?_))
   by_cases hc : (bytesOf s).getD q 0 = 47
   ·have : ((bytesOf s).getD q 0 != 47) = false := by rw [hc]; rfl
    rw [this, Bool.and_false, Bool.or_false] at hg
    rw [hg] at step
    exact ev_pos hc (ev_pos (by omega) (ev_pos (by omega) (ev_pos (by omega) step)))
   ·have : ((bytesOf s).getD q 0 != 47) = true := bne_iff_ne.2 hc
    rw [this, Bool.and_true] at hg
    refine ev_neg hc ?_
    cases o with
    | true =>
     rw [Bool.or_true] at hg
     rw [hg] at step
     exact ev_pos rfl (ev_pos (by omega) (ev_pos (by omega) step))
    | false =>
     rw [Bool.or_false] at hg
     rw [hg] at step
     exact ev_neg (by simp) (ev_pos (by omega) (ev_pos (by omega) (ev_pos (by omega) step)))
theorem rone_loop (c : Int) (any : Bool) (x : S77) (hx0 : mn x = false) (hx : ∀ d, tk x d = if any = true then d != 47 else d == c)
  (fin : ∀ x7, Arr x7 (s.size + 1) (Grow x (bytesOf s) f) → Ev (fun k => ambryref23_Match.l0 k p s x7 (wrap64 (i6 + 1))) r) :
  ∀ (d j : Nat) (x7 : List Bool), s.size - j = d → j ≤ s.size → Arr x7 (s.size + 1) (fun q => if q ≤ j then Grow x (bytesOf s) f q else false) →
   Ev (fun k => ambryref23_Match.l3 k p s x5 i6 x7 c any (j : Int)) r := by
 intro d
 induction d with
 | zero =>
  intro j x7 hd hj h7
  refine Ev.step (fun k => ambryref23_Match.l3.eq_2 _ _ _ _ _ _ _ _ _) (ev_neg (by omega) (fin x7 (h7.congr fun q hq => by rw [if_pos (by omega)])))
 | succ d ih =>
  intro j x7 hd hj h7
  have l5 := h5.len
  have l7 := h7.len
  have step := ih (j + 1) (x7.set (j + 1) (Grow x (bytesOf s) f (j + 1))) (by omega) (by omega) ((h7.set (show j + 1 < s.size + 1 by omega) _).congr fun q hq => by
   by_cases e : q = j + 1
   ·rw [if_pos e, if_pos (by omega), e]
   ·rw [if_neg e]
    by_cases e2 : q ≤ j
    ·rw [if_pos e2, if_pos (by omega)]
    ·rw [if_neg e2, if_neg (by omega)])
  have e0 : ((j + 1 : Nat) : Int).toNat = j + 1 := rfl
  have hg : Grow x (bytesOf s) f (j + 1) = (f j && tk x ((bytesOf s).getD j 0)) := by rw [Grow, if_neg (by rw [hx0]; simp)]
  rw [hx] at hg
  refine Ev.step (fun k => ambryref23_Match.l3.eq_2 _ _ _ _ _ _ _ _ _) (ev_pos (by omega) ?_)
  rw [wrap_succ (by omega), e0, h5.rd (by omega), bt_nat]
  refine ev_pos (by omega) (ev_pos (by omega) ?_)
  cases hf : f j with
  | false =>
   rw [hf, Bool.false_and] at hg
   rw [hg] at step
   exact ev_neg (by simp) (ev_pos (by omega) (ev_pos (by omega) step))
  | true =>
   rw [hf, Bool.true_and] at hg
   refine ev_pos rfl ?_
   cases any with
   | true =>
    rw [if_pos rfl] at hg
    refine ev_pos rfl ?_
    by_cases hc : (bytesOf s).getD j 0 = 47
    ·rw [show ((bytesOf s).getD j 0 != 47) = false by rw [hc]; rfl] at hg
     rw [hg] at step
     exact ev_pos hc (ev_pos (by omega) (ev_pos (by omega) step))
    ·rw [show ((bytesOf s).getD j 0 != 47) = true from bne_iff_ne.2 hc] at hg
     rw [hg] at step
     exact ev_neg hc (ev_pos (by omega) (ev_pos (by omega) step))
   | false =>
    rw [if_neg (by simp)] at hg
    rw [hg] at step
    exact ev_neg (by simp) (ev_pos (by omega) (ev_pos (by omega) step))
end

theorem rmatch_loop (p s : ByteArray) (hp : p.size ≤ 200) (hs : s.size ≤ 281474976710000) : ∀ (n i : Nat) (x5 : List Bool) (f : Nat → Bool) (l : List S77), p.size - i ≤ n → i ≤ p.size → Arr x5 (s.size + 1) f → parse ((bytesOf p).drop i) = some l →
  Ev (fun k => ambryref23_Match.l0 k p s x5 (i : Int)) (row (bytesOf s) l f s.size) := by
 have hsz := size_bytes p
 intro n
 induction n with
 | zero =>
  intro i x5 f l hn hi h5 hl
  have l5 := h5.len
  rw [List.drop_eq_nil_of_le (by omega)] at hl
  obtain rfl : l = [] := by simpa [parse] using hl.symm
  refine Ev.step (fun k => ambryref23_Match.l0.eq_2 _ _ _ _ _) (ev_neg (by omega) (ev_pos (by omega) (ev_pos (by omega) (ev_ret ?_))))
  rw [h5.rd (by omega)]; rfl
 | succ n ih =>
  intro i x5 f l hn hi h5 hl
  have l5 := h5.len
  by_cases hlt : i < p.size
  case neg =>
   rw [List.drop_eq_nil_of_le (by omega)] at hl
   obtain rfl : l = [] := by simpa [parse] using hl.symm
   refine Ev.step (fun k => ambryref23_Match.l0.eq_2 _ _ _ _ _) (ev_neg (by omega) (ev_pos (by omega) (ev_pos (by omega) (ev_ret ?_))))
   rw [h5.rd (by omega)]; rfl
  have hd := drop_cons (bytesOf p) 0 (show i < (bytesOf p).length by omega)
  have hb := bt_nat p i
  have ez : ((s.size + 1 : Nat) : Int).toNat = s.size + 1 := rfl
  rw [hd] at hl
  generalize (bytesOf p).getD i 0 = c at hl hb
  have hz : Arr (List.replicate (s.size + 1) false) (s.size + 1) (fun _ => false) := Arr.zero _
  -- one byte
  have one : ∀ (i' : Nat) (c' : Int) (any : Bool) (x : S77) (l' : List S77), i ≤ i' → i' + 1 ≤ p.size → mn x = false → (∀ d, tk x d = if any = true then d != 47 else d == c') → l = x :: l' → parse ((bytesOf p).drop (i' + 1)) = some l' →
    Ev (fun k => ambryref23_Match.j4 k p s x5 (i' : Int) (List.replicate (s.size + 1) false) c' any) (row (bytesOf s) l f s.size) := by
   rintro i' c' any x l' h1 h2 h3 h4 rfl h6
   refine Ev.step (fun k => ambryref23_Match.j4.eq_2 _ _ _ _ _ _ _ _) ?_
   refine rone_loop p s x5 f h5 (by omega) i' _ c' any x h3 h4 (fun x7 h7 => ?_) _ 0 _ rfl (by omega) (hz.congr fun q hq => ?_)
   ·rw [wrap_succ (by omega)]
    exact ih (i' + 1) x7 _ l' (by omega) (by omega) h7 h6
   ·by_cases e : q ≤ 0
    ·obtain rfl : q = 0 := by omega
     simp [Grow, h3]
    ·rw [if_neg e]
  have jF : (∀ r', ¬ (c = 42 ∧ (bytesOf p).drop (i + 1) = 42 :: r')) → Ev (fun k => ambryref23_Match.j1 k p s x5 (i : Int) (List.replicate (s.size + 1) false) false) (row (bytesOf s) l f s.size) := by
   intro hno
   refine Ev.step (fun k => ambryref23_Match.j1.eq_2 _ _ _ _ _ _ _) (ev_neg (by simp) ?_)
   rw [hb]
   refine ev_pos (by omega) (ev_pos (by omega) ?_)
   by_cases h42 : c = 42
   ·rw [h42, parse_star _ (fun r' e => hno r' ⟨h42, e⟩)] at hl
    obtain ⟨l', hl', rfl⟩ := Option.map_eq_some_iff.1 hl
    refine ev_pos h42 ?_
    refine rsome_loop p s x5 f h5 (by omega) i _ (fun x7 h7 => ?_) _ 0 _ rfl (by omega) (hz.congr fun q hq => by rw [if_neg (by omega)])
    rw [wrap_succ (by omega)]
    exact ih (i + 1) x7 _ l' (by omega) (by omega) h7 hl'
   refine ev_neg h42 ?_
   by_cases h92 : c = 92
   ·have h1 : i + 1 < (bytesOf p).length := by
     by_cases h1 : i + 1 < (bytesOf p).length
     ·exact h1
     ·rw [List.drop_eq_nil_of_le (by omega), h92] at hl
      simp [parse] at hl
    rw [drop_cons (bytesOf p) 0 h1, h92, parse_back] at hl
    obtain ⟨l', hl', he⟩ := Option.map_eq_some_iff.1 hl
    refine ev_pos h92 ?_
    rw [wrap_succ (by omega), bt_nat]
    refine ev_pos (by omega) (ev_pos (by omega) ?_)
    rw [h92]
    exact one (i + 1) _ _ (own _) l' (by omega) (by omega) rfl (fun d => by rw [tk_own]; rfl) he.symm hl'
   refine ev_neg h92 ?_
   by_cases h63 : c = 63
   ·rw [h63, parse_quest] at hl
    obtain ⟨l', hl', he⟩ := Option.map_eq_some_iff.1 hl
    rw [h63]
    exact one i _ _ ⟨1, 0⟩ l' (by omega) (by omega) rfl (fun d => rfl) he.symm hl'
   ·rw [parse_own c (by omega)] at hl
    obtain ⟨l', hl', he⟩ := Option.map_eq_some_iff.1 hl
    have e : (c == 63) = false := beq_false_of_ne h63
    rw [e]
    exact one i _ _ (own c) l' (by omega) (by omega) rfl (fun d => by rw [tk_own]; rfl) he.symm hl'
  refine Ev.step (fun k => ambryref23_Match.l0.eq_2 _ _ _ _ _) ?_
  rw [wrap_succ (by omega), wrap_succ (by omega), ez, hb]
  refine ev_pos (by omega) (ev_pos (by omega) (ev_pos (by omega) (ev_some rfl (ev_pos (by omega) ?_))))
  by_cases h42 : c = 42
  ·refine ev_pos h42 ?_
   by_cases h1 : i + 1 < (bytesOf p).length
   ·refine ev_pos (by omega) (ev_pos (by omega) ?_)
    rw [bt_nat]
    by_cases h2 : (bytesOf p).getD (i + 1) 0 = 42
    ·rw [drop_cons (bytesOf p) 0 h1, h2, h42, parse_all] at hl
     obtain ⟨l', hl', rfl⟩ := Option.map_eq_some_iff.1 hl
     rw [h2]
     refine Ev.step (fun k => ambryref23_Match.j1.eq_2 _ _ _ _ _ _ _) (ev_pos (by simp) ?_)
     rw [wrap_succ (by omega)]
     refine rall_loop p s x5 f h5 (by omega) _ _ (fun x7 h7 => ?_) _ 0 _ rfl (by omega) (hz.congr fun q hq => by rw [if_neg (by omega)])
     rw [wrap_succ (by omega)]
     exact ih (i + 1 + 1) x7 _ l' (by omega) (by omega) h7 hl'
    ·rw [show ((bytesOf p).getD (i + 1) 0 == 42) = false from beq_false_of_ne h2]
     refine jF fun r' h => h2 ?_
     rw [drop_cons (bytesOf p) 0 h1] at h
     exact (List.cons.inj h.2).1
   ·refine ev_neg (by omega) (jF fun r' h => ?_)
    rw [List.drop_eq_nil_of_le (by omega)] at h
    exact absurd h.2 (by simp)
  ·exact ev_neg h42 (jF fun r' h => h42 h.1)

theorem rmatch_ev (p s : ByteArray) (hs : s.size ≤ 281474976710000) : Ev (fun k => ambryref23_Match.f k p s) (mtc p s) := by
 refine Ev.congr (fun k => ambryref23_Match.f.eq_1 k p s) ?_
 refine ev_bind (rvalid_ev p) ?_
 have ez : ((s.size + 1 : Nat) : Int).toNat = s.size + 1 := rfl
 unfold mtc
 cases hp : pparse p with
 | none => exact ev_neg (by simp) (ev_ret rfl)
 | some l =>
  have hp' := hp
  unfold pparse at hp'
  by_cases h200 : p.size ≤ 200
  case neg => rw [if_neg h200] at hp'; cases hp'
  rw [if_pos h200] at hp'
  rw [wrap_succ (by omega), ez]
  refine ev_pos rfl (ev_pos (by omega) (ev_pos (by omega) (ev_some rfl (ev_pos (by simp) ?_))))
  have h0 : Arr ((List.replicate (s.size + 1) false).set (0 : Int).toNat true) (s.size + 1) f0 := by
   have := (Arr.zero (s.size + 1)).set (show 0 < s.size + 1 by omega) true
   refine this.congr fun j hj => ?_
   by_cases e : j = 0 <;> simp [f0, e]
  refine ev_eq (rmatch_loop p s h200 hs _ 0 _ f0 l (Nat.le_refl _) (by omega) h0 (by simpa using hp')) ?_
  show row (bytesOf s) l f0 s.size = row (bytesOf s) l f0 (bytesOf s).length
  rw [← size_bytes]

/-! ### Literal -/
end Go.Proofs.Ytjliebggdphmpaa.Plain
