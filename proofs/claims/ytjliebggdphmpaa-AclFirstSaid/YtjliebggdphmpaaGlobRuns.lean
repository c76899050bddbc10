/- What the program's functions on patterns come to: parts, free, Match, Valid, Literal. -/
import Derived.Test.YtjliebggdphmpaaGx3
import Derived.Test.YtjliebggdphmpaaGx4
import Derived.Test.YtjliebggdphmpaaGx5
import Derived.Test.YtjliebggdphmpaaGlobSpec
set_option linter.unusedVariables false
set_option linter.unusedSimpArgs false
namespace Go.Proofs.Ytjliebggdphmpaa.Plain
open Go.RowKit Go.Proofs.Ytjliebggdphmpaa.G Go.Proofs.YtjliebggdphmpaaW.PrintWords

theorem many_eq (a b : Int) : glob_part_many.f a b = some (decide (a ≥ 2)) := rfl
theorem takes_eq (x : S77) (c : Int) : glob_part_takes.f x.f0 x.f1 c = some (tk x c) := by
  unfold glob_part_takes.f tk
  split
  · rfl
  · split <;> rfl

/-! ### parts -/
def pres (acc : List S77) : Option (List S77) → List S77 × Bool
  | some t => (acc ++ t, true)
  | none => ([], false)
theorem pres_map (acc : List S77) (x : S77) (o : Option (List S77)) : pres acc (o.map (x :: ·)) = pres (acc ++ [x]) o := by
  cases o <;> simp [pres]
theorem parse_star (r : List Int) (h : ∀ r', r ≠ 42 :: r') : parse (42 :: r) = (parse r).map (⟨2, 0⟩ :: ·) := by
  cases r with
  | nil => simp [parse]
  | cons d r =>
    have : ¬ d = 42 := fun e => h r (by rw [e])
    simp only [parse, if_true, if_neg this]
theorem parse_quest (r : List Int) : parse (63 :: r) = (parse r).map (⟨1, 0⟩ :: ·) := by
  cases r with
  | nil => simp [parse]
  | cons d r => simp [parse]

theorem parts_loop (s : ByteArray) (hs : s.size ≤ 200) : ∀ (n i : Nat) (acc : List S77), (bytesOf s).length - i ≤ n → i ≤ (bytesOf s).length → acc.length ≤ i →
    Ev (fun k => glob_parts.l0 k s acc (i : Int)) (pres acc (parse ((bytesOf s).drop i))) := by
  have hsz : s.size = (bytesOf s).length := size_bytes s
  intro n
  induction n with
  | zero =>
    intro i acc hn hi _
    refine Ev.step (fun k => glob_parts.l0.eq_2 _ _ _ _) ?_
    refine ev_neg (by omega) (ev_ret ?_)
    rw [List.drop_eq_nil_of_le (by omega)]
    simp [parse, pres]
  | succ n ih =>
    intro i acc hn hi hacc
    by_cases hlt : i < (bytesOf s).length
    case neg =>
      refine Ev.step (fun k => glob_parts.l0.eq_2 _ _ _ _) ?_
      refine ev_neg (by omega) (ev_ret ?_)
      rw [List.drop_eq_nil_of_le (by omega)]
      simp [parse, pres]
    have hd := drop_cons (bytesOf s) 0 hlt
    have hb := bt_nat s i
    generalize (bytesOf s).getD i 0 = c at hd hb
    have jF : (∀ r', ¬ (c = 42 ∧ (bytesOf s).drop (i + 1) = 42 :: r')) → Ev (fun k => glob_parts.j1 k s acc (i : Int) c false) (pres acc (parse (c :: (bytesOf s).drop (i + 1)))) := by
      intro hno
      refine Ev.step (fun k => glob_parts.j1.eq_2 _ _ _ _ _ _) ?_
      refine ev_neg (by simp) ?_
      rw [wrap_succ (by omega)]
      by_cases h42 : c = 42
      · refine ev_pos h42 (ev_pos (by omega) (ev_eq (ih (i + 1) _ (by omega) (by omega) (by simp; omega)) ?_))
        rw [← pres_map, h42, parse_star _ (fun r' e => hno r' ⟨h42, e⟩)]
      refine ev_neg h42 ?_
      by_cases h63 : c = 63
      · refine ev_pos h63 (ev_pos (by omega) (ev_eq (ih (i + 1) _ (by omega) (by omega) (by simp; omega)) ?_))
        rw [← pres_map, h63, parse_quest]
      refine ev_neg h63 ?_
      by_cases h92 : c = 92
      · refine ev_pos h92 ?_
        by_cases hend : i + 1 = (bytesOf s).length
        · refine ev_pos (by omega) (ev_ret ?_)
          rw [List.drop_eq_nil_of_le (by omega), h92]
          rfl
        · refine ev_neg (by omega) (ev_pos (by omega) (ev_pos (by omega) (ev_pos (by omega) ?_)))
          rw [wrap_succ (by omega), bt_nat]
          refine ev_eq (ih (i + 1 + 1) _ (by omega) (by omega) (by simp; omega)) ?_
          rw [drop_cons (bytesOf s) 0 (show i + 1 < (bytesOf s).length by omega), h92, parse_back, pres_map]
          rfl
      refine ev_neg h92 (ev_pos (by omega) (ev_eq (ih (i + 1) _ (by omega) (by omega) (by simp; omega)) ?_))
      rw [parse_own c (by omega), pres_map]
      rfl
    refine Ev.step (fun k => glob_parts.l0.eq_2 _ _ _ _) ?_
    refine ev_pos (by omega) (ev_pos (by omega) ?_)
    rw [hb, hd, wrap_succ (by omega)]
    by_cases h42 : c = 42
    · refine ev_pos h42 ?_
      by_cases h1 : i + 1 < (bytesOf s).length
      · refine ev_pos (by omega) (ev_pos (by omega) ?_)
        rw [bt_nat]
        have hd1 := drop_cons (bytesOf s) 0 h1
        by_cases h2 : (bytesOf s).getD (i + 1) 0 = 42
        · rw [h2, hd1, h2, h42]
          refine Ev.step (fun k => glob_parts.j1.eq_2 _ _ _ _ _ _) ?_
          refine ev_pos (by simp) (ev_pos (by omega) ?_)
          rw [wrap_succ (by omega), wrap_succ (by omega)]
          refine ev_eq (ih (i + 1 + 1) _ (by omega) (by omega) (by simp; omega)) ?_
          rw [parse_all, pres_map]
        · have e : ((bytesOf s).getD (i + 1) 0 == 42) = false := by simpa using h2
          rw [e]
          refine jF fun r' h => h2 ?_
          rw [hd1] at h
          exact (List.cons.inj h.2).1
      · refine ev_neg (by omega) ?_
        refine jF fun r' h => ?_
        rw [List.drop_eq_nil_of_le (by omega)] at h
        exact absurd h.2 (by simp)
    · exact ev_neg h42 (jF fun r' h => h42 h.1)

def pparse (p : ByteArray) : Option (List S77) := if p.size ≤ 200 then parse (bytesOf p) else none
theorem parts_ev (p : ByteArray) : Ev (fun k => glob_parts.f k p) (pres [] (pparse p)) := by
  refine Ev.congr (fun k => glob_parts.f.eq_1 k p) ?_
  unfold pparse
  by_cases h : p.size ≤ 200
  · rw [if_pos h]
    exact ev_neg (by omega) (ev_eq (parts_loop p h _ 0 [] (Nat.le_refl _) (by omega) (by simp)) (by simp))
  · rw [if_neg h]
    exact ev_pos (by omega) (ev_ret rfl)
theorem parse_length : ∀ (n : Nat) (s : List Int), s.length ≤ n → ∀ l, parse s = some l → l.length ≤ s.length := by
  intro n
  induction n with
  | zero => intro s hs l h; obtain rfl := List.eq_nil_of_length_eq_zero (show s.length = 0 by omega); simp [parse] at h; simp [← h]
  | succ n ih =>
    intro s hs l h
    have one : ∀ (r : List Int) (x : S77), r.length ≤ n → (parse r).map (x :: ·) = some l → l.length ≤ r.length + 1 := by
      intro r x hr h
      obtain ⟨l', h1, rfl⟩ := Option.map_eq_some_iff.1 h
      have := ih r hr l' h1
      simp only [List.length_cons]
      omega
    match s, hs, h with
    | [], _, h => simp [parse] at h; simp [← h]
    | [c], _, h =>
      simp only [parse] at h
      repeat' split at h
      all_goals first | (injection h with h; simp [← h]) | cases h
    | c :: d :: r, hs, h =>
      simp only [List.length_cons] at hs ⊢
      simp only [parse] at h
      repeat' split at h
      · have := one r _ (by omega) h; omega
      · have := one (d :: r) _ (by simp only [List.length_cons]; omega) h; simpa using this
      · have := one (d :: r) _ (by simp only [List.length_cons]; omega) h; simpa using this
      · have := one r _ (by omega) h; omega
      · have := one (d :: r) _ (by simp only [List.length_cons]; omega) h; simpa using this

/-! ### slices of bools as functions -/
structure Arr (x : List Bool) (n : Nat) (f : Nat → Bool) : Prop where
  len : x.length = n
  get : ∀ j, j < n → x.getD j false = f j
theorem Arr.set {x : List Bool} {n : Nat} {f : Nat → Bool} (h : Arr x n f) {i : Nat} (_hi : i < n) (b : Bool) : Arr (x.set i b) n (fun j => if j = i then b else f j) := by
  refine ⟨by rw [List.length_set, h.len], fun j hj => ?_⟩
  have hl := h.len
  have := h.get j hj
  rw [List.getD_eq_getElem?_getD] at this ⊢
  by_cases e : j = i
  · subst e
    rw [if_pos rfl, List.getElem?_set_self (by omega)]; rfl
  · rw [if_neg e, List.getElem?_set_ne (Ne.symm e)]; exact this
theorem Arr.congr {x : List Bool} {n : Nat} {f g : Nat → Bool} (h : Arr x n f) (e : ∀ j, j < n → f j = g j) : Arr x n g := ⟨h.len, fun j hj => (h.get j hj).trans (e j hj)⟩
theorem Arr.rd {x : List Bool} {n : Nat} {f : Nat → Bool} (h : Arr x n f) {i : Nat} (hi : i < n) : rdOf false x (i : Int) = f i := h.get i hi
theorem Arr.zero (n : Nat) : Arr (List.replicate n false) n (fun _ => false) := ⟨by simp, fun j hj => by rw [List.getD_eq_getElem?_getD, List.getElem?_replicate]; split <;> rfl⟩

def freeF (l : List S77) (v : Nat → Bool) : Nat → Bool
  | 0 => v 0
  | i + 1 => v (i + 1) || (freeF l v i && mn (l.getD i z77))

theorem rdT (l : List S77) (i : Nat) : rd_T77 l (i : Int) = l.getD i z77 := rfl

theorem free_loop (l : List S77) (v : Nat → Bool) (hl : l.length ≤ 1000) : ∀ (d i : Nat) (x : List Bool), l.length - i = d → i ≤ l.length → Arr x (l.length + 1) (fun j => if j ≤ i then freeF l v j else v j) →
    ∃ y, Arr y (l.length + 1) (freeF l v) ∧ Ev (fun k => glob_free.l0 k l x (l.length : Int) (i : Int)) y := by
  intro d
  induction d with
  | zero =>
    intro i x hd hi hx
    refine ⟨x, hx.congr fun j hj => by rw [if_pos (by omega)], ?_⟩
    exact Ev.step (fun k => glob_free.l0.eq_2 _ _ _ _ _) (ev_neg (by omega) (Ev.now x))
  | succ d ih =>
    intro i x hd hi hx
    have hlen := hx.len
    have h0 := hx.rd (show i < l.length + 1 by omega)
    have h1 := hx.rd (show i + 1 < l.length + 1 by omega)
    rw [if_pos (Nat.le_refl _)] at h0
    rw [if_neg (by omega)] at h1
    obtain ⟨y, hy, he⟩ := ih (i + 1) (x.set (i + 1) (freeF l v (i + 1))) (by omega) (by omega) ((hx.set (show i + 1 < l.length + 1 by omega) _).congr fun j hj => by
      by_cases e : j = i + 1
      · rw [if_pos e, if_pos (by omega), e]
      · rw [if_neg e]
        by_cases e2 : j ≤ i
        · rw [if_pos e2, if_pos (by omega)]
        · rw [if_neg e2, if_neg (by omega)])
    refine ⟨y, hy, Ev.step (fun k => glob_free.l0.eq_2 _ _ _ _ _) ?_⟩
    rw [wrap_succ (by omega), rdT, h0, h1]
    refine ev_pos (by omega) (ev_pos (by omega) (ev_pos (by omega) ?_))
    have e0 : ((i + 1 : Nat) : Int).toNat = i + 1 := rfl
    rw [e0]
    by_cases c1 : v (i + 1) = true
    · refine ev_pos c1 ?_
      have : freeF l v (i + 1) = true := by simp [freeF, c1]
      rw [this] at he
      exact he
    · refine ev_neg c1 (ev_pos (by omega) (ev_pos (by omega) ?_))
      by_cases c2 : freeF l v i = true
      · refine ev_pos c2 (ev_pos (by omega) (ev_some (many_eq _ _) ?_))
        have : freeF l v (i + 1) = decide ((l.getD i z77).f0 ≥ 2) := by simp only [freeF, c2, Bool.true_and]; rw [Bool.eq_false_iff.2 c1]; rfl
        rw [this] at he
        exact he
      · refine ev_neg c2 ?_
        have : freeF l v (i + 1) = false := by simp only [freeF]; rw [Bool.eq_false_iff.2 c1, Bool.eq_false_iff.2 c2]; rfl
        rw [this] at he
        exact he
theorem free_ev (l : List S77) (v : Nat → Bool) (hl : l.length ≤ 1000) (x : List Bool) (hx : Arr x (l.length + 1) v) : ∃ y, Arr y (l.length + 1) (freeF l v) ∧ Ev (fun k => glob_free.f k l x) y :=
  free_loop l v hl _ 0 x rfl (by omega) (hx.congr fun j hj => by
    by_cases e : j ≤ 0
    · rw [if_pos e]; obtain rfl : j = 0 := by omega
      rfl
    · rw [if_neg e])

theorem index_loop (x : List Bool) (hl : x.length ≤ 1001) : ∀ (d i : Nat), x.length - i = d → i ≤ x.length → (∀ j, j < i → x.getD j false = false) →
    ∃ z : Int, Ev (fun k => slices_Index_bool_bool.l0 k x true (x.length : Int) (i : Int)) z ∧ (z ≥ 0 ∨ (z < 0 ∧ ∀ j, j < x.length → x.getD j false = false)) := by
  intro d
  induction d with
  | zero =>
    intro i hd hi hx
    exact ⟨-1, Ev.step (fun k => slices_Index_bool_bool.l0.eq_2 _ _ _ _ _) (ev_neg (by omega) (Ev.now _)), .inr ⟨by omega, fun j hj => hx j (by omega)⟩⟩
  | succ d ih =>
    intro i hd hi hx
    have e : rdOf false x (i : Int) = x.getD i false := rfl
    cases hb : x.getD i false with
    | true =>
      refine ⟨i, Ev.step (fun k => slices_Index_bool_bool.l0.eq_2 _ _ _ _ _) ?_, .inl (by omega)⟩
      rw [e, hb]
      exact ev_pos (by omega) (ev_pos (by omega) (ev_pos (by omega) (ev_pos rfl (Ev.now _))))
    | false =>
      obtain ⟨z, hz, hc⟩ := ih (i + 1) (by omega) (by omega) (fun j hj => by
        by_cases e : j = i
        · rw [e, hb]
        · exact hx j (by omega))
      refine ⟨z, Ev.step (fun k => slices_Index_bool_bool.l0.eq_2 _ _ _ _ _) ?_, hc⟩
      rw [e, hb, wrap_succ (by omega)]
      exact ev_pos (by omega) (ev_pos (by omega) (ev_pos (by omega) (ev_neg (by simp) hz)))
theorem contains_ev (x : List Bool) (hl : x.length ≤ 1001) : ∃ b, Ev (fun k => slices_Contains_bool_bool.f k x true) b ∧ (b = true ∨ (b = false ∧ ∀ j, j < x.length → x.getD j false = false)) := by
  obtain ⟨z, hz, hc⟩ := index_loop x hl _ 0 rfl (by omega) (fun j hj => by omega)
  refine ⟨decide (z ≥ 0), ?_, ?_⟩
  · refine Ev.congr (fun k => slices_Contains_bool_bool.f.eq_1 _ _ _) ?_
    exact ev_bind (g := fun k => slices_Index_bool_bool.f k x true) hz (Ev.now _)
  · rcases hc with h | ⟨h, h2⟩
    · exact .inl (by simpa using h)
    · exact .inr ⟨by simpa using h, h2⟩

/-! ### Match: column by column -/
def R (l : List S77) (s : List Int) (i k : Nat) : Bool := row s (l.take i) f0 k
def A (l : List S77) (s : List Int) (k i : Nat) : Bool := if i < l.length ∧ mn (l.getD i z77) = true then R l s (i + 1) k else R l s i k
theorem R_zero (l : List S77) (s : List Int) (k : Nat) : R l s 0 k = (k == 0) := by simp [R, row, f0]
theorem R_succ (l : List S77) (s : List Int) (i : Nat) (hi : i < l.length) (k : Nat) : R l s (i + 1) k = Grow (l.getD i z77) s (R l s i) k := by
  unfold R
  rw [List.take_succ_eq_append_getElem hi, row_snoc, List.getD_eq_getElem?_getD, List.getElem?_eq_getElem hi]
  rfl
/-- What stands in 'next' ahead of 'free', behind i parts. -/
def Nf (l : List S77) (a : Nat → Bool) (c : Int) (i j : Nat) : Bool :=
  (decide (j < i) && (a j && tk (l.getD j z77) c) && mn (l.getD j z77)) || (decide (1 ≤ j ∧ j ≤ i) && (a (j - 1) && tk (l.getD (j - 1) z77) c) && !mn (l.getD (j - 1) z77))

theorem A_free (l : List S77) (s : List Int) (k : Nat) : ∀ i, i ≤ l.length → freeF l (Nf l (A l s k) (s.getD k 0) l.length) i = A l s (k + 1) i
  | 0, _ => by
    simp only [freeF, Nf]
    by_cases h : 0 < l.length ∧ mn (l.getD 0 z77) = true
    · have e1 : A l s (k + 1) 0 = R l s 1 (k + 1) := if_pos h
      have e2 : A l s k 0 = R l s 1 k := if_pos h
      rw [e1, e2, R_succ l s 0 h.1, R_succ l s 0 h.1, Grow, if_pos h.2, R_zero, decide_eq_true h.1, decide_eq_false (show ¬ (1 ≤ 0 ∧ 0 ≤ l.length) by omega), h.2]
      simp
    · have e1 : A l s (k + 1) 0 = R l s 0 (k + 1) := if_neg h
      rw [e1, R_zero]
      by_cases h0 : 0 < l.length
      · have : mn (l.getD 0 z77) = false := by simpa [h0] using h
        simp only [this]; simp
      · simp [h0]
  | i + 1, hi => by
    rw [freeF, A_free l s k i (by omega)]
    have hi' : i < l.length := by omega
    simp only [Nf]
    -- what comes of the part ahead
    have back : R l s (i + 1) (k + 1) = ((A l s (k + 1) i && mn (l.getD i z77)) || ((A l s k i && tk (l.getD i z77) (s.getD k 0)) && !mn (l.getD i z77))) := by
      by_cases hm : mn (l.getD i z77) = true
      · have e1 : A l s (k + 1) i = R l s (i + 1) (k + 1) := if_pos ⟨hi', hm⟩
        rw [e1, hm]; simp
      · have e1 : A l s k i = R l s i k := if_neg fun h => hm h.2
        rw [e1, R_succ l s i hi', Grow, if_neg hm, Bool.eq_false_iff.2 hm]
        simp
    have hd : decide (1 ≤ i + 1 ∧ i + 1 ≤ l.length) = true := decide_eq_true ⟨by omega, hi⟩
    rw [hd, Nat.add_sub_cancel]
    by_cases h : i + 1 < l.length ∧ mn (l.getD (i + 1) z77) = true
    · have e1 : A l s (k + 1) (i + 1) = R l s (i + 1 + 1) (k + 1) := if_pos h
      have e2 : A l s k (i + 1) = R l s (i + 1 + 1) k := if_pos h
      have hd2 : decide (i + 1 < l.length) = true := decide_eq_true h.1
      rw [e1, R_succ l s (i + 1) h.1, Grow, if_pos h.2, ← R_succ l s (i + 1) h.1, ← e2, back, hd2, h.2]
      simp only [Bool.true_and, Bool.and_true]
      cases A l s (k + 1) i <;> cases A l s k i <;> cases A l s k (i + 1) <;> cases mn (l.getD i z77) <;> cases tk (l.getD i z77) (s.getD k 0) <;> cases tk (l.getD (i + 1) z77) (s.getD k 0) <;> rfl
    · have e1 : A l s (k + 1) (i + 1) = R l s (i + 1) (k + 1) := if_neg h
      have e2 : (decide (i + 1 < l.length) && (A l s k (i + 1) && tk (l.getD (i + 1) z77) (s.getD k 0)) && mn (l.getD (i + 1) z77)) = false := by
        by_cases h0 : i + 1 < l.length
        · have : mn (l.getD (i + 1) z77) = false := Bool.eq_false_iff.2 fun hm => h ⟨h0, hm⟩
          rw [this, Bool.and_false]
        · rw [decide_eq_false h0]; simp
      rw [e1, back, e2]
      simp only [Bool.true_and, Bool.false_or]
      exact Bool.or_comm _ _
theorem A_start (l : List S77) (s : List Int) : ∀ i, i ≤ l.length → freeF l (fun j => if j = 0 then true else false) i = A l s 0 i
  | 0, _ => by
    simp only [freeF, if_true]
    by_cases h : 0 < l.length ∧ mn (l.getD 0 z77) = true
    · have e1 : A l s 0 0 = R l s 1 0 := if_pos h
      rw [e1, R_succ l s 0 h.1, Grow, R_zero, h.2]; rfl
    · have e1 : A l s 0 0 = R l s 0 0 := if_neg h
      rw [e1, R_zero]; rfl
  | i + 1, hi => by
    rw [freeF, A_start l s i (by omega)]
    have hi' : i < l.length := by omega
    have back : R l s (i + 1) 0 = (A l s 0 i && mn (l.getD i z77)) := by
      by_cases hm : mn (l.getD i z77) = true
      · have e1 : A l s 0 i = R l s (i + 1) 0 := if_pos ⟨hi', hm⟩
        rw [e1, hm, Bool.and_true]
      · rw [R_succ l s i hi', Grow, Bool.eq_false_iff.2 hm]; simp
    rw [← back]
    by_cases h : i + 1 < l.length ∧ mn (l.getD (i + 1) z77) = true
    · have e1 : A l s 0 (i + 1) = R l s (i + 1 + 1) 0 := if_pos h
      rw [e1, R_succ l s (i + 1) h.1, Grow, h.2]; simp
    · have e1 : A l s 0 (i + 1) = R l s (i + 1) 0 := if_neg h
      rw [e1]; simp
theorem A_dead (l : List S77) (s : List Int) (k : Nat) (h : ∀ i, i ≤ l.length → A l s k i = false) : ∀ d i, i ≤ l.length → A l s (k + d) i = false
  | 0 => h
  | d + 1 => by
    have ih := A_dead l s k h d
    have key : ∀ i, i ≤ l.length → freeF l (Nf l (A l s (k + d)) (s.getD (k + d) 0) l.length) i = false := by
      intro i
      induction i with
      | zero =>
        intro hi
        simp only [freeF, Nf]
        rw [ih 0 hi]; simp
      | succ i ihi =>
        intro hi
        simp only [freeF, Nf]
        rw [ihi (by omega), ih (i + 1) hi, Nat.add_sub_cancel, ih i (by omega)]; simp
    intro i hi
    rw [← Nat.add_assoc, ← A_free l s (k + d) i hi]
    exact key i hi
theorem A_last (l : List S77) (s : List Int) (k : Nat) : A l s k l.length = row s l f0 k := by
  have : ¬ (l.length < l.length ∧ mn (l.getD l.length z77) = true) := fun h => by omega
  rw [A, if_neg this, R, List.take_length]

theorem inner_loop (s : ByteArray) (l : List S77) (hl : l.length ≤ 1000) (x7 : List Bool) (a : Nat → Bool) (hx7 : Arr x7 (l.length + 1) a) (pos : Nat) (hpos : pos < s.size) (m : Int) (r : Bool)
    (fin : ∀ x9, Arr x9 (l.length + 1) (Nf l a ((bytesOf s).getD pos 0) l.length) → Ev (fun k => (glob_free.f k l x9).bind fun t158 => ((slices_Contains_bool_bool.f k t158 true).bind fun t159 => (if t159 = true then (glob_Match.l0 k s l t158 m (wrap64 ((pos : Int) + 1))) else (some false)))) r) :
    ∀ (d i : Nat) (x9 : List Bool), l.length - i = d → i ≤ l.length → Arr x9 (l.length + 1) (Nf l a ((bytesOf s).getD pos 0) i) → Ev (fun k => glob_Match.l1 k s l x7 (pos : Int) x9 m (pos : Int) (l.length : Int) (i : Int)) r := by
  intro d
  induction d with
  | zero =>
    intro i x9 hd hi hx9
    obtain rfl : i = l.length := by omega
    exact Ev.step (fun k => glob_Match.l1.eq_2 _ _ _ _ _ _ _ _ _ _) (ev_neg (by omega) (fin x9 hx9))
  | succ d ih =>
    intro i x9 hd hi hx9
    have h7 := hx7.len
    have h9 := hx9.len
    have ha := hx7.rd (show i < l.length + 1 by omega)
    have hF : (a i && tk (l.getD i z77) ((bytesOf s).getD pos 0)) = false → Ev (fun k => glob_Match.j2 k s l x7 (pos : Int) x9 (i : Int) m (pos : Int) (l.length : Int) (i : Int) false) r := by
      intro hf
      refine Ev.step (fun k => glob_Match.j2.eq_2 _ _ _ _ _ _ _ _ _ _ _ _) (ev_neg (by simp) ?_)
      rw [wrap_succ (by omega)]
      refine ih (i + 1) x9 (by omega) (by omega) (hx9.congr fun j hj => ?_)
      unfold Nf
      by_cases e : j = i
      · subst e
        rw [hf, decide_eq_false (show ¬ j < j by omega), decide_eq_true (show j < j + 1 by omega)]
        have : decide (1 ≤ j ∧ j ≤ j) = decide (1 ≤ j ∧ j ≤ j + 1) := by rw [decide_eq_decide]; omega
        rw [this]; simp
      · by_cases e2 : j = i + 1
        · subst e2
          rw [Nat.add_sub_cancel, hf, decide_eq_false (show ¬ i + 1 < i by omega), decide_eq_false (show ¬ i + 1 < i + 1 by omega), decide_eq_false (show ¬ (1 ≤ i + 1 ∧ i + 1 ≤ i) by omega)]; simp
        · have e3 : decide (j < i) = decide (j < i + 1) := by rw [decide_eq_decide]; omega
          have e4 : decide (1 ≤ j ∧ j ≤ i) = decide (1 ≤ j ∧ j ≤ i + 1) := by rw [decide_eq_decide]; omega
          rw [e3, e4]
    have hT : (a i && tk (l.getD i z77) ((bytesOf s).getD pos 0)) = true → Ev (fun k => glob_Match.j2 k s l x7 (pos : Int) x9 (i : Int) m (pos : Int) (l.length : Int) (i : Int) true) r := by
      intro hf
      have hn1 : Nf l a ((bytesOf s).getD pos 0) i (i + 1) = false := by
        unfold Nf
        rw [decide_eq_false (show ¬ i + 1 < i by omega), decide_eq_false (show ¬ (1 ≤ i + 1 ∧ i + 1 ≤ i) by omega)]; simp
      have hb1 := hx9.rd (show i < l.length + 1 by omega)
      have hnext : ∀ b, b = (Nf l a ((bytesOf s).getD pos 0) i i || mn (l.getD i z77)) →
          Ev (fun k => glob_Match.l1 k s l x7 (pos : Int) ((x9.set i b).set (i + 1) (!mn (l.getD i z77))) m (pos : Int) (l.length : Int) ((i + 1 : Nat) : Int)) r := by
        rintro b rfl
        refine ih (i + 1) _ (by omega) (by omega) (((hx9.set (show i < l.length + 1 by omega) _).set (show i + 1 < l.length + 1 by omega) _).congr fun j hj => ?_)
        by_cases e : j = i + 1
        · subst e
          rw [if_pos rfl]
          unfold Nf
          rw [Nat.add_sub_cancel, hf, decide_eq_false (show ¬ i + 1 < i + 1 by omega), decide_eq_true (show 1 ≤ i + 1 ∧ i + 1 ≤ i + 1 by omega)]; simp
        · rw [if_neg e]
          by_cases e2 : j = i
          · subst e2
            rw [if_pos rfl]
            unfold Nf
            rw [hf, decide_eq_false (show ¬ j < j by omega), decide_eq_true (show j < j + 1 by omega)]
            have : decide (1 ≤ j ∧ j ≤ j) = decide (1 ≤ j ∧ j ≤ j + 1) := by rw [decide_eq_decide]; omega
            rw [this]
            simp only [Bool.false_and, Bool.false_or, Bool.true_and]
            exact Bool.or_comm _ _
          · rw [if_neg e2]
            unfold Nf
            have e3 : decide (j < i) = decide (j < i + 1) := by rw [decide_eq_decide]; omega
            have e4 : decide (1 ≤ j ∧ j ≤ i) = decide (1 ≤ j ∧ j ≤ i + 1) := by rw [decide_eq_decide]; omega
            rw [e3, e4]
      have hrd : ∀ b, rdOf false (x9.set i b) ((i + 1 : Nat) : Int) = false := fun b => by
        have := (hx9.set (show i < l.length + 1 by omega) b).rd (show i + 1 < l.length + 1 by omega)
        rw [this, if_neg (by omega), hn1]
      have ei : ((i : Nat) : Int).toNat = i := rfl
      have ei1 : ((i + 1 : Nat) : Int).toNat = i + 1 := rfl
      refine Ev.step (fun k => glob_Match.j2.eq_2 _ _ _ _ _ _ _ _ _ _ _ _) (ev_pos rfl ?_)
      rw [wrap_succ (by omega), ei, ei1, rdT]
      refine ev_pos (by omega) (ev_pos (by omega) ?_)
      cases hb : Nf l a ((bytesOf s).getD pos 0) i i with
      | true =>
        rw [hb] at hb1
        refine ev_pos hb1 (ev_some rfl (ev_pos (by omega) (ev_pos (by omega) ?_)))
        rw [hrd]
        refine ev_neg (by simp) (ev_pos (by omega) (ev_some (many_eq _ _) ?_))
        exact hnext true (by rw [hb]; rfl)
      | false =>
        rw [hb] at hb1
        refine ev_neg (by rw [hb1]; simp) (ev_pos (by omega) (ev_some (many_eq _ _) (ev_some rfl (ev_pos (by omega) (ev_pos (by omega) ?_)))))
        rw [hrd]
        refine ev_neg (by simp) (ev_some (many_eq _ _) ?_)
        exact hnext _ (by rw [hb]; rfl)
    refine Ev.step (fun k => glob_Match.l1.eq_2 _ _ _ _ _ _ _ _ _ _) ?_
    rw [ha, bt_nat, rdT]
    refine ev_pos (by omega) (ev_pos (by omega) (ev_pos (by omega) ?_))
    cases hai : a i with
    | true =>
      refine ev_pos rfl (ev_pos (by omega) (ev_pos (by omega) (ev_pos (by omega) (ev_some (takes_eq _ _) ?_))))
      cases ht : tk (l.getD i z77) ((bytesOf s).getD pos 0) with
      | true => exact hT (by rw [hai, ht]; rfl)
      | false => exact hF (by rw [ht, Bool.and_false])
    | false => exact ev_neg (by simp) (hF (by rw [hai]; rfl))

theorem match_loop (s : ByteArray) (hs : s.size ≤ 4611686018427387904) (l : List S77) (hl : l.length ≤ 1000) : ∀ (d pos : Nat) (x7 : List Bool), s.size - pos = d → pos ≤ s.size → Arr x7 (l.length + 1) (A l (bytesOf s) pos) →
    Ev (fun k => glob_Match.l0 k s l x7 (s.size : Int) (pos : Int)) (Mm l (bytesOf s)) := by
  have hsz := size_bytes s
  intro d
  induction d with
  | zero =>
    intro pos x7 hd hp hx
    obtain rfl : pos = s.size := by omega
    have h7 := hx.len
    refine Ev.step (fun k => glob_Match.l0.eq_2 _ _ _ _ _ _) (ev_neg (by omega) (ev_pos (by omega) (ev_pos (by omega) (ev_ret ?_))))
    rw [hx.rd (by omega), A_last, Mm, ← hsz]
  | succ d ih =>
    intro pos x7 hd hp hx
    refine Ev.step (fun k => glob_Match.l0.eq_2 _ _ _ _ _ _) ?_
    rw [wrap_succ (by omega)]
    have e1 : ((l.length + 1 : Nat) : Int).toNat = l.length + 1 := rfl
    rw [e1]
    refine ev_pos (by omega) (ev_pos (by omega) (ev_pos (by omega) ?_))
    refine inner_loop s l hl x7 _ hx pos (by omega) _ _ ?_ _ 0 _ rfl (by omega) ((Arr.zero _).congr fun j hj => ?_)
    · intro x9 h9
      obtain ⟨y, hy, he⟩ := free_ev l _ hl x9 h9
      have hy := hy.congr (fun j hj => A_free l (bytesOf s) pos j (by omega))
      obtain ⟨b, hb, hc⟩ := contains_ev y (by rw [hy.len]; omega)
      refine ev_bind he (ev_bind hb ?_)
      rcases hc with rfl | ⟨rfl, hc⟩
      · refine ev_pos rfl ?_
        rw [wrap_succ (by omega)]
        exact ih (pos + 1) y (by omega) (by omega) hy
      · refine ev_neg (by simp) (ev_ret ?_)
        have hdead := A_dead l (bytesOf s) (pos + 1) (fun i hi => by rw [← hy.get i (by omega)]; exact hc i (by rw [hy.len]; omega)) (s.size - (pos + 1)) l.length (Nat.le_refl _)
        rw [show pos + 1 + (s.size - (pos + 1)) = (bytesOf s).length by omega, A_last] at hdead
        exact hdead.symm
    · unfold Nf
      rw [decide_eq_false (show ¬ j < 0 by omega), decide_eq_false (show ¬ (1 ≤ j ∧ j ≤ 0) by omega)]; simp

def mtc (p s : ByteArray) : Bool := match pparse p with
  | some l => Mm l (bytesOf s)
  | none => false
theorem pparse_length {p : ByteArray} {l : List S77} (h : pparse p = some l) : l.length ≤ 200 := by
  unfold pparse at h
  split at h
  · rename_i hp
    have := parse_length _ _ (Nat.le_refl _) l h
    rw [size_bytes] at hp
    omega
  · cases h
theorem match_ev (p s : ByteArray) (hs : s.size ≤ 4611686018427387904) : Ev (fun k => glob_Match.f k p s) (mtc p s) := by
  refine Ev.congr (fun k => glob_Match.f.eq_1 k p s) ?_
  unfold mtc
  cases hp : pparse p with
  | none =>
    refine ev_bind (ev_eq (b := (([], false) : List S77 × Bool)) (parts_ev p) (by rw [hp]; rfl)) ?_
    exact ev_neg (by simp) (ev_ret rfl)
  | some l =>
    have hl := pparse_length hp
    refine ev_bind (ev_eq (b := ((l, true) : List S77 × Bool)) (parts_ev p) (by rw [hp]; simp [pres])) (ev_pos rfl ?_)
    have hw : wrap64 ((l.length : Int) + 1) = ((l.length + 1 : Nat) : Int) := wrap_succ (by omega)
    show Ev (fun k => if 0 ≤ wrap64 ((l.length : Int) + 1) then _ else _) _
    rw [hw]
    refine ev_pos (by omega) (ev_pos (by omega) (ev_some (a := List.replicate (l.length + 1) false) rfl (ev_pos (by simp) ?_)))
    have hx : Arr ((List.replicate (l.length + 1) false).set 0 true) (l.length + 1) (fun j => if j = 0 then true else false) := (Arr.zero _).set (by omega) true
    obtain ⟨y, hy, he⟩ := free_ev l _ (by omega) _ hx
    refine ev_bind he ?_
    exact match_loop s hs l (by omega) _ 0 y rfl (by omega) (hy.congr fun j hj => A_start l (bytesOf s) j (by omega))

/-! ### Literal -/
end Go.Proofs.Ytjliebggdphmpaa.Plain
