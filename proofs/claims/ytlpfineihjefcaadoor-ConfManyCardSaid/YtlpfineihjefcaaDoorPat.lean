/- Patterns' parts; which patterns are right (the program's Valid and the document's). -/
import Derived.Test.YtlpfineihjefcaaDoorGx0
import Derived.Test.YtlpfineihjefcaaDoorGx3
import Derived.Test.YtlpfineihjefcaaDoorGx3
import Derived.Test.YtlpfineihjefcaaDoorPlainA
set_option linter.unusedVariables false
set_option linter.unusedSimpArgs false
namespace Go.Proofs.YtlpfineihjefcaaDoor.Plain
open Go.RowKit Go.Proofs.YtlpfineihjefcaaDoor.G Go.Proofs.YtlpfineihjefcaaDoorW.PrintWords

/-- A pattern's parts. -/
def parse : List Int → Option (List S73)
  | [] => some []
  | [c] => if c = 42 then some [⟨2, 0⟩] else if c = 63 then some [⟨1, 0⟩] else if c = 92 then none else some [⟨0, c⟩]
  | c :: d :: r =>
    if c = 42 then (if d = 42 then (parse r).map (⟨3, 0⟩ :: ·) else (parse (d :: r)).map (⟨2, 0⟩ :: ·))
    else if c = 63 then (parse (d :: r)).map (⟨1, 0⟩ :: ·)
    else if c = 92 then (parse r).map (⟨0, d⟩ :: ·)
    else (parse (d :: r)).map (⟨0, c⟩ :: ·)

def own (c : Int) : S73 := ⟨0, c⟩
theorem parse_own (c : Int) (h : ¬ (c = 42 ∨ c = 63 ∨ c = 92)) (r : List Int) : parse (c :: r) = (parse r).map (own c :: ·) := by
  have h1 : ¬ c = 42 := fun e => h (.inl e)
  have h2 : ¬ c = 63 := fun e => h (.inr (.inl e))
  have h3 : ¬ c = 92 := fun e => h (.inr (.inr e))
  cases r with
  | nil => simp [parse, h1, h2, h3, own]
  | cons d r => simp only [parse, h1, h2, h3, if_false]; rfl
theorem parse_back (c : Int) (r : List Int) : parse (92 :: c :: r) = (parse r).map (own c :: ·) := by simp [parse, own]
theorem parse_all (r : List Int) : parse (42 :: 42 :: r) = (parse r).map (⟨3, 0⟩ :: ·) := by simp [parse]
def pres (acc : List S73) : Option (List S73) → List S73 × Bool
  | some t => (acc ++ t, true)
  | none => ([], false)
theorem pres_map (acc : List S73) (x : S73) (o : Option (List S73)) : pres acc (o.map (x :: ·)) = pres (acc ++ [x]) o := by
  cases o <;> simp [pres]
theorem parse_star (r : List Int) (h : ∀ r', r ≠ 42 :: r') : parse (42 :: r) = (parse r).map (⟨2, 0⟩ :: ·) := by
  cases r with
  | nil => simp [parse]
  | cons d r =>
    have : ¬ d = 42 := fun e => h r (by rw [e])
    simp only [parse, if_true, if_neg this]
theorem parse_quest (r : List Int) : parse (63 :: r) = (parse r).map (⟨1, 0⟩ :: ·) := by
  cases r with
  | nil => simp [parse]
  | cons d r => simp [parse]

theorem parts_loop (s : ByteArray) (hs : s.size ≤ 200) : ∀ (n i : Nat) (acc : List S73), (bytesOf s).length - i ≤ n → i ≤ (bytesOf s).length → acc.length ≤ i →
    Ev (fun k => glob_parts.l0 k s acc (i : Int)) (pres acc (parse ((bytesOf s).drop i))) := by
  have hsz : s.size = (bytesOf s).length := size_bytes s
  intro n
  induction n with
  | zero =>
    intro i acc hn hi _
    refine Ev.step (fun k => glob_parts.l0.eq_2 _ _ _ _) ?_
    refine ev_neg (by omega) (ev_ret ?_)
    rw [List.drop_eq_nil_of_le (by omega)]
    simp [parse, pres]
  | succ n ih =>
    intro i acc hn hi hacc
    by_cases hlt : i < (bytesOf s).length
    case neg =>
      refine Ev.step (fun k => glob_parts.l0.eq_2 _ _ _ _) ?_
      refine ev_neg (by omega) (ev_ret ?_)
      rw [List.drop_eq_nil_of_le (by omega)]
      simp [parse, pres]
    have hd := drop_cons (bytesOf s) 0 hlt
    have hb := bt_nat s i
    generalize (bytesOf s).getD i 0 = c at hd hb
    have jF : (∀ r', ¬ (c = 42 ∧ (bytesOf s).drop (i + 1) = 42 :: r')) → Ev (fun k => glob_parts.j1 k s acc (i : Int) c false) (pres acc (parse (c :: (bytesOf s).drop (i + 1)))) := by
      intro hno
      refine Ev.step (fun k => glob_parts.j1.eq_2 _ _ _ _ _ _) ?_
      refine ev_neg (by simp) ?_
      rw [wrap_succ (by omega)]
      by_cases h42 : c = 42
      · refine ev_pos h42 (ev_pos (by omega) (ev_eq (ih (i + 1) _ (by omega) (by omega) (by simp; omega)) ?_))
        rw [← pres_map, h42, parse_star _ (fun r' e => hno r' ⟨h42, e⟩)]
      refine ev_neg h42 ?_
      by_cases h63 : c = 63
      · refine ev_pos h63 (ev_pos (by omega) (ev_eq (ih (i + 1) _ (by omega) (by omega) (by simp; omega)) ?_))
        rw [← pres_map, h63, parse_quest]
      refine ev_neg h63 ?_
      by_cases h92 : c = 92
      · refine ev_pos h92 ?_
        by_cases hend : i + 1 = (bytesOf s).length
        · refine ev_pos (by omega) (ev_ret ?_)
          rw [List.drop_eq_nil_of_le (by omega), h92]
          rfl
        · refine ev_neg (by omega) (ev_pos (by omega) (ev_pos (by omega) (ev_pos (by omega) ?_)))
          rw [wrap_succ (by omega), bt_nat]
          refine ev_eq (ih (i + 1 + 1) _ (by omega) (by omega) (by simp; omega)) ?_
          rw [drop_cons (bytesOf s) 0 (show i + 1 < (bytesOf s).length by omega), h92, parse_back, pres_map]
          rfl
      refine ev_neg h92 (ev_pos (by omega) (ev_eq (ih (i + 1) _ (by omega) (by omega) (by simp; omega)) ?_))
      rw [parse_own c (by omega), pres_map]
      rfl
    refine Ev.step (fun k => glob_parts.l0.eq_2 _ _ _ _) ?_
    refine ev_pos (by omega) (ev_pos (by omega) ?_)
    rw [hb, hd, wrap_succ (by omega)]
    by_cases h42 : c = 42
    · refine ev_pos h42 ?_
      by_cases h1 : i + 1 < (bytesOf s).length
      · refine ev_pos (by omega) (ev_pos (by omega) ?_)
        rw [bt_nat]
        have hd1 := drop_cons (bytesOf s) 0 h1
        by_cases h2 : (bytesOf s).getD (i + 1) 0 = 42
        · rw [h2, hd1, h2, h42]
          refine Ev.step (fun k => glob_parts.j1.eq_2 _ _ _ _ _ _) ?_
          refine ev_pos (by simp) (ev_pos (by omega) ?_)
          rw [wrap_succ (by omega), wrap_succ (by omega)]
          refine ev_eq (ih (i + 1 + 1) _ (by omega) (by omega) (by simp; omega)) ?_
          rw [parse_all, pres_map]
        · have e : ((bytesOf s).getD (i + 1) 0 == 42) = false := by simpa using h2
          rw [e]
          refine jF fun r' h => h2 ?_
          rw [hd1] at h
          exact (List.cons.inj h.2).1
      · refine ev_neg (by omega) ?_
        refine jF fun r' h => ?_
        rw [List.drop_eq_nil_of_le (by omega)] at h
        exact absurd h.2 (by simp)
    · exact ev_neg h42 (jF fun r' h => h42 h.1)

def pparse (p : ByteArray) : Option (List S73) := if p.size ≤ 200 then parse (bytesOf p) else none
theorem parts_ev (p : ByteArray) : Ev (fun k => glob_parts.f k p) (pres [] (pparse p)) := by
  refine Ev.congr (fun k => glob_parts.f.eq_1 k p) ?_
  unfold pparse
  by_cases h : p.size ≤ 200
  · rw [if_pos h]
    exact ev_neg (by omega) (ev_eq (parts_loop p h _ 0 [] (Nat.le_refl _) (by omega) (by simp)) (by simp))
  · rw [if_neg h]
    exact ev_pos (by omega) (ev_ret rfl)
theorem valid_ev (p : ByteArray) : Ev (fun k => glob_Valid.f k p) (if (pparse p).isSome then 0 else 120) := by
  refine Ev.congr (fun k => glob_Valid.f.eq_1 k p) ?_
  refine ev_bind (parts_ev p) ?_
  cases pparse p with
  | none => exact ev_neg (by simp [pres]) (ev_ret rfl)
  | some l => exact ev_pos rfl (ev_ret rfl)
theorem some_cons : ∀ (n : Nat) (c : Int) (r : List Int), r.length ≤ n → c ≠ 92 → (parse (c :: r)).isSome = (parse r).isSome := by
  intro n
  induction n with
  | zero =>
    intro c r hr hc
    obtain rfl := List.eq_nil_of_length_eq_zero (show r.length = 0 by omega)
    simp only [parse, if_neg hc]
    repeat' split
    all_goals rfl
  | succ n ih =>
    intro c r hr hc
    cases r with
    | nil =>
      simp only [parse, if_neg hc]
      repeat' split
      all_goals rfl
    | cons d r =>
      simp only [List.length_cons] at hr
      simp only [parse, if_neg hc]
      split
      · split
        · rename_i h
          rw [Option.isSome_map, h]
          exact (ih 42 r (by omega) (by omega)).symm
        · rw [Option.isSome_map]
      · split <;> rw [Option.isSome_map]


/-- Is it a pattern? -/
def vb (p : ByteArray) : Bool := (pparse p).isSome
theorem vb_size {p : ByteArray} (h : vb p = true) : p.size ≤ 200 := by
  unfold vb pparse at h
  by_cases h2 : p.size ≤ 200
  · exact h2
  · rw [if_neg h2] at h; exact absurd h (by decide)
end Go.Proofs.YtlpfineihjefcaaDoor.Plain
