/- Patterns: their parts, what the parts say of a text (a table, row by row; and as a relation), and that both are the same. -/
import Derived.Test.YtjliebggdphmpaaGx0
import Derived.Test.YtjliebggdphmpaaPlainA
set_option linter.unusedVariables false
set_option linter.unusedSimpArgs false
namespace Go.Proofs.Ytjliebggdphmpaa.Plain
open Go.RowKit Go.Proofs.Ytjliebggdphmpaa.G Go.Proofs.YtjliebggdphmpaaW.PrintWords

def mn (x : S77) : Bool := decide (x.f0 ≥ 2)
def tk (x : S77) (c : Int) : Bool := if x.f0 = 0 then c == x.f1 else if x.f0 = 3 then true else c != 47

/-- A pattern's parts. -/
def parse : List Int → Option (List S77)
  | [] => some []
  | [c] => if c = 42 then some [⟨2, 0⟩] else if c = 63 then some [⟨1, 0⟩] else if c = 92 then none else some [⟨0, c⟩]
  | c :: d :: r =>
    if c = 42 then (if d = 42 then (parse r).map (⟨3, 0⟩ :: ·) else (parse (d :: r)).map (⟨2, 0⟩ :: ·))
    else if c = 63 then (parse (d :: r)).map (⟨1, 0⟩ :: ·)
    else if c = 92 then (parse r).map (⟨0, d⟩ :: ·)
    else (parse (d :: r)).map (⟨0, c⟩ :: ·)

/-- Behind one part more: which beginnings of the text are said. -/
def Grow (x : S77) (s : List Int) (f : Nat → Bool) : Nat → Bool
  | 0 => f 0 && mn x
  | k + 1 => if mn x then f (k + 1) || (Grow x s f k && tk x (s.getD k 0)) else f k && tk x (s.getD k 0)
def row (s : List Int) (l : List S77) (f : Nat → Bool) : Nat → Bool := l.foldl (fun f x => Grow x s f) f
def f0 : Nat → Bool := fun k => k == 0
def Mm (l : List S77) (s : List Int) : Bool := row s l f0 s.length

theorem row_snoc (s : List Int) (l : List S77) (x : S77) (f : Nat → Bool) : row s (l ++ [x]) f = Grow x s (row s l f) := by simp [row]
/-- What the parts say, as a relation. -/
inductive Lg : List S77 → List Int → Prop
  | nil : Lg [] []
  | one (l : List S77) (s : List Int) (x : S77) (c : Int) : mn x = false → tk x c = true → Lg l s → Lg (l ++ [x]) (s ++ [c])
  | skip (l : List S77) (s : List Int) (x : S77) : mn x = true → Lg l s → Lg (l ++ [x]) s
  | eat (l : List S77) (s : List Int) (x : S77) (c : Int) : mn x = true → tk x c = true → Lg (l ++ [x]) s → Lg (l ++ [x]) (s ++ [c])

theorem take_snoc {s : List Int} {k : Nat} (h : k < s.length) : s.take (k + 1) = s.take k ++ [s.getD k 0] := by
  rw [List.take_succ_eq_append_getElem h, List.getD_eq_getElem?_getD, List.getElem?_eq_getElem h]; rfl

theorem Grow_lg (s : List Int) (x : S77) (l : List S77) (f : Nat → Bool) (hf : ∀ k, k ≤ s.length → (f k = true → Lg l (s.take k))) :
    ∀ k, k ≤ s.length → Grow x s f k = true → Lg (l ++ [x]) (s.take k)
  | 0, _, h => by
    simp only [Grow, Bool.and_eq_true] at h
    exact .skip _ _ _ h.2 (hf 0 (by omega) h.1)
  | k + 1, hk, h => by
    simp only [Grow] at h
    by_cases hm : mn x = true
    · rw [if_pos hm] at h
      simp only [Bool.or_eq_true, Bool.and_eq_true] at h
      rcases h with h | ⟨h, ht⟩
      · exact .skip _ _ _ hm (hf _ hk h)
      · rw [take_snoc (by omega)]
        exact .eat _ _ _ _ hm ht (Grow_lg s x l f hf k (by omega) h)
    · rw [if_neg hm] at h
      simp only [Bool.and_eq_true] at h
      rw [take_snoc (by omega)]
      exact .one _ _ _ _ (by simpa using hm) h.2 (hf k (by omega) h.1)

theorem row_lg (s : List Int) (l : List S77) : ∀ k, k ≤ s.length → row s l f0 k = true → Lg l (s.take k) := by
  have key : ∀ n (l : List S77), l.length = n → ∀ k, k ≤ s.length → row s l f0 k = true → Lg l (s.take k) := by
    intro n
    induction n with
    | zero =>
      intro l hl k _ h
      obtain rfl := List.eq_nil_of_length_eq_zero hl
      simp only [row, List.foldl_nil, f0, beq_iff_eq] at h
      subst h
      exact .nil
    | succ n ih =>
      intro l hl
      obtain ⟨l', x, rfl⟩ : ∃ l' x, l = l' ++ [x] := ⟨l.dropLast, l.getLast (by intro h; simp [h] at hl), (List.dropLast_concat_getLast _).symm⟩
      rw [row_snoc]
      exact Grow_lg s x l' _ (ih l' (by simpa using hl))
  exact key _ l rfl

/-- The table's rows do not hang on what stands behind. -/
theorem Grow_ext (x : S77) (s t : List Int) (f g : Nat → Bool) (n : Nat) (hs : ∀ k, k < n → s.getD k 0 = t.getD k 0) (hf : ∀ k, k ≤ n → f k = g k) : ∀ k, k ≤ n → Grow x s f k = Grow x t g k
  | 0, _ => by simp only [Grow]; rw [hf 0 (by omega)]
  | k + 1, h => by simp only [Grow]; rw [hf _ h, hf k (by omega), hs k (by omega), Grow_ext x s t f g n hs hf k (by omega)]

theorem row_ext (s t : List Int) (n : Nat) (hs : ∀ k, k < n → s.getD k 0 = t.getD k 0) (l : List S77) : ∀ (f g : Nat → Bool), (∀ k, k ≤ n → f k = g k) → ∀ k, k ≤ n → row s l f k = row t l g k := by
  induction l with
  | nil => exact fun f g h => h
  | cons x l ih => exact fun f g h => ih _ _ (Grow_ext x s t f g n hs h)

theorem lg_row {l : List S77} {s : List Int} (h : Lg l s) : Mm l s = true := by
  have snoc : ∀ (l : List S77) (s : List Int) (c : Int) k, k ≤ s.length → row (s ++ [c]) l f0 k = row s l f0 k := by
    intro l s c
    exact row_ext (s ++ [c]) s s.length (fun k hk => by simp [List.getElem?_append_left hk]) l f0 f0 (fun _ _ => rfl)
  induction h with
  | nil => rfl
  | one l s x c hm ht _ ih =>
    unfold Mm at ih ⊢
    rw [row_snoc, List.length_append, List.length_singleton]
    simp only [Grow, hm, Bool.false_eq_true, if_false]
    rw [snoc l s c _ (Nat.le_refl _), ih]
    simpa using ht
  | skip l s x hm _ ih =>
    unfold Mm at ih ⊢
    rw [row_snoc]
    cases hk : s.length with
    | zero => rw [hk] at ih; simp only [Grow, hm, ih, Bool.and_self]
    | succ k => rw [hk] at ih; simp only [Grow, hm, if_true, ih, Bool.true_or]
  | eat l s x c hm ht _ ih =>
    unfold Mm at ih ⊢
    rw [row_snoc] at ih ⊢
    rw [List.length_append, List.length_singleton]
    simp only [Grow, hm, if_true]
    have e : Grow x (s ++ [c]) (row (s ++ [c]) l f0) s.length = Grow x s (row s l f0) s.length :=
      Grow_ext x _ _ _ _ s.length (fun k hk => by simp [List.getElem?_append_left hk]) (snoc l s c) _ (Nat.le_refl _)
    rw [e, ih]
    simp [ht]

theorem Mm_iff (l : List S77) (s : List Int) : Mm l s = true ↔ Lg l s :=
  ⟨fun h => by have := row_lg s l s.length (Nat.le_refl _) h; rwa [List.take_length] at this, lg_row⟩

/-! ### literal texts -/
def own (c : Int) : S77 := ⟨0, c⟩
theorem mn_own (c : Int) : mn (own c) = false := rfl
theorem tk_own (c d : Int) : tk (own c) d = (d == c) := rfl
theorem parse_own (c : Int) (h : ¬ (c = 42 ∨ c = 63 ∨ c = 92)) (r : List Int) : parse (c :: r) = (parse r).map (own c :: ·) := by
  have h1 : ¬ c = 42 := fun e => h (.inl e)
  have h2 : ¬ c = 63 := fun e => h (.inr (.inl e))
  have h3 : ¬ c = 92 := fun e => h (.inr (.inr e))
  cases r with
  | nil => simp [parse, h1, h2, h3, own]
  | cons d r => simp only [parse, h1, h2, h3, if_false]; rfl
theorem parse_back (c : Int) (r : List Int) : parse (92 :: c :: r) = (parse r).map (own c :: ·) := by simp [parse, own]
theorem parse_all (r : List Int) : parse (42 :: 42 :: r) = (parse r).map (⟨3, 0⟩ :: ·) := by simp [parse]
theorem Lg.own_more {l : List S77} {s : List Int} (h : Lg l s) (a : List Int) : Lg (l ++ a.map own) (s ++ a) := by
  induction a generalizing l s with
  | nil => simpa using h
  | cons c a ih =>
    have := ih (.one _ _ (own c) c rfl (by simp [tk_own]) h)
    simpa using this
theorem Lg.all_more {l : List S77} {s : List Int} (h : Lg l s) (t : List Int) : Lg (l ++ [⟨3, 0⟩]) (s ++ t) := by
  have key : ∀ n (t : List Int), t.length = n → Lg (l ++ [⟨3, 0⟩]) (s ++ t) := by
    intro n
    induction n with
    | zero => intro t ht; obtain rfl := List.eq_nil_of_length_eq_zero ht; simpa using Lg.skip l s ⟨3, 0⟩ rfl h
    | succ n ih =>
      intro t ht
      obtain ⟨t', c, rfl⟩ : ∃ t' c, t = t' ++ [c] := ⟨t.dropLast, t.getLast (by intro h; simp [h] at ht), (List.dropLast_concat_getLast _).symm⟩
      have := ih t' (by simpa using ht)
      rw [← List.append_assoc]
      exact .eat _ _ _ c rfl rfl this
  exact key _ t rfl
theorem Lg.of_own {l : List S77} {s : List Int} (h : Lg l s) : ∀ a : List Int, l = a.map own → s = a := by
  induction h with
  | nil => intro a ha; cases a with
    | nil => rfl
    | cons => simp at ha
  | one l s x c hm ht _ ih =>
    intro a ha
    obtain ⟨a', d, rfl⟩ : ∃ a' d, a = a' ++ [d] := ⟨a.dropLast, a.getLast (by rintro rfl; simp at ha), (List.dropLast_concat_getLast _).symm⟩
    rw [List.map_append, List.map_singleton] at ha
    obtain ⟨h1, h2⟩ := List.append_inj' ha rfl
    obtain rfl : x = own d := by simpa using h2
    rw [ih a' h1]
    rw [tk_own, beq_iff_eq] at ht
    rw [ht]
  | skip l s x hm _ ih =>
    intro a ha
    obtain ⟨a', d, rfl⟩ : ∃ a' d, a = a' ++ [d] := ⟨a.dropLast, a.getLast (by rintro rfl; simp at ha), (List.dropLast_concat_getLast _).symm⟩
    rw [List.map_append, List.map_singleton] at ha
    obtain ⟨h1, h2⟩ := List.append_inj' ha rfl
    obtain rfl : x = own d := by simpa using h2
    simp [mn_own] at hm
  | eat l s x c hm ht _ ih =>
    intro a ha
    obtain ⟨a', d, rfl⟩ : ∃ a' d, a = a' ++ [d] := ⟨a.dropLast, a.getLast (by rintro rfl; simp at ha), (List.dropLast_concat_getLast _).symm⟩
    rw [List.map_append, List.map_singleton] at ha
    obtain ⟨h1, h2⟩ := List.append_inj' ha rfl
    obtain rfl : x = own d := by simpa using h2
    simp [mn_own] at hm
theorem Mm_own (a b : List Int) : Mm (a.map own) b = (b == a) := by
  rw [Bool.eq_iff_iff, Mm_iff, beq_iff_eq]
  exact ⟨fun h => h.of_own a rfl, by rintro rfl; simpa using Lg.nil.own_more b⟩

/-! ### how many '/' there are; how a text begins -/
theorem Lg.count {l : List S77} {s : List Int} (h : Lg l s) (hk : ∀ x ∈ l, x.f0 = 0 ∨ x.f0 = 2) : s.count 47 = l.countP (fun x => x.f0 == 0 && x.f1 == 47) := by
  induction h with
  | nil => rfl
  | one l s x c hm ht _ ih =>
    have ih := ih (fun x hx => hk x (by simp [hx]))
    have hx := hk x (by simp)
    rw [List.count_append, List.countP_append, ih]
    congr 1
    rcases hx with hx | hx
    · simp only [tk, hx, if_true, beq_iff_eq] at ht
      subst ht
      simp [hx, List.count_singleton]
    · simp [mn, hx] at hm
  | skip l s x hm _ ih =>
    have ih := ih (fun x hx => hk x (by simp [hx]))
    have hx := hk x (by simp)
    rw [List.countP_append, ih]
    rcases hx with hx | hx
    · simp [mn, hx] at hm
    · simp [hx]
  | eat l s x c hm ht _ ih =>
    have ih := ih hk
    have hx := hk x (by simp)
    rw [List.count_append, ih]
    rcases hx with hx | hx
    · simp [mn, hx] at hm
    · have hc : c ≠ 47 := by simpa [tk, hx] using ht
      simp [List.count_singleton, hc]
end Go.Proofs.Ytjliebggdphmpaa.Plain
