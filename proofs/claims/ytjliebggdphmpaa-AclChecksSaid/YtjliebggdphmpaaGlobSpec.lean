/- Patterns: their parts, what the parts say of a text (a table, row by row; and as a relation), and that both are the same. -/
import Derived.Test.YtjliebggdphmpaaGx0
import Derived.Test.YtjliebggdphmpaaPlainA
set_option linter.unusedVariables false
set_option linter.unusedSimpArgs false
namespace Go.Proofs.Ytjliebggdphmpaa.Plain
open Go.RowKit Go.Proofs.Ytjliebggdphmpaa.G Go.Proofs.YtjliebggdphmpaaW.PrintWords

def mn (x : S77) : Bool := decide (x.f0 ≥ 2)
def tk (x : S77) (c : Int) : Bool := if x.f0 = 0 then c == x.f1 else if x.f0 = 3 then true else c != 47

/-- A pattern's parts. -/
def parse : List Int → Option (List S77)
 | [] => some []
 | [c] => if c = 42 then some [⟨2, 0⟩] else if c = 63 then some [⟨1, 0⟩] else if c = 92 then none else some [⟨0, c⟩]
 | c :: d :: r =>
  if c = 42 then (if d = 42 then (parse r).map (⟨3, 0⟩ :: ·) else (parse (d :: r)).map (⟨2, 0⟩ :: ·))
  else if c = 63 then (parse (d :: r)).map (⟨1, 0⟩ :: ·)
  else if c = 92 then (parse r).map (⟨0, d⟩ :: ·)
  else (parse (d :: r)).map (⟨0, c⟩ :: ·)

/-- Behind one part more: which beginnings of the text are said. -/
def Grow (x : S77) (s : List Int) (f : Nat → Bool) : Nat → Bool
 | 0 => f 0 && mn x
 | k + 1 => if mn x then f (k + 1) || (Grow x s f k && tk x (s.getD k 0)) else f k && tk x (s.getD k 0)
def row (s : List Int) (l : List S77) (f : Nat → Bool) : Nat → Bool := l.foldl (fun f x => Grow x s f) f
def f0 : Nat → Bool := fun k => k == 0
def Mm (l : List S77) (s : List Int) : Bool := row s l f0 s.length

theorem row_snoc (s : List Int) (l : List S77) (x : S77) (f : Nat → Bool) : row s (l ++ [x]) f = Grow x s (row s l f) := by simp [row]
/-- What the parts say, as a relation. -/
inductive Lg : List S77 → List Int → Prop
 | nil : Lg [] []
 | one (l : List S77) (s : List Int) (x : S77) (c : Int) : mn x = false → tk x c = true → Lg l s → Lg (l ++ [x]) (s ++ [c])
 | skip (l : List S77) (s : List Int) (x : S77) : mn x = true → Lg l s → Lg (l ++ [x]) s
 | eat (l : List S77) (s : List Int) (x : S77) (c : Int) : mn x = true → tk x c = true → Lg (l ++ [x]) s → Lg (l ++ [x]) (s ++ [c])

/-! ### literal texts -/
def own (c : Int) : S77 := ⟨0, c⟩
theorem tk_own (c d : Int) : tk (own c) d = (d == c) := rfl
theorem parse_own (c : Int) (h : ¬ (c = 42 ∨ c = 63 ∨ c = 92)) (r : List Int) : parse (c :: r) = (parse r).map (own c :: ·) := by
 have h1 : ¬ c = 42 := fun e => h (.inl e)
 have h2 : ¬ c = 63 := fun e => h (.inr (.inl e))
 have h3 : ¬ c = 92 := fun e => h (.inr (.inr e))
 cases r with
 | nil => simp [parse, h1, h2, h3, own]
 | cons d r => simp only [parse, h1, h2, h3, if_false]; rfl
theorem parse_back (c : Int) (r : List Int) : parse (92 :: c :: r) = (parse r).map (own c :: ·) := by simp [parse, own]
theorem parse_all (r : List Int) : parse (42 :: 42 :: r) = (parse r).map (⟨3, 0⟩ :: ·) := by simp [parse]
/-! ### how many '/' there are; how a text begins -/
theorem Lg.count {l : List S77} {s : List Int} (h : Lg l s) (hk : ∀ x ∈ l, x.f0 = 0 ∨ x.f0 = 2) : s.count 47 = l.countP (fun x => x.f0 == 0 && x.f1 == 47) := by
 induction h with
 | nil => rfl
 | one l s x c hm ht _ ih =>
  have ih := ih (fun x hx => hk x (by simp [hx]))
  have hx := hk x (by simp)
  rw [List.count_append, List.countP_append, ih]
  congr 1
  rcases hx with hx | hx
  ·simp only [tk, hx, if_true, beq_iff_eq] at ht
   subst ht
   simp [hx, List.count_singleton]
  ·simp [mn, hx] at hm
 | skip l s x hm _ ih =>
  have ih := ih (fun x hx => hk x (by simp [hx]))
  have hx := hk x (by simp)
  rw [List.countP_append, ih]
  rcases hx with hx | hx
  ·simp [mn, hx] at hm
  ·simp [hx]
 | eat l s x c hm ht _ ih =>
  have ih := ih hk
  have hx := hk x (by simp)
  rw [List.count_append, ih]
  rcases hx with hx | hx
  ·simp [mn, hx] at hm
  ·have hc : c ≠ 47 := by simpa [tk, hx] using ht
   simp [List.count_singleton, hc]
end Go.Proofs.Ytjliebggdphmpaa.Plain
