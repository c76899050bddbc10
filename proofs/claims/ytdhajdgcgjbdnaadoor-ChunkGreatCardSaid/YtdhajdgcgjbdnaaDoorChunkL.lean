/- Bodies in chunks, in plain lists: lines, lengths, ends, trailers, bodies. -/
import Derived.Test.YtdhajdgcgjbdnaaDoorHeadPlain
set_option linter.unusedVariables false
set_option linter.unusedSimpArgs false
namespace Go.Proofs.YtdhajdgcgjbdnaaDoor.Chunk
open Go.RowKit Go.Proofs.YtdhajdgcgjbdnaaDoor.G Go.Proofs.YtdhajdgcgjbdnaaDoorW.PrintWords

/-- What reading comes to: something, or an error's number. -/
inductive Got (α : Type) : Type
  | ok (a : α) : Got α
  | bad (e : Int) : Got α
/-- Behind a CR. -/
def crG : List Int → Got (List Int)
  | [] => .bad 92
  | d :: u => if d = 10 then .ok u else .bad 94
def none1 : Got (List Int) → Got (List Int × List Int)
  | .ok u => .ok ([], u)
  | .bad e => .bad e
def cons1 (c : Int) : Got (List Int × List Int) → Got (List Int × List Int)
  | .ok (s, r) => .ok (c :: s, r)
  | .bad e => .bad e
/-- A line: its bytes, and what stands behind it; k bytes went. -/
def lineG : List Int → Nat → Got (List Int × List Int)
  | [], _ => .bad 92
  | c :: t, k => if c = 13 then none1 (crG t) else if c = 10 ∨ 1024 ≤ k then .bad 94 else cons1 c (lineG t (k + 1))
def front (p : List Int) : Got (List Int × List Int) → Got (List Int × List Int)
  | .ok (s, r) => .ok (p ++ s, r)
  | .bad e => .bad e
theorem front_nil (g : Got (List Int × List Int)) : front [] g = g := by cases g <;> rfl
theorem front_step (p : List Int) (c : Int) (t : List Int) (k : Nat) (h13 : c ≠ 13) (h10 : c ≠ 10) (hk : k < 1024) : front p (lineG (c :: t) k) = front (p ++ [c]) (lineG t (k + 1)) := by
  rw [lineG, if_neg h13, if_neg (by omega)]
  cases lineG t (k + 1) with
  | ok a => obtain ⟨s, r⟩ := a; simp [front, cons1]
  | bad e => rfl
/-- A digit's value, or -1. -/
def hexV (c : Int) : Int := if 48 ≤ c ∧ c ≤ 57 then c - 48 else if 97 ≤ c ∧ c ≤ 102 then c - 87 else if 65 ≤ c ∧ c ≤ 70 then c - 55 else -1
theorem hexV_le {c : Int} : hexV c ≤ 15 := by unfold hexV; split <;> (try split) <;> (try split) <;> omega
/-- A length's number, behind i digits that come to n. -/
def lenG (T : List Int → Bool) : List Int → Nat → Nat → Option Nat
  | [], i, n => if 0 < i then some n else none
  | c :: t, i, n => if hexV c < 0 then (if 0 < i ∧ c = 59 ∧ T t = true then some n else none)
    else if 8 ≤ i then none else lenG T t (i + 1) (n * 16 + (hexV c).toNat)
/-- A line's end. -/
def endG : List Int → Got (List Int)
  | [] => .bad 92
  | c :: t => if c = 13 then crG t else .bad 94
theorem crG_length {l r : List Int} (h : crG l = .ok r) : r.length + 1 = l.length ∧ r = l.drop 1 := by
  cases l with
  | nil => cases h
  | cons d u =>
    rw [crG] at h
    split at h
    · cases h; simp
    · cases h
theorem none1_ok {g : Got (List Int)} {s r : List Int} (h : none1 g = .ok (s, r)) : s = [] ∧ g = .ok r := by
  cases g with
  | ok u => cases h; exact ⟨rfl, rfl⟩
  | bad e => cases h
theorem cons1_ok {c : Int} {g : Got (List Int × List Int)} {s r : List Int} (h : cons1 c g = .ok (s, r)) : ∃ s2, s = c :: s2 ∧ g = .ok (s2, r) := by
  cases g with
  | ok a =>
    obtain ⟨s2, r2⟩ := a
    cases h
    exact ⟨_, rfl, rfl⟩
  | bad e => cases h
/-- Lines up to an empty one. -/
def trailG (P : List Int → Bool) : Nat → List Int → Nat → Got (List Int)
  | 0, _, _ => .bad 92
  | f + 1, l, k => match lineG l 0 with
    | .bad e => .bad e
    | .ok (s, r) => if s = [] then .ok r else if P s = true ∧ k < 100 then trailG P f r (k + 1) else .bad 94
/-- A body, behind what went of it. -/
def bodyG (T P : List Int → Bool) : Nat → List Int → List Int → Got (List Int × List Int)
  | 0, _, _ => .bad 92
  | f + 1, l, out => match lineG l 0 with
    | .bad e => .bad e
    | .ok (s, r) => match lenG T s 0 0 with
      | none => .bad 94
      | some n => if n = 0 then (match trailG P (r.length + 1) r 0 with
          | .bad e => .bad e
          | .ok r' => .ok (out, r'))
        else if 65536 < n + out.length then .bad 93 else if r.length < n then .bad 92 else match endG (r.drop n) with
          | .bad e => .bad e
          | .ok r' => bodyG T P f r' (out ++ r.take n)
theorem lineG_length : ∀ (l : List Int) (k : Nat) (s r : List Int), lineG l k = .ok (s, r) → s.length + r.length + 2 = l.length ∧ r = l.drop (s.length + 2) ∧ s = l.take s.length := by
  intro l
  induction l with
  | nil => intro k s r h; rw [lineG] at h; cases h
  | cons c t ih =>
    intro k s r h
    rw [lineG] at h
    split at h
    · obtain ⟨rfl, h9⟩ := none1_ok h
      obtain ⟨h1, h2⟩ := crG_length h9
      refine ⟨by simp only [List.length_cons, List.length_nil]; omega, ?_, by simp⟩
      rw [h2]; simp
    · split at h
      · cases h
      · obtain ⟨s2, rfl, h9⟩ := cons1_ok h
        obtain ⟨h1, h2, h3⟩ := ih _ _ _ h9
        refine ⟨by simp only [List.length_cons]; omega, ?_, ?_⟩
        · rw [List.length_cons, show s2.length + 1 + 2 = (s2.length + 2) + 1 by omega, List.drop_succ_cons]; exact h2
        · rw [List.length_cons, List.take_succ_cons, ← h3]
theorem lineG_le : ∀ (l : List Int) (k : Nat) (s r : List Int), k ≤ 1024 → lineG l k = .ok (s, r) → k + s.length ≤ 1024 := by
  intro l
  induction l with
  | nil => intro k s r hk h; rw [lineG] at h; cases h
  | cons c t ih =>
    intro k s r hk h
    rw [lineG] at h
    split at h
    · obtain ⟨rfl, h9⟩ := none1_ok h
      simpa using hk
    · split at h
      · cases h
      · obtain ⟨s2, rfl, h9⟩ := cons1_ok h
        have := ih _ _ _ (by omega) h9
        simp only [List.length_cons]
        omega
theorem endG_length (l r : List Int) (h : endG l = .ok r) : r.length + 2 = l.length ∧ r = l.drop 2 := by
  cases l with
  | nil => cases h
  | cons c t =>
    rw [endG] at h
    split at h
    · obtain ⟨h1, h2⟩ := crG_length h
      exact ⟨by simp only [List.length_cons]; omega, by rw [h2]; simp⟩
    · cases h
theorem trailG_length (P : List Int → Bool) : ∀ (f : Nat) (l : List Int) (k : Nat) (r : List Int), trailG P f l k = .ok r → ∃ m, 2 ≤ m ∧ m ≤ l.length ∧ r = l.drop m := by
  intro f
  induction f with
  | zero => intro l k r h; cases h
  | succ f ih =>
    intro l k r h
    rw [trailG] at h
    cases e : lineG l 0 with
    | bad e2 => rw [e] at h; cases h
    | ok a =>
      obtain ⟨s, r2⟩ := a
      rw [e] at h
      dsimp only at h
      obtain ⟨h1, h2, h3⟩ := lineG_length _ _ _ _ e
      split at h
      · cases h
        exact ⟨s.length + 2, by omega, by omega, h2⟩
      · split at h
        · obtain ⟨m, hm1, hm2, hm3⟩ := ih _ _ _ h
          refine ⟨s.length + 2 + m, by omega, by omega, ?_⟩
          rw [hm3, h2, List.drop_drop]
        · cases h
end Go.Proofs.YtdhajdgcgjbdnaaDoor.Chunk
