/- What a sweep takes, in plain Lean. -/
import Derived.Test.YtafpaomcmjccaaaDirQ
set_option linter.unusedVariables false
set_option linter.unusedSimpArgs false
namespace Go.Proofs.Ytafpaomcmjccaaa.Dir
open Go.RowKit Go.Proofs.Ytafpaomcmjccaaa.G Go.Proofs.YtafpaomcmjccaaaW.PrintWords Go.Proofs.YtafpaomcmjccaaaW.PrintMore Go.Proofs.Ytafpaomcmjccaaa.Foot

def odd (x : S55) : Bool := !(decide (0 ≤ x.f1) && decide (x.f1 < 30) && decide (x.f2 = 2))
def young (u : Int) (x : S55) : Bool := decide (x.f3 < u)
/-- After the entries of the first i turns. -/
structure SwD (ts : List Int) (i : Nat) (D : Di) : Prop where
  ok : D.Ok
  s : D.s = 16
  len : D.L.length = 64
  le : ∀ j : Nat, (D.of (Dir.keyOf j)).length ≤ (i + 6 - j % 7) / 7
  all : D.all.length = i
  rng : D.all.countP odd = 0
  cnt : ∀ u : Int, D.all.countP (young u) = (ts.take i).countP (fun t => decide (t < u))
theorem at_key {D : Di} (h : D.L.length = 64) (j : Nat) : D.at_ (Dir.keyOf j) = j % 7 := by
  unfold Di.at_
  rw [keyOf_num, h]
  omega
theorem sw_new (ts : List Int) : SwD ts 0 (newD 64 16) where
  ok := newD_ok _ _
  s := by show clamp 16 16 = 16; decide
  len := by
    show (List.replicate (clamp 64 4096) ([] : List S55)).length = 64
    rw [List.length_replicate]; decide
  le := fun j => by rw [newD_of]; exact Nat.zero_le _
  all := by rw [newD_all]; rfl
  rng := by rw [newD_all]; rfl
  cnt := fun u => by rw [newD_all, List.take_zero]; rfl
section
variable {ts : List Int} {i : Nat} {D : Di}
theorem SwD.step (h : SwD ts i D) (t : Int) (hi : ts[i]? = some t) (h30 : i < 30) (ht : 0 ≤ t ∧ t ≤ 255) (hok : (D.ins (Dir.keyOf i) ⟨(Dir.keyOf i).tag, (i : Int), 2, t⟩).2.Ok) :
    (D.ins (Dir.keyOf i) ⟨(Dir.keyOf i).tag, (i : Int), 2, t⟩).1 = 0 ∧ SwD ts (i + 1) (D.ins (Dir.keyOf i) ⟨(Dir.keyOf i).tag, (i : Int), 2, t⟩).2 := by
  have hl := h.le i
  have e := ins_ok (D := D) (k := Dir.keyOf i) (x := ⟨(Dir.keyOf i).tag, (i : Int), 2, t⟩) (show (2 : Int) ≠ 0 by decide) (show t < 9223372036854775808 by omega) (by rw [h.s]; omega)
  rw [e] at hok ⊢
  have hi2 := at_key h.len i
  have hp := fun p => all_lay h.ok (Dir.keyOf i) (D.of (Dir.keyOf i) ++ [⟨(Dir.keyOf i).tag, (i : Int), 2, t⟩]) p
  refine ⟨rfl, hok, h.s, ?_, ?_, ?_, ?_, ?_⟩
  · show (D.L.set _ _).length = 64
    rw [List.length_set, h.len]
  · intro j
    have hj := h.le j
    by_cases hq : j % 7 = i % 7
    · have hs := of_lay_same (h.ok.at_lt (Dir.keyOf i)) (D.of (Dir.keyOf i) ++ [⟨(Dir.keyOf i).tag, (i : Int), 2, t⟩]) (Dir.keyOf j) (by rw [at_key h.len, hi2, hq])
      show ((layD D (D.at_ (Dir.keyOf i)) (D.of (Dir.keyOf i) ++ [⟨(Dir.keyOf i).tag, (i : Int), 2, t⟩])).of _).length ≤ _
      rw [hs, List.length_append]
      show _ + 1 ≤ _
      omega
    · have hs := of_lay_ne (D := D) (i := D.at_ (Dir.keyOf i)) (D.of (Dir.keyOf i) ++ [⟨(Dir.keyOf i).tag, (i : Int), 2, t⟩]) (Dir.keyOf j) (by rw [at_key h.len, hi2]; exact hq)
      show ((layD D (D.at_ (Dir.keyOf i)) (D.of (Dir.keyOf i) ++ [⟨(Dir.keyOf i).tag, (i : Int), 2, t⟩])).of _).length ≤ _
      rw [hs]
      omega
  · have := len_lay h.ok (Dir.keyOf i) (D.of (Dir.keyOf i) ++ [⟨(Dir.keyOf i).tag, (i : Int), 2, t⟩])
    rw [List.length_append, List.length_singleton] at this
    have h2 := h.all
    show (layD D (D.at_ (Dir.keyOf i)) (D.of (Dir.keyOf i) ++ [⟨(Dir.keyOf i).tag, (i : Int), 2, t⟩])).all.length = _
    omega
  · have := hp odd
    rw [List.countP_append] at this
    have h1 : List.countP odd [(⟨(Dir.keyOf i).tag, (i : Int), 2, t⟩ : S55)] = 0 := by
      rw [List.countP_eq_zero]
      intro x hx
      rw [List.mem_singleton] at hx
      subst hx
      unfold odd
      simp
      omega
    have h2 := h.rng
    show (layD D (D.at_ (Dir.keyOf i)) (D.of (Dir.keyOf i) ++ [⟨(Dir.keyOf i).tag, (i : Int), 2, t⟩])).all.countP odd = _
    omega
  · intro u
    have := hp (young u)
    rw [List.countP_append] at this
    have h1 : List.countP (young u) [(⟨(Dir.keyOf i).tag, (i : Int), 2, t⟩ : S55)] = [t].countP (fun t => decide (t < u)) := by
      rw [List.countP_singleton, List.countP_singleton]
      rfl
    have h2 := h.cnt u
    have h3 : ts.take (i + 1) = ts.take i ++ [t] := by rw [List.take_add_one, hi]; rfl
    rw [h3, List.countP_append]
    show (layD D (D.at_ (Dir.keyOf i)) (D.of (Dir.keyOf i) ++ [⟨(Dir.keyOf i).tag, (i : Int), 2, t⟩])).all.countP (young u) = _
    omega
end
theorem elder_no (f t u : Int) (h : t ≤ f) : elder f t u = fun _ => false := by
  funext x
  unfold elder
  rw [decide_eq_false (by omega)]
  rfl
theorem purge_no (D : Di) : D.purge (fun _ => false) = D := by
  unfold Di.purge
  rw [show keepB (fun _ : S55 => false) = id from by funext b; unfold keepB; simp]
  simp
theorem gone_no (L : List (List S55)) : goneN (fun _ => false) L = 0 := by
  unfold goneN
  rw [List.filter_eq_nil_iff.2 (by simp)]
  rfl
theorem goneN_eq (p : S55 → Bool) (D : Di) : goneN p D.L = D.all.countP p := by
  unfold goneN Di.all
  rw [List.countP_eq_length_filter]
theorem purge_all (p : S55 → Bool) (D : Di) : (D.purge p).all = D.all.filter (fun x => !p x) := by
  unfold Di.purge Di.all
  show (D.L.map (keepB p)).flatten = _
  induction D.L with
  | nil => rfl
  | cons b L ih => rw [List.map_cons, List.flatten_cons, List.flatten_cons, List.filter_append, ih]; rfl
/-- A sweep of all places. -/
theorem SwD.sweep {ts : List Int} {D : Di} (h : SwD ts ts.length D) (u : Int) :
    goneN (elder 0 1000 u) D.L = ts.countP (fun t => decide (t < u)) ∧ (D.purge (elder 0 1000 u)).all.length = ts.length - ts.countP (fun t => decide (t < u)) ∧ goneN (elder 0 1000 u) (D.purge (elder 0 1000 u)).L = 0 := by
  have hc := h.cnt u
  rw [List.take_length] at hc
  have hcc : D.all.countP (elder 0 1000 u) = D.all.countP (young u) := by
    have hr := h.rng
    rw [List.countP_eq_zero] at hr
    apply List.countP_congr
    intro x hx
    have := hr x hx
    unfold odd at this
    simp at this
    unfold elder young
    simp
    omega
  refine ⟨by rw [goneN_eq, hcc, hc], ?_, ?_⟩
  · rw [purge_all, ← List.countP_eq_length_filter]
    have := List.length_eq_countP_add_countP (elder 0 1000 u) (l := D.all)
    have h2 : D.all.countP (fun x => !elder 0 1000 u x) = D.all.countP (fun x => decide ¬(elder 0 1000 u x = true)) := by
      apply List.countP_congr
      intro x _
      simp
    have h3 := h.all
    omega
  · rw [goneN_eq, purge_all, List.countP_eq_zero]
    intro x hx
    rw [List.mem_filter] at hx
    intro e
    rw [e] at hx
    exact absurd hx.2 (by decide)
end Go.Proofs.Ytafpaomcmjccaaa.Dir
