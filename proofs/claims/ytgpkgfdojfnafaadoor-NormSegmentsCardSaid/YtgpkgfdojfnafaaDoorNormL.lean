/- Addresses in lists of bytes: escapes in one form, segments without dots, what is in its form stays. -/
import Derived.Test.YtgpkgfdojfnafaaDoorPlainA
set_option linter.unusedVariables false
set_option linter.unusedSimpArgs false
namespace Go.Proofs.YtgpkgfdojfnafaaDoor.Norm

/-! Escapes -/
def hexC (c : Int) : Int := if 48 ≤ c ∧ c ≤ 57 then c - 48 else if 97 ≤ c ∧ c ≤ 102 then c - 97 + 10 else if 65 ≤ c ∧ c ≤ 70 then c - 65 + 10 else -1
def plainC (c : Int) : Bool := decide (97 ≤ c ∧ c ≤ 122) || decide (65 ≤ c ∧ c ≤ 90) || decide (48 ≤ c ∧ c ≤ 57) || decide (c = 45 ∨ c = 46 ∨ c = 95 ∨ c = 126)
def digU (n : Int) : Int := if n < 10 then 48 + n else 55 + n
def encC (v : Int) : List Int := if plainC v = true then [v] else [37, digU (v / 16), digU (v % 16)]
def escL : List Int → Option (List Int)
  | [] => some []
  | [c] => if c ≠ 37 then some [c] else none
  | [c, a] => if c ≠ 37 then (escL [a]).map (c :: ·) else none
  | c :: a :: b :: t => if c ≠ 37 then (escL (a :: b :: t)).map (c :: ·) else if 0 ≤ hexC a ∧ 0 ≤ hexC b then (escL t).map (encC (16 * hexC a + hexC b) ++ ·) else none
theorem escL_nil : escL [] = some [] := by rw [escL]
theorem escL_plain {c : Int} (h : c ≠ 37) (r : List Int) : escL (c :: r) = (escL r).map (c :: ·) := by
  match r with
  | [] => exact (escL.eq_2 c).trans (by rw [if_pos h, escL_nil]; rfl)
  | [a] => exact (escL.eq_3 c a).trans (if_pos h)
  | a :: b :: t => exact (escL.eq_4 c a b t).trans (if_pos h)
theorem escL_hex (a b : Int) (t : List Int) : escL (37 :: a :: b :: t) = if 0 ≤ hexC a ∧ 0 ≤ hexC b then (escL t).map (encC (16 * hexC a + hexC b) ++ ·) else none := by rw [escL, if_neg (by decide)]
theorem escL_short0 : escL [37] = none := by rw [escL, if_neg (by decide)]
theorem escL_short1 (a : Int) : escL [37, a] = none := by rw [escL, if_neg (by decide)]
theorem hex_top (c : Int) : hexC c ≤ 15 := by unfold hexC; split <;> (try split) <;> (try split) <;> omega
theorem hex_dig {n : Int} (h0 : 0 ≤ n) (h1 : n ≤ 15) : hexC (digU n) = n := by
  unfold hexC digU
  by_cases h : n < 10
  · rw [if_pos h, if_pos (by omega)]; omega
  · rw [if_neg h, if_neg (by omega), if_neg (by omega), if_pos (by omega)]; omega
/-- By lengths: what is left to do. -/
theorem esc_ind {P : List Int → Prop} (h0 : P []) (h1 : ∀ c r, c ≠ 37 → P r → P (c :: r)) (h2 : P [37]) (h3 : ∀ a, P [37, a]) (h4 : ∀ a b t, P t → P (37 :: a :: b :: t)) : ∀ l, P l := by
  have key : ∀ (n : Nat) (l : List Int), l.length ≤ n → P l := by
    intro n
    induction n with
    | zero => intro l h; cases l with
      | nil => exact h0
      | cons => simp at h
    | succ n ih =>
      intro l h
      match l with
      | [] => exact h0
      | c :: r =>
        by_cases hc : c = 37
        · subst hc
          match r with
          | [] => exact h2
          | [a] => exact h3 a
          | a :: b :: t => exact h4 a b t (ih t (by simp only [List.length_cons] at h; omega))
        · exact h1 c r hc (ih r (by simp only [List.length_cons] at h; omega))
  exact fun l => key l.length l (Nat.le_refl _)
theorem esc_enc {v : Int} (h0 : 0 ≤ v) (h1 : v ≤ 255) (r : List Int) : escL (encC v ++ r) = (escL r).map (encC v ++ ·) := by
  unfold encC
  by_cases h : plainC v = true
  · rw [if_pos h]
    have : v ≠ 37 := fun e => by rw [e] at h; exact absurd h (by decide)
    exact escL_plain this r
  · rw [if_neg h]
    show escL (37 :: digU (v / 16) :: digU (v % 16) :: r) = _
    rw [escL_hex, hex_dig (by omega) (by omega), hex_dig (by omega) (by omega), if_pos (by omega)]
    have : 16 * (v / 16) + v % 16 = v := by omega
    rw [this]
    unfold encC
    rw [if_neg h]
theorem enc_length (v : Int) : 1 ≤ (encC v).length ∧ (encC v).length ≤ 3 := by unfold encC; split <;> simp
theorem esc_length : ∀ l y, escL l = some y → y.length ≤ l.length := by
  refine esc_ind (P := fun l => ∀ y, escL l = some y → y.length ≤ l.length) ?_ ?_ ?_ ?_ ?_
  · intro y h; rw [escL] at h; injection h with h; rw [← h]; exact Nat.le_refl _
  · intro c r hc ih y h
    rw [escL_plain hc] at h
    obtain ⟨z, hz, rfl⟩ := Option.map_eq_some_iff.1 h
    have := ih z hz
    simp only [List.length_cons]; omega
  · intro y h; rw [escL_short0] at h; cases h
  · intro a y h; rw [escL_short1] at h; cases h
  · intro a b t ih y h
    rw [escL_hex] at h
    split at h
    · obtain ⟨z, hz, rfl⟩ := Option.map_eq_some_iff.1 h
      have := ih z hz
      have := enc_length (16 * hexC a + hexC b)
      simp only [List.length_cons, List.length_append]; omega
    · cases h
/-- What is told is in its form. -/
theorem esc_again : ∀ l y, escL l = some y → escL y = some y := by
  refine esc_ind (P := fun l => ∀ y, escL l = some y → escL y = some y) ?_ ?_ ?_ ?_ ?_
  · intro y h; rw [escL] at h; injection h with h; rw [← h, escL]
  · intro c r hc ih y h
    rw [escL_plain hc] at h
    obtain ⟨z, hz, rfl⟩ := Option.map_eq_some_iff.1 h
    rw [escL_plain hc, ih z hz]; rfl
  · intro y h; rw [escL_short0] at h; cases h
  · intro a y h; rw [escL_short1] at h; cases h
  · intro a b t ih y h
    rw [escL_hex] at h
    split at h
    · rename_i hh
      obtain ⟨z, hz, rfl⟩ := Option.map_eq_some_iff.1 h
      have ta := hex_top a
      have tb := hex_top b
      rw [esc_enc (by omega) (by omega), ih z hz]; rfl
    · cases h
theorem esc_append : ∀ a a', escL a = some a' → ∀ b, escL (a ++ b) = (escL b).map (a' ++ ·) := by
  refine esc_ind (P := fun a => ∀ a', escL a = some a' → ∀ b, escL (a ++ b) = (escL b).map (a' ++ ·)) ?_ ?_ ?_ ?_ ?_
  · intro a' h b
    rw [escL] at h; injection h with h; subst h
    rw [List.nil_append]
    cases escL b <;> rfl
  · intro c r hc ih a' h b
    rw [escL_plain hc] at h
    obtain ⟨z, hz, rfl⟩ := Option.map_eq_some_iff.1 h
    rw [List.cons_append, escL_plain hc, ih z hz b, Option.map_map]; rfl
  · intro y h; rw [escL_short0] at h; cases h
  · intro a y h; rw [escL_short1] at h; cases h
  · intro p q t ih a' h b
    rw [escL_hex] at h
    split at h
    · rename_i hh
      obtain ⟨z, hz, rfl⟩ := Option.map_eq_some_iff.1 h
      rw [List.cons_append, List.cons_append, List.cons_append, escL_hex, if_pos hh, ih z hz b, Option.map_map]
      cases escL b with
      | none => rfl
      | some x => simp
    · cases h
def Fixed (l : List Int) : Prop := escL l = some l
theorem Fixed.append {a b : List Int} (ha : Fixed a) (hb : Fixed b) : Fixed (a ++ b) := by unfold Fixed at *; rw [esc_append a a ha, hb]; rfl
theorem Fixed.nil : Fixed [] := by unfold Fixed; rw [escL]
theorem Fixed.cons {c : Int} (h : c ≠ 37) {r : List Int} (hr : Fixed r) : Fixed (c :: r) := by unfold Fixed at *; rw [escL_plain h, hr]; rfl
/-- Cut at a byte that is no escape's. -/
theorem esc_cut {c : Int} (hc : c ≠ 37) (hx : hexC c < 0) (b : List Int) : ∀ a z, escL (a ++ c :: b) = some z → ∃ a' b', escL a = some a' ∧ escL b = some b' ∧ z = a' ++ c :: b' := by
  refine esc_ind (P := fun a => ∀ z, escL (a ++ c :: b) = some z → ∃ a' b', escL a = some a' ∧ escL b = some b' ∧ z = a' ++ c :: b') ?_ ?_ ?_ ?_ ?_
  · intro z h
    rw [List.nil_append, escL_plain hc] at h
    obtain ⟨y, hy, rfl⟩ := Option.map_eq_some_iff.1 h
    exact ⟨[], y, by rw [escL], hy, rfl⟩
  · intro d r hd ih z h
    rw [List.cons_append, escL_plain hd] at h
    obtain ⟨y, hy, rfl⟩ := Option.map_eq_some_iff.1 h
    obtain ⟨a', b', h1, h2, rfl⟩ := ih y hy
    exact ⟨d :: a', b', by rw [escL_plain hd, h1]; rfl, h2, rfl⟩
  · intro z h
    cases b with
    | nil => rw [show ([37] ++ [c] : List Int) = [37, c] from rfl, escL_short1] at h; cases h
    | cons x b =>
      rw [show ([37] ++ c :: x :: b : List Int) = 37 :: c :: x :: b from rfl, escL_hex, if_neg (by omega)] at h; cases h
  · intro p z h
    rw [show ([37, p] ++ c :: b : List Int) = 37 :: p :: c :: b from rfl, escL_hex, if_neg (by omega)] at h; cases h
  · intro p q t ih z h
    rw [List.cons_append, List.cons_append, List.cons_append, escL_hex] at h
    split at h
    · rename_i hh
      obtain ⟨y, hy, rfl⟩ := Option.map_eq_some_iff.1 h
      obtain ⟨a', b', h1, h2, rfl⟩ := ih y hy
      exact ⟨_, b', by rw [escL_hex, if_pos hh, h1]; rfl, h2, by simp⟩
    · cases h
theorem Fixed.cut {c : Int} (hc : c ≠ 37) (hx : hexC c < 0) {a b : List Int} (h : Fixed (a ++ c :: b)) : Fixed a ∧ Fixed b := by
  obtain ⟨a', b', h1, h2, h3⟩ := esc_cut hc hx b a _ h
  have l1 := esc_length _ _ h1
  have l2 := esc_length _ _ h2
  have l3 := congrArg List.length h3
  simp only [List.length_append, List.length_cons] at l3
  obtain ⟨e1, e2⟩ := List.append_inj h3 (by omega)
  injection e2 with _ e2
  exact ⟨by unfold Fixed; rw [h1, ← e1], by unfold Fixed; rw [h2, ← e2]⟩
/-! Segments -/
/-- Cut at each slash. -/
def splitL (cur : List Int) : List Int → List (List Int)
  | [] => [cur]
  | c :: r => if c = 47 then cur :: splitL [] r else splitL (cur ++ [c]) r
theorem splitL_ne (l : List Int) : ∀ cur, splitL cur l ≠ [] := by
  induction l with
  | nil => intro cur h; cases h
  | cons c r ih => intro cur; rw [splitL]; split; · (intro h; cases h)
                   · exact ih _
theorem splitL_on : ∀ (l cur r : List Int), (∀ c ∈ l, c ≠ 47) → splitL cur (l ++ r) = splitL (cur ++ l) r := by
  intro l
  induction l with
  | nil => intro cur r _; rw [List.nil_append, List.append_nil]
  | cons c l ih =>
    intro cur r h
    rw [List.cons_append, splitL, if_neg (h c List.mem_cons_self), ih _ _ fun x hx => h x (List.mem_cons_of_mem _ hx), List.append_assoc]; rfl
theorem splitL_pure {P : Int → Prop} : ∀ (l cur : List Int), (∀ c ∈ cur, P c) → (∀ c ∈ l, P c) → ∀ s ∈ splitL cur l, ∀ c ∈ s, P c := by
  intro l
  induction l with
  | nil => intro cur hc _ s hs; rw [splitL, List.mem_singleton] at hs; rw [hs]; exact hc
  | cons c l ih =>
    intro cur hc hl s hs
    rw [splitL] at hs
    split at hs
    · rcases List.mem_cons.1 hs with rfl | hs
      · exact hc
      · exact ih [] (fun _ h => by cases h) (fun x hx => hl x (List.mem_cons_of_mem _ hx)) s hs
    · exact ih _ (fun x hx => by
        rcases List.mem_append.1 hx with hx | hx
        · exact hc x hx
        · rw [List.mem_singleton.1 hx]; exact hl c List.mem_cons_self) (fun x hx => hl x (List.mem_cons_of_mem _ hx)) s hs
theorem splitL_slash : ∀ (l cur : List Int), (∀ c ∈ cur, c ≠ 47) → ∀ s ∈ splitL cur l, ∀ c ∈ s, c ≠ 47 := by
  intro l
  induction l with
  | nil => intro cur hc s hs; rw [splitL, List.mem_singleton] at hs; rw [hs]; exact hc
  | cons c l ih =>
    intro cur hc s hs
    rw [splitL] at hs
    split at hs
    · rcases List.mem_cons.1 hs with rfl | hs
      · exact hc
      · exact ih [] (fun _ h => by cases h) s hs
    · rename_i h47
      exact ih _ (fun x hx => by
        rcases List.mem_append.1 hx with hx | hx
        · exact hc x hx
        · rw [List.mem_singleton.1 hx]; exact h47) s hs
theorem splitL_fixed : ∀ (l cur : List Int), Fixed (cur ++ l) → ∀ s ∈ splitL cur l, Fixed s := by
  intro l
  induction l with
  | nil => intro cur h s hs; rw [splitL, List.mem_singleton] at hs; rw [hs]; rwa [List.append_nil] at h
  | cons c l ih =>
    intro cur h s hs
    rw [splitL] at hs
    split at hs
    · rename_i h47
      subst h47
      obtain ⟨h1, h2⟩ := Fixed.cut (by decide) (by decide) h
      rcases List.mem_cons.1 hs with rfl | hs
      · exact h1
      · exact ih [] h2 s hs
    · exact ih _ (by rwa [List.append_assoc]) s hs
/-- Put together, each behind a slash. -/
def joinL : List (List Int) → List Int
  | [] => []
  | s :: r => 47 :: s ++ joinL r
theorem joinL_append (a b : List (List Int)) : joinL (a ++ b) = joinL a ++ joinL b := by
  induction a with
  | nil => rfl
  | cons s a ih => rw [List.cons_append, joinL, joinL, ih]; simp
theorem split_join : ∀ (l : List (List Int)) (cur : List Int), (∀ s ∈ l, ∀ c ∈ s, c ≠ 47) → splitL cur (joinL l) = cur :: l := by
  intro l
  induction l with
  | nil => intro cur _; rfl
  | cons s l ih =>
    intro cur h
    have e : joinL (s :: l) = 47 :: (s ++ joinL l) := rfl
    rw [e, splitL, if_pos rfl, splitL_on _ _ _ (h s List.mem_cons_self), List.nil_append, ih s fun x hx => h x (List.mem_cons_of_mem _ hx)]
/-- What a path says: the slash ahead of it left out. -/
def bareL (l : List Int) : List Int := match l with
  | [] => []
  | c :: r => if c = 47 then r else c :: r
def stepL (out : List (List Int)) (s : List Int) : List (List Int) := if s = [46] then out else if s = [46, 46] then out.dropLast else out ++ [s]
def endsL (s : List Int) : Bool := decide (s = []) || decide (s = [46]) || decide (s = [46, 46])
/-- The segments that are walked: an empty one behind all is none. -/
def walkL (segs : List (List Int)) : List (List Int) := if segs.getLastD [] = [] then segs.dropLast else segs
def outL (segs : List (List Int)) : List (List Int) := (walkL segs).foldl stepL []
def tellL (out : List (List Int)) (ends : Bool) : List Int := joinL out ++ (if ends = true ∨ out = [] then [47] else [])
def dotsL (l : List Int) : List Int := let segs := splitL [] (bareL l); tellL (outL segs) (endsL (segs.getLastD []))
theorem step_plain (out : List (List Int)) {s : List Int} (h1 : s ≠ [46]) (h2 : s ≠ [46, 46]) : stepL out s = out ++ [s] := by
  unfold stepL
  rw [if_neg h1, if_neg h2]
theorem foldl_step_mem : ∀ (l out : List (List Int)) (s : List Int), s ∈ l.foldl stepL out → s ∈ out ∨ (s ∈ l ∧ s ≠ [46] ∧ s ≠ [46, 46]) := by
  intro l
  induction l with
  | nil => intro out s h; exact .inl h
  | cons x l ih =>
    intro out s h
    rw [List.foldl_cons] at h
    rcases ih _ s h with h | ⟨h1, h2⟩
    · unfold stepL at h
      split at h
      · exact .inl h
      · split at h
        · exact .inl (List.dropLast_subset _ h)
        · rcases List.mem_append.1 h with h | h
          · exact .inl h
          · rw [List.mem_singleton.1 h]
            exact .inr ⟨List.mem_cons_self, by assumption, by assumption⟩
    · exact .inr ⟨List.mem_cons_of_mem _ h1, h2⟩
theorem foldl_step_plain : ∀ (l out : List (List Int)), (∀ s ∈ l, s ≠ [46] ∧ s ≠ [46, 46]) → l.foldl stepL out = out ++ l := by
  intro l
  induction l with
  | nil => intro out _; exact (List.append_nil _).symm
  | cons x l ih =>
    intro out h
    have hx := h x List.mem_cons_self
    rw [List.foldl_cons, ih _ fun s hs => h s (List.mem_cons_of_mem _ hs)]
    unfold stepL
    rw [if_neg hx.1, if_neg hx.2, List.append_assoc]; rfl
theorem walk_mem {segs : List (List Int)} {s : List Int} (h : s ∈ walkL segs) : s ∈ segs := by
  unfold walkL at h
  split at h
  · exact List.dropLast_subset _ h
  · exact h
theorem out_mem {segs : List (List Int)} {s : List Int} (h : s ∈ outL segs) : s ∈ segs ∧ s ≠ [46] ∧ s ≠ [46, 46] := by
  rcases foldl_step_mem _ _ _ h with h | ⟨h, r⟩
  · cases h
  · exact ⟨walk_mem h, r⟩
theorem getLastD_concat (l : List (List Int)) (x : List Int) : (l ++ [x]).getLastD [] = x := by simp
theorem concat_of (l : List (List Int)) (h : l ≠ []) : ∃ m x, l = m ++ [x] := ⟨l.dropLast, l.getLast h, (List.dropLast_concat_getLast h).symm⟩
/-- Where nothing ends it, the last segment stands last. -/
theorem out_last {segs : List (List Int)} (h : endsL (segs.getLastD []) = false) (hn : segs ≠ []) : ∃ m, outL segs = m ++ [segs.getLastD []] := by
  obtain ⟨m, x, rfl⟩ := concat_of segs hn
  rw [getLastD_concat] at h ⊢
  unfold endsL at h
  simp only [Bool.or_eq_false_iff, decide_eq_false_iff_not] at h
  unfold outL walkL
  rw [getLastD_concat, if_neg h.1.1, List.foldl_append, List.foldl_cons, List.foldl_nil]
  exact ⟨_, step_plain _ h.1.2 h.2⟩
theorem bare_join (s : List Int) (l : List (List Int)) (r : List Int) : bareL (joinL (s :: l) ++ r) = s ++ joinL l ++ r := by
  show (if (47 : Int) = 47 then (s ++ joinL l ++ r) else 47 :: (s ++ joinL l ++ r)) = _
  exact if_pos rfl
theorem dots_of (out : List (List Int)) (ends : Bool) (h47 : ∀ s ∈ out, ∀ c ∈ s, c ≠ 47) (hd : ∀ s ∈ out, s ≠ [46] ∧ s ≠ [46, 46]) (hl : ends = false → out ≠ [] → out.getLastD [] ≠ []) : dotsL (tellL out ends) = tellL out ends := by
  cases out with
  | nil =>
    have : tellL [] ends = [47] := by unfold tellL; rw [if_pos (.inr rfl)]; rfl
    rw [this]; decide
  | cons s l =>
    unfold dotsL
    have hs := h47 s List.mem_cons_self
    have hl47 := fun x hx => h47 x (List.mem_cons_of_mem _ hx)
    cases ends with
    | true =>
      have e : tellL (s :: l) true = joinL (s :: l) ++ [47] := by unfold tellL; rw [if_pos (.inl rfl)]
      have e2 : splitL [] (bareL (joinL (s :: l) ++ [47])) = (s :: l) ++ [[]] := by
        rw [bare_join]
        have : s ++ joinL l ++ [47] = s ++ joinL (l ++ [[]]) := by rw [joinL_append]; simp [joinL]
        rw [this, splitL_on _ _ _ hs, List.nil_append, split_join _ _ (fun x hx => by
          rcases List.mem_append.1 hx with hx | hx
          · exact hl47 x hx
          · rw [List.mem_singleton.1 hx]; intro c hc; cases hc)]
        rfl
      rw [e, e2]
      show tellL (outL ((s :: l) ++ [[]])) (endsL (((s :: l) ++ [[]]).getLastD [])) = _
      rw [getLastD_concat]
      have : outL ((s :: l) ++ [[]]) = s :: l := by
        unfold outL walkL
        rw [getLastD_concat, if_pos rfl, List.dropLast_concat, foldl_step_plain _ _ hd, List.nil_append]
      rw [this, ← e]; rfl
    | false =>
      have hne := hl rfl (by simp)
      have e : tellL (s :: l) false = joinL (s :: l) := by unfold tellL; rw [if_neg (by simp), List.append_nil]
      have e2 : splitL [] (bareL (joinL (s :: l))) = s :: l := by
        have := bare_join s l []
        rw [List.append_nil, List.append_nil] at this
        rw [this, splitL_on _ _ _ hs, List.nil_append, split_join _ _ hl47]
      rw [e, e2]
      show tellL (outL (s :: l)) (endsL ((s :: l).getLastD [])) = _
      have h3 : outL (s :: l) = s :: l := by
        unfold outL walkL
        rw [if_neg hne, foldl_step_plain _ _ hd, List.nil_append]
      have h4 : endsL ((s :: l).getLastD []) = false := by
        obtain ⟨m, x, hm⟩ := concat_of (s :: l) (by simp)
        rw [hm, getLastD_concat] at hne ⊢
        have := hd x (by rw [hm]; simp)
        unfold endsL
        rw [decide_eq_false hne, decide_eq_false this.1, decide_eq_false this.2]; rfl
      rw [h3, h4, e]
theorem dots_again (l : List Int) : dotsL (dotsL l) = dotsL l := by
  have h47 := splitL_slash (bareL l) [] (fun _ h => by cases h)
  show dotsL (tellL _ _) = tellL _ _
  refine dots_of _ _ (fun s hs => h47 s (out_mem hs).1) (fun s hs => (out_mem hs).2) ?_
  intro he hne
  obtain ⟨m, hm⟩ := out_last he (splitL_ne _ _)
  rw [hm, getLastD_concat]
  intro h0
  rw [h0] at he
  exact absurd he (by decide)
theorem join_fixed : ∀ l : List (List Int), (∀ s ∈ l, Fixed s) → Fixed (joinL l) := by
  intro l
  induction l with
  | nil => intro _; exact Fixed.nil
  | cons s l ih =>
    intro h
    exact Fixed.cons (by decide) (Fixed.append (h s List.mem_cons_self) (ih fun x hx => h x (List.mem_cons_of_mem _ hx)))
theorem bare_fixed {l : List Int} (h : Fixed l) : Fixed (bareL l) := by
  unfold bareL
  split
  · exact Fixed.nil
  · rename_i c r
    by_cases hc : c = 47
    · subst hc
      rw [if_pos rfl]
      exact (Fixed.cut (a := []) (by decide) (by decide) h).2
    · rw [if_neg hc]; exact h
theorem dots_fixed {l : List Int} (h : Fixed l) : Fixed (dotsL l) := by
  have hs := splitL_fixed (bareL l) [] (bare_fixed h)
  show Fixed (tellL _ _)
  unfold tellL
  refine Fixed.append (join_fixed _ fun s hx => hs s (out_mem hx).1) ?_
  split
  · exact Fixed.cons (by decide) Fixed.nil
  · exact Fixed.nil
theorem join_pure {P : Int → Prop} (h47 : P 47) : ∀ l : List (List Int), (∀ s ∈ l, ∀ c ∈ s, P c) → ∀ c ∈ joinL l, P c := by
  intro l
  induction l with
  | nil => intro _ c h; cases h
  | cons s l ih =>
    intro h c hc
    have e : joinL (s :: l) = 47 :: (s ++ joinL l) := rfl
    rw [e] at hc
    rcases List.mem_cons.1 hc with rfl | hc
    · exact h47
    · rcases List.mem_append.1 hc with hc | hc
      · exact h s List.mem_cons_self c hc
      · exact ih (fun x hx => h x (List.mem_cons_of_mem _ hx)) c hc
theorem dots_pure {P : Int → Prop} (h47 : P 47) {l : List Int} (h : ∀ c ∈ l, P c) : ∀ c ∈ dotsL l, P c := by
  have hb : ∀ c ∈ bareL l, P c := by
    unfold bareL
    split
    · intro c h; cases h
    · split
      · exact fun c hc => h c (List.mem_cons_of_mem _ hc)
      · exact h
  have hs := splitL_pure (P := P) (bareL l) [] (fun _ h => by cases h) hb
  intro c hc
  rcases List.mem_append.1 hc with hc | hc
  · exact join_pure h47 _ (fun s hx => hs s (out_mem hx).1) c hc
  · split at hc
    · rw [List.mem_singleton.1 hc]; exact h47
    · cases hc
theorem dots_head (l : List Int) : ∃ r, dotsL l = 47 :: r := by
  show ∃ r, tellL _ _ = _
  unfold tellL
  generalize outL _ = out
  cases out with
  | nil => exact ⟨[], by rw [if_pos (.inr rfl)]; rfl⟩
  | cons s l => exact ⟨_, rfl⟩
end Go.Proofs.YtgpkgfdojfnafaaDoor.Norm
