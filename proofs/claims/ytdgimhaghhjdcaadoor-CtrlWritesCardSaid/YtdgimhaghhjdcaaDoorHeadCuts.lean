/- A text cut at commas, in lists of bytes; parts in quotes, put together. -/
import Derived.Test.YtdgimhaghhjdcaaDoorHeadParts
set_option linter.unusedVariables false
set_option linter.unusedSimpArgs false
namespace Go.Proofs.YtdgimhaghhjdcaaDoor.Plain
open Go.RowKit Go.Proofs.YtdgimhaghhjdcaaDoor.G Go.Proofs.YtdgimhaghhjdcaaDoorW.PrintWords

def cutsL (cur : List Int) (q : Bool) : List Int → List (List Int)
  | [] => [cur]
  | c :: r => if c = 34 then cutsL (cur ++ [c]) (!q) r else if c = 44 ∧ q = false then cur :: cutsL [] q r else cutsL (cur ++ [c]) q r
def keptL (l : List (List Int)) : List (List Int) := (l.map trimL).filter fun t => !t.isEmpty
theorem keptL_cons (x : List Int) (l : List (List Int)) : keptL (x :: l) = if trimL x = [] then keptL l else trimL x :: keptL l := by
  unfold keptL
  rw [List.map_cons, List.filter_cons]
  cases trimL x <;> rfl
theorem kept_map (l : List ByteArray) : (kept l).map bytesOf = keptL (l.map bytesOf) := by
  induction l with
  | nil => rfl
  | cons x l ih =>
    rw [kept_cons, List.map_cons, keptL_cons, bytes_trim]
    by_cases h : trimL (bytesOf x) = []
    · rw [if_pos h, if_pos h, ih]
    · rw [if_neg h, if_neg h, List.map_cons, bytes_trim, ih]
theorem take_one (l : List Int) {b i : Nat} (hb : b ≤ i) (hi : i < l.length) : (l.take (i + 1)).drop b = (l.take i).drop b ++ [l.getD i 0] := by
  have hg : l.getD i 0 = l[i] := by rw [List.getD_eq_getElem?_getD, List.getElem?_eq_getElem hi]; rfl
  rw [List.take_succ_eq_append_getElem hi, List.drop_append_of_le_length (by rw [List.length_take]; omega), hg]
theorem cuts_list (s : ByteArray) (h : ∀ c ∈ bytesOf s, c ≠ 92) : ∀ (m b : Nat) (q : Bool) (i : Nat), s.size - i ≤ m → b ≤ i → i ≤ s.size → (cutsP s b q i).map bytesOf = cutsL (((bytesOf s).take i).drop b) q ((bytesOf s).drop i) := by
  have hz := size_bytes s
  intro m
  induction m with
  | zero =>
    intro b q i h1 h2 h3
    have hd : (bytesOf s).drop i = [] := List.drop_eq_nil_of_le (by omega)
    rw [cuts_end (by omega), hd, List.map_singleton, bytes_extract]
    have : i = s.size := by omega
    rw [this]; rfl
  | succ m ih =>
    intro b q i h1 h2 h3
    by_cases hi : i < s.size
    case neg =>
      have hd : (bytesOf s).drop i = [] := List.drop_eq_nil_of_le (by omega)
      rw [cuts_end hi, hd, List.map_singleton, bytes_extract]
      have : i = s.size := by omega
      rw [this]; rfl
    have h92 : (bytesOf s).getD i 0 ≠ 92 := h _ (getD_mem 0 _ (by omega))
    have ht := take_one (bytesOf s) h2 (show i < (bytesOf s).length by omega)
    rw [drop_cons (bytesOf s) 0 (show i < (bytesOf s).length by omega), cutsL, ← ht]
    by_cases h34 : (bytesOf s).getD i 0 = 34
    · rw [if_pos h34, cuts_quote hi h34, ih _ _ _ (by omega) (by omega) (by omega)]
    rw [if_neg h34]
    by_cases h44 : (bytesOf s).getD i 0 = 44 ∧ q = false
    · obtain ⟨h5, rfl⟩ := h44
      rw [if_pos ⟨h5, rfl⟩, cuts_comma hi h5, List.map_cons, bytes_extract, ih _ _ _ (by omega) (by omega) (by omega)]
      congr 2
      rw [List.drop_eq_nil_of_le (by rw [List.length_take]; omega)]
    · rw [if_neg h44, cuts_else hi (fun h => h92 h.2) h34 h44, ih _ _ _ (by omega) (by omega) (by omega)]
theorem cutsL_on (q : Bool) : ∀ (l cur r : List Int), (∀ c ∈ l, c ≠ 34 ∧ (c = 44 → q = true)) → cutsL cur q (l ++ r) = cutsL (cur ++ l) q r := by
  intro l
  induction l with
  | nil => intro cur r _; rw [List.nil_append, List.append_nil]
  | cons c l ih =>
    intro cur r h
    have hc := h c List.mem_cons_self
    rw [List.cons_append, cutsL, if_neg hc.1, if_neg (fun h => by rw [hc.2 h.1] at h; cases h.2), ih _ _ (fun x hx => h x (List.mem_cons_of_mem _ hx)), List.append_assoc]
    rfl
theorem cutsL_quoted (cur p r : List Int) (hp : ∀ c ∈ p, c ≠ 34) : cutsL cur false ([34] ++ p ++ [34] ++ r) = cutsL (cur ++ ([34] ++ p ++ [34])) false r := by
  have e : [34] ++ p ++ [34] ++ r = 34 :: (p ++ 34 :: r) := by simp
  rw [e, cutsL, if_pos rfl, Bool.not_false, cutsL_on true p _ _ (fun c hc => ⟨hp c hc, fun _ => rfl⟩), cutsL, if_pos rfl, Bool.not_true]
  simp
theorem trimL_front (bl x : List Int) (h : ∀ c ∈ bl, blankC c = true) : trimL (bl ++ x) = trimL x := by
  induction bl with
  | nil => rfl
  | cons c l ih =>
    rw [List.cons_append, front_cons, if_pos (h c List.mem_cons_self), ih fun y hy => h y (List.mem_cons_of_mem _ hy)]
theorem trimL_quoted (p : List Int) : trimL ([34] ++ p ++ [34]) = [34] ++ p ++ [34] := by
  show trimL (34 :: (p ++ [34])) = _
  rw [front_cons, if_neg (by decide), ← List.cons_append, back_concat, if_neg (by decide)]
  rfl
theorem trimL_quoted_blank (p : List Int) : trimL ([34] ++ p ++ [34] ++ [32]) = [34] ++ p ++ [34] := by
  show trimL (34 :: (p ++ [34] ++ [32])) = _
  rw [front_cons, if_neg (by decide), ← List.cons_append, back_concat, if_pos (by decide), ← List.cons_append, back_concat, if_neg (by decide)]
  rfl
/-- One part as it is written: blanks ahead, quotes about it, commas behind it. -/
def item (bl p : List Int) (more : Bool) : List Int := bl ++ ([34] ++ p ++ [34]) ++ (if more = true then [32, 44, 32, 44] else [])
theorem item_cuts (bl p r : List Int) (more : Bool) (hb : ∀ c ∈ bl, blankC c = true) (hp : ∀ c ∈ p, c ≠ 34) (hr : r = [] ∨ ∃ r2, r = 44 :: r2) (T : List (List Int)) (hT : ∀ r2, r = 44 :: r2 → keptL (cutsL [] false r2) = T) (h0 : r = [] → T = []) :
    keptL (cutsL [] false (item bl p more ++ r)) = ([34] ++ p ++ [34]) :: T := by
  have hbl : ∀ c ∈ bl, c ≠ 34 ∧ (c = 44 → false = true) := fun c hc => by
    have := hb c hc
    unfold blankC at this
    simp only [Bool.or_eq_true, decide_eq_true_eq] at this
    exact ⟨by omega, fun h => by omega⟩
  have hq : ∀ r3, cutsL [] false (bl ++ ([34] ++ p ++ [34]) ++ r3) = cutsL (bl ++ ([34] ++ p ++ [34])) false r3 := fun r3 => by
    rw [List.append_assoc, cutsL_on false bl _ _ hbl, List.nil_append, cutsL_quoted _ _ _ hp]
  have hrest : ∀ x : List Int, keptL (cutsL x false r) = keptL [x] ++ T := fun x => by
    rcases hr with rfl | ⟨r2, rfl⟩
    · rw [h0 rfl]; exact (List.append_nil _).symm
    · rw [cutsL, if_neg (by decide), if_pos ⟨rfl, rfl⟩, keptL_cons, hT r2 rfl, keptL_cons]
      by_cases hx : trimL x = []
      · rw [if_pos hx, if_pos hx]; rfl
      · rw [if_neg hx, if_neg hx]; rfl
  have hne : ∀ r : List Int, ([34] ++ p ++ [34] : List Int) ≠ [] := fun _ h => by simp at h
  unfold item
  cases more with
  | false =>
    rw [if_neg (by decide), List.append_nil, hq, hrest, keptL_cons, trimL_front _ _ hb, trimL_quoted, if_neg (hne [])]
    rfl
  | true =>
    rw [if_pos rfl, List.append_assoc (bl ++ ([34] ++ p ++ [34])), hq]
    have e : [32, 44, 32, 44] ++ r = 32 :: 44 :: 32 :: 44 :: r := rfl
    rw [e, cutsL, if_neg (by decide), if_neg (by simp), cutsL, if_neg (by decide), if_pos ⟨rfl, rfl⟩, cutsL, if_neg (by decide), if_neg (by simp), cutsL, if_neg (by decide), if_pos ⟨rfl, rfl⟩, keptL_cons, List.append_assoc, trimL_front _ _ hb, trimL_quoted_blank, if_neg (hne []), keptL_cons, if_pos (by decide), hrest]
    rfl
end Go.Proofs.YtdgimhaghhjdcaaDoor.Plain
