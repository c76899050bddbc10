/- A text of words with a star among them: it is told as a part of its own. -/
import Derived.Test.YtefijfanjekchaaGx0
import Derived.Test.YtefijfanjekchaaGx2
import Derived.Test.YtefijfanjekchaaGx3
import Derived.Test.YtefijfanjekchaaGx7
import Derived.Test.YtefijfanjekchaaPureVaryNames
set_option linter.unusedVariables false
set_option linter.unusedSimpArgs false
namespace Go.Proofs.Ytefijfanjekchaa.Plain
open Go.RowKit Go.Proofs.Ytefijfanjekchaa.G Go.Proofs.YtefijfanjekchaaW.PrintWords

theorem cut_to (s : ByteArray) (b p : Nat) (hp : p < s.size) (h44 : (bytesOf s).getD p 0 = 44) : ∀ (d i : Nat), i + d = p → (∀ j, i ≤ j → j < p → (bytesOf s).getD j 0 ≠ 44 ∧ (bytesOf s).getD j 0 ≠ 34) → s.extract b p ∈ cutsP s b false i := by
  intro d
  induction d with
  | zero =>
    intro i hd _
    have : i = p := by omega
    subst this
    rw [cuts_comma hp h44]
    exact List.mem_cons_self
  | succ d ih =>
    intro i hd hn
    obtain ⟨n1, n2⟩ := hn i (Nat.le_refl _) (by omega)
    rw [cuts_else (by omega) (fun h => by cases h.1) n2 (fun h => n1 h.1)]
    exact ih (i + 1) (by omega) (fun j h1 h2 => hn j (by omega) h2)
theorem cut_from (s : ByteArray) (m : Nat) (hm : m ≤ s.size) (x : ByteArray) (hx : x ∈ cutsP s m false m) (hm44 : 0 < m → (bytesOf s).getD (m - 1) 0 = 44) : ∀ (d i b : Nat), i + d = m → (i = m → b = m) → (∀ j, i ≤ j → j < m → (bytesOf s).getD j 0 ≠ 34) → x ∈ cutsP s b false i := by
  intro d
  induction d with
  | zero =>
    intro i b hd hb _
    have : i = m := by omega
    subst this
    rw [hb rfl]; exact hx
  | succ d ih =>
    intro i b hd hb hn
    have n2 := hn i (Nat.le_refl _) (by omega)
    by_cases h : (bytesOf s).getD i 0 = 44
    · rw [cuts_comma (by omega) h]
      exact List.mem_cons_of_mem _ (ih (i + 1) (i + 1) (by omega) (fun e => e) (fun j h1 h2 => hn j (by omega) h2))
    · rw [cuts_else (by omega) (fun x => by cases x.1) n2 (fun x => h x.1)]
      refine ih (i + 1) b (by omega) (fun e => ?_) (fun j h1 h2 => hn j (by omega) h2)
      exact absurd (by have := hm44 (by omega); rwa [show m - 1 = i by omega] at this) h
theorem star_names {v : ByteArray} (h : ∃ x ∈ cutsP v 0 false 0, bytesOf (trimB x) = [42]) : namesP (listL [⟨varyN, v⟩] varyN) = ([], true) := by
  obtain ⟨x, hx, ht⟩ := h
  have ha : allL [(⟨varyN, v⟩ : S38)] varyN = [v] := by
    unfold allL
    rw [List.filter_cons, if_pos (show Leaf.sameB varyN varyN = true from beq_self_eq_true _)]; rfl
  unfold namesP
  refine if_pos (List.any_eq_true.2 ⟨trimB x, ?_, ?_⟩)
  · unfold listL partsL
    rw [ha, List.flatMap_cons, List.flatMap_nil, List.append_nil]
    unfold kept
    exact List.mem_filter.2 ⟨List.mem_map_of_mem hx, by rw [ht]; rfl⟩
  · have e : trimB x = ⟨#[42]⟩ := bytes_inj ht
    rw [e]; decide +kernel
theorem bytes_toArray (l : W8) : bytesOf ⟨l.toArray⟩ = l.map n8 := rfl
theorem star_text (A B : W8) (hA : ∀ c ∈ A, c ≠ 34) (hend : A = [] ∨ ∃ A', A = A' ++ [44, 32]) : ∃ x ∈ cutsP ⟨(A ++ ([42, 44, 32] ++ B)).toArray⟩ 0 false 0, bytesOf (trimB x) = [42] := by
  have hb : bytesOf (⟨(A ++ ([42, 44, 32] ++ B)).toArray⟩ : ByteArray) = A.map n8 ++ ([42, 44, 32] ++ B.map n8) := by
    rw [bytes_toArray, List.map_append, List.map_append]; rfl
  have hsz : (⟨(A ++ ([42, 44, 32] ++ B)).toArray⟩ : ByteArray).size = A.length + 3 + B.length := by
    show (A ++ ([42, 44, 32] ++ B)).toArray.size = _
    rw [List.size_toArray, List.length_append, List.length_append]
    simp only [List.length_cons, List.length_nil]; omega
  generalize (⟨(A ++ ([42, 44, 32] ++ B)).toArray⟩ : ByteArray) = s at hb hsz
  have hlA : (A.map n8).length = A.length := List.length_map _
  have gA : ∀ j, j < A.length → (bytesOf s).getD j 0 = n8 (A.getD j 0) := fun j hj => by
    rw [hb, List.getD_eq_getElem?_getD, List.getElem?_append_left (by omega), List.getElem?_map, List.getElem?_eq_getElem hj, List.getD_eq_getElem?_getD, List.getElem?_eq_getElem hj]; rfl
  have gS : ∀ j, j < 3 → (bytesOf s).getD (A.length + j) 0 = ([42, 44, 32] : List Int).getD j 0 := fun j hj => by
    rw [hb, List.getD_eq_getElem?_getD, List.getElem?_append_right (by omega), hlA, Nat.add_sub_cancel_left, List.getElem?_append_left (by simpa using hj)]; rfl
  have h34 : ∀ j, j < A.length → (bytesOf s).getD j 0 ≠ 34 := fun j hj => by
    rw [gA j hj, List.getD_eq_getElem?_getD, List.getElem?_eq_getElem hj]
    intro e
    exact hA A[j] (List.getElem_mem hj) (UInt8.toNat_inj.1 (by have : (A[j].toNat : Int) = 34 := e; show A[j].toNat = 34; omega))
  have hp : (bytesOf s).getD (A.length + 1) 0 = 44 := gS 1 (by omega)
  have h42 : (bytesOf s).getD (A.length) 0 = 42 := gS 0 (by omega)
  rcases hend with rfl | ⟨A', rfl⟩
  · refine ⟨s.extract 0 1, cut_to s 0 1 (by omega) hp 1 0 rfl (fun j h1 h2 => ?_), ?_⟩
    · have : j = 0 := by omega
      subst this
      have h42 : (bytesOf s).getD 0 0 = 42 := h42
      rw [h42]; decide
    · rw [bytes_trim, bytes_extract, hb]
      show trimL [42] = [42]
      decide +kernel
  · have hl : (A' ++ [44, 32]).length = A'.length + 2 := by rw [List.length_append]; rfl
    have h44 : (bytesOf s).getD A'.length 0 = 44 := by
      rw [gA _ (by omega), List.getD_eq_getElem?_getD, List.getElem?_append_right (Nat.le_refl _), Nat.sub_self]; rfl
    have h32 : (bytesOf s).getD (A'.length + 1) 0 = 32 := by
      rw [gA _ (by omega), List.getD_eq_getElem?_getD, List.getElem?_append_right (by omega), Nat.add_sub_cancel_left]; rfl
    rw [hl] at hp h42 hsz h34
    refine ⟨s.extract (A'.length + 1) (A'.length + 3), ?_, ?_⟩
    · refine cut_from s (A'.length + 1) (by omega) _ (cut_to s (A'.length + 1) (A'.length + 3) (by omega) hp 2 (A'.length + 1) (by omega) (fun j h1 h2 => ?_)) (fun _ => by rw [Nat.add_sub_cancel]; exact h44) (A'.length + 1) 0 0 (by omega) (fun e => by omega) (fun j _ h2 => h34 j (by omega))
      have : j = A'.length + 1 ∨ j = A'.length + 2 := by omega
      rcases this with rfl | rfl
      · rw [h32]; decide
      · rw [h42]; decide
    · rw [bytes_trim, bytes_extract, hb]
      have e : (((A' ++ [44, 32]).map n8 ++ ([42, 44, 32] ++ B.map n8)).take (A'.length + 3)).drop (A'.length + 1) = [32, 42] := by
        rw [List.map_append]
        have e1 : (A'.map n8 ++ ([44, 32] : W8).map n8 ++ ([42, 44, 32] ++ B.map n8)) = A'.map n8 ++ ([44, 32, 42, 44, 32] ++ B.map n8) := by
          rw [List.append_assoc]; rfl
        have e2 : (A'.map n8).length = A'.length := List.length_map _
        rw [e1, List.take_append, List.drop_append, e2, List.take_of_length_le (by omega), List.drop_eq_nil_of_le (by omega), List.nil_append, e2, Nat.add_sub_cancel_left, Nat.add_sub_cancel_left]
        rfl
      rw [e]; decide +kernel
/-! The text that is put together -/
def lett (c : UInt8) : Bool := decide (97 ≤ c.toNat ∧ c.toNat ≤ 122)
def letters (s : ByteArray) (k : Nat) : W8 := (s.data.toList.take k).filter lett
def starMark (t i : Nat) : W8 := if i = t then [42, 44, 32] else []
def vL (ns : List ByteArray) (t : Nat) : Nat → W8
  | 0 => []
  | i + 1 => vL ns t i ++ starMark t i ++ letters (rdOf ByteArray.empty ns (i : Int)) (rdOf ByteArray.empty ns (i : Int)).size ++ [44, 32]
theorem letters_ok (s : ByteArray) (k : Nat) : ∀ c ∈ letters s k, c ≠ 34 := by
  intro c hc
  obtain ⟨_, h⟩ := List.mem_filter.1 hc
  rintro rfl
  exact absurd h (by decide)
theorem letters_len (s : ByteArray) (k : Nat) : (letters s k).length ≤ k := Nat.le_trans (List.length_filter_le _ _) (by rw [List.length_take]; omega)
theorem vL_ok (ns : List ByteArray) (t : Nat) : ∀ i, ∀ c ∈ vL ns t i, c ≠ 34
  | 0 => fun c hc => absurd hc (by simp [vL])
  | i + 1 => by
    intro c hc
    rw [vL, List.mem_append, List.mem_append, List.mem_append] at hc
    rcases hc with ((hc | hc) | hc) | hc
    · exact vL_ok ns t i c hc
    · unfold starMark at hc
      split at hc
      · rcases List.mem_cons.1 hc with rfl | hc
        · decide
        · rcases List.mem_cons.1 hc with rfl | hc
          · decide
          · rw [List.mem_singleton.1 hc]; decide
      · cases hc
    · exact letters_ok _ _ c hc
    · rcases List.mem_cons.1 hc with rfl | hc
      · decide
      · rw [List.mem_singleton.1 hc]; decide
theorem vL_end (ns : List ByteArray) (t : Nat) : ∀ i, vL ns t i = [] ∨ ∃ A', vL ns t i = A' ++ [44, 32]
  | 0 => .inl rfl
  | i + 1 => .inr ⟨_, rfl⟩
theorem vL_split (ns : List ByteArray) (t : Nat) : ∀ i, t < i → ∃ B, vL ns t i = vL ns t t ++ ([42, 44, 32] ++ B)
  | 0, h => absurd h (by omega)
  | i + 1, h => by
    rcases Nat.lt_or_ge t i with h1 | h1
    · obtain ⟨B, hB⟩ := vL_split ns t i h1
      exact ⟨B ++ (starMark t i ++ letters (rdOf ByteArray.empty ns (i : Int)) (rdOf ByteArray.empty ns (i : Int)).size ++ [44, 32]), by rw [vL, hB]; simp only [List.append_assoc]⟩
    · have : i = t := by omega
      subst this
      exact ⟨letters (rdOf ByteArray.empty ns (i : Int)) (rdOf ByteArray.empty ns (i : Int)).size ++ [44, 32], by rw [vL, starMark, if_pos rfl]; simp only [List.append_assoc]⟩
theorem vL_len (ns : List ByteArray) (t : Nat) : ∀ i, (∀ j : Nat, j < i → (rdOf ByteArray.empty ns (j : Int)).size ≤ 30) → (vL ns t i).length ≤ 35 * i
  | 0, _ => Nat.le_refl _
  | i + 1, h => by
    have h1 := vL_len ns t i (fun j hj => h j (by omega))
    have h2 := letters_len (rdOf ByteArray.empty ns (i : Int)) (rdOf ByteArray.empty ns (i : Int)).size
    have h3 := h i (by omega)
    have h4 : (starMark t i).length ≤ 3 := by unfold starMark; split <;> simp
    rw [vL, List.length_append, List.length_append, List.length_append]
    simp only [List.length_cons, List.length_nil]
    omega
theorem vL_star (ns : List ByteArray) (t n : Nat) (h : t < n) : namesP (listL [⟨varyN, ⟨(vL ns t n).toArray⟩⟩] varyN) = ([], true) := by
  obtain ⟨B, hB⟩ := vL_split ns t n h
  refine star_names ?_
  rw [hB]
  exact star_text (vL ns t t) B (vL_ok ns t t) (vL_end ns t t)
theorem one_star : namesP (listL [⟨varyN, ⟨#[42]⟩⟩] varyN) = ([], true) := by
  refine star_names ⟨(⟨#[42]⟩ : ByteArray).extract 0 1, ?_, by rw [bytes_trim, bytes_extract]; decide +kernel⟩
  rw [cuts_else (by decide) (fun h => by cases h.1) (by decide) (fun h => absurd h.1 (by decide)), cuts_end (by decide)]
  exact List.mem_cons_self
theorem no_names : namesP (listL [] varyN) = ([], false) := by
  have : listL [] varyN = [] := rfl
  rw [this]
  have e := names_tell []
  rw [← e]; rfl
/-- What is told of a response that varies by everything. -/
theorem star_facts (v : ByteArray) (hv : v.size ≤ 300) (hs : namesP (listL [⟨varyN, v⟩] varyN) = ([], true)) (p q : List S38) (hp : Small p) (hq : Small q) :
    ∃ k, vary_Names.f k 0 ⟨#[]⟩ [⟨varyN, v⟩] [] = some ([], true) ∧ vary_Match.f k 0 ⟨#[]⟩ [⟨varyN, v⟩] [] p q = some false ∧ vary_Match.f k 0 ⟨#[]⟩ [⟨varyN, v⟩] [] p p = some false ∧ vary_Keep.f k 0 ⟨#[]⟩ [⟨varyN, v⟩] [] p = some [] ∧ vary_Match.f k 0 ⟨#[]⟩ [] [] p q = some true := by
  have hl : Lt 1 [(⟨varyN, v⟩ : S38)] := ⟨Nat.le_refl _, fun x hx => by rw [List.mem_singleton.1 hx]; exact ⟨show varyN.size ≤ 300 by decide, hv⟩⟩
  have h0 : Lt 1 ([] : List S38) := ⟨by decide, by simp⟩
  obtain ⟨k1, h1⟩ := names_vary hl (by omega) 0 ⟨#[]⟩ []
  obtain ⟨k2, h2⟩ := match_vary hl (by omega) 0 ⟨#[]⟩ [] p q hp hq
  obtain ⟨k3, h3⟩ := match_vary hl (by omega) 0 ⟨#[]⟩ [] p p hp hp
  obtain ⟨k4, h4⟩ := keep_vary hl (by omega) 0 ⟨#[]⟩ [] p hp
  obtain ⟨k5, h5⟩ := match_vary h0 (by omega) 0 ⟨#[]⟩ [] p q hp hq
  rw [hs] at h1 h2 h3 h4
  rw [no_names] at h5
  exact ⟨k1 + k2 + k3 + k4 + k5, h1 _ (by omega), h2 _ (by omega), h3 _ (by omega), h4 _ (by omega), h5 _ (by omega)⟩
end Go.Proofs.Ytefijfanjekchaa.Plain
