/- Numbers, texts and lists as bytes: what is written is what is read. -/
set_option linter.unusedVariables false
namespace Go.Proofs.Ythbapljhhglamaa.CodeL

/-- A number's bytes. -/
def enc (n : Nat) : List Int := if n < 128 then [(n : Int)] else ((n % 128 + 128 : Nat) : Int) :: enc (n / 128)
termination_by n
decreasing_by omega
theorem enc_small {n : Nat} (h : n < 128) : enc n = [(n : Int)] := by rw [enc, if_pos h]
theorem enc_great {n : Nat} (h : ¬ n < 128) : enc n = ((n % 128 + 128 : Nat) : Int) :: enc (n / 128) := by rw [enc, if_neg h]
/-- What a number's bytes say, from the i-th one on. -/
def numGo : Nat → Nat → List Int → Option (Nat × List Int)
  | _, _, [] => none
  | i, n, x :: r => if i < 10 ∧ (i < 9 ∨ x ≤ 1) then (if x < 128 then (if x ≠ 0 ∨ i = 0 then some (n + x.toNat * 2 ^ (7 * i), r) else none) else numGo (i + 1) (n + (x.toNat - 128) * 2 ^ (7 * i)) r) else none
def numD (xs : List Int) : Option (Nat × List Int) := numGo 0 0 xs
def textD (xs : List Int) : Option (List Int × List Int) := match numD xs with
  | none => none
  | some (n, r) => if n ≤ r.length then some (r.take n, r.drop n) else none
theorem pow7 (i : Nat) : 2 ^ (7 * (i + 1)) = 128 * 2 ^ (7 * i) := by rw [Nat.mul_add, Nat.pow_add, Nat.mul_comm]
theorem nine {i n : Nat} (hi : i ≤ 9) (h : n * 2 ^ (7 * i) < 2 ^ 64) : i < 9 ∨ n ≤ 1 := by
  rcases Nat.lt_or_ge i 9 with h9 | h9
  · exact .inl h9
  · obtain rfl : i = 9 := by omega
    right
    have : (2 : Nat) ^ (7 * 9) = 9223372036854775808 := by decide
    rw [this] at h
    omega
theorem eight {i n : Nat} (hi : i ≤ 9) (h : n * 2 ^ (7 * i) < 2 ^ 64) (hn : 2 ≤ n) : i < 9 := (nine hi h).elim id (fun h => by omega)
theorem numGo_enc : ∀ (n i acc : Nat) (r : List Int), i ≤ 9 → n * 2 ^ (7 * i) < 2 ^ 64 → (n ≠ 0 ∨ i = 0) → numGo i acc (enc n ++ r) = some (acc + n * 2 ^ (7 * i), r) := by
  intro n
  induction n using Nat.strongRecOn with
  | _ n ih =>
    intro i acc r hi hp hz
    by_cases h : n < 128
    · rw [enc_small h, List.singleton_append, numGo, if_pos ⟨by omega, by have := nine hi hp; omega⟩, if_pos (by omega), if_pos (by omega), Int.toNat_natCast]
    · have h9 := eight hi hp (by omega)
      have hdm : 128 * (n / 128) + n % 128 = n := Nat.div_add_mod n 128
      have hpp := pow7 i
      rw [enc_great h, List.cons_append, numGo, if_pos ⟨by omega, .inl h9⟩, if_neg (by omega), ih (n / 128) (by omega) (i + 1) _ r (by omega) ?_ (.inl (by omega))]
      · rw [Int.toNat_natCast, hpp, Nat.add_sub_cancel, Nat.add_assoc]
        congr 2
        have e : n / 128 * (128 * 2 ^ (7 * i)) = 128 * (n / 128) * 2 ^ (7 * i) := by rw [← Nat.mul_assoc, Nat.mul_comm (n / 128) 128]
        rw [e, ← Nat.add_mul, Nat.add_comm (n % 128), hdm]
      · rw [hpp, ← Nat.mul_assoc]
        refine Nat.lt_of_le_of_lt (Nat.mul_le_mul_right _ ?_) hp
        omega
theorem numD_enc {n : Nat} (h : n < 2 ^ 64) (r : List Int) : numD (enc n ++ r) = some (n, r) := by
  unfold numD
  rw [numGo_enc n 0 0 r (by omega) (by simpa using h) (.inr rfl)]
  simp
/-- Cut off anywhere, a number says nothing. -/
theorem numGo_cut : ∀ (n i acc k : Nat), k < (enc n).length → numGo i acc ((enc n).take k) = none := by
  intro n
  induction n using Nat.strongRecOn with
  | _ n ih =>
    intro i acc k hk
    by_cases h : n < 128
    · rw [enc_small h] at hk ⊢
      obtain rfl : k = 0 := by simpa using hk
      rw [List.take_zero, numGo]
    · rw [enc_great h] at hk ⊢
      cases k with
      | zero => rw [List.take_zero, numGo]
      | succ k =>
        rw [List.take_succ_cons, numGo]
        split
        · rw [if_neg (by omega)]
          exact ih _ (by omega) _ _ _ (by simpa using hk)
        · rfl
theorem enc_len : ∀ (n i : Nat), i ≤ 9 → n * 2 ^ (7 * i) < 2 ^ 64 → 1 ≤ (enc n).length ∧ (enc n).length + i ≤ 10 := by
  intro n
  induction n using Nat.strongRecOn with
  | _ n ih =>
    intro i hi hp
    by_cases h : n < 128
    · rw [enc_small h]
      simp
      omega
    · have h9 := eight hi hp (by omega)
      have hpp := pow7 i
      rw [enc_great h, List.length_cons]
      have := ih (n / 128) (by omega) (i + 1) (by omega) (by
        rw [hpp, ← Nat.mul_assoc]
        exact Nat.lt_of_le_of_lt (Nat.mul_le_mul_right _ (by omega)) hp)
      omega
theorem enc_len10 {n : Nat} (h : n < 2 ^ 64) : 1 ≤ (enc n).length ∧ (enc n).length ≤ 10 := enc_len n 0 (by omega) (by simpa using h)
theorem enc_byte : ∀ (n : Nat) (x : Int), x ∈ enc n → 0 ≤ x ∧ x ≤ 255 := by
  intro n
  induction n using Nat.strongRecOn with
  | _ n ih =>
    intro x hx
    by_cases h : n < 128
    · rw [enc_small h] at hx
      obtain rfl := List.mem_singleton.1 hx
      omega
    · rw [enc_great h] at hx
      rcases List.mem_cons.1 hx with rfl | hx
      · omega
      · exact ih _ (by omega) _ hx
/-- As short as may be. -/
theorem enc_top : ∀ (n : Nat), n / 2 ^ (7 * ((enc n).length - 1)) < 128 ∧ ((enc n).length = 1 ∨ 0 < n / 2 ^ (7 * ((enc n).length - 1))) := by
  intro n
  induction n using Nat.strongRecOn with
  | _ n ih =>
    by_cases h : n < 128
    · rw [enc_small h]
      simpa using h
    · have hl : (enc n).length = (enc (n / 128)).length + 1 := by rw [enc_great h, List.length_cons]
      obtain ⟨h1, h2⟩ := ih (n / 128) (by omega)
      have hp : 1 ≤ (enc (n / 128)).length := by
        rw [enc]
        split <;> simp
      have e : 7 * ((enc n).length - 1) = 7 + 7 * ((enc (n / 128)).length - 1) := by omega
      have e2 : n / 2 ^ (7 * ((enc n).length - 1)) = n / 128 / 2 ^ (7 * ((enc (n / 128)).length - 1)) := by
        rw [e, Nat.pow_add, ← Nat.div_div_eq_div_mul]
      rw [e2]
      refine ⟨h1, .inr ?_⟩
      rcases h2 with h2 | h2
      · rw [h2]
        simp
        omega
      · exact h2
/-- A number's bytes, the last one marked as if there were more. -/
def spoilt (n : Nat) : List Int := if n < 128 then [((n + 128 : Nat) : Int)] else ((n % 128 + 128 : Nat) : Int) :: spoilt (n / 128)
termination_by n
decreasing_by omega
theorem numGo_spoilt : ∀ (n i acc : Nat) (r : List Int), numGo i acc (spoilt n ++ 0 :: r) = none := by
  intro n
  induction n using Nat.strongRecOn with
  | _ n ih =>
    intro i acc r
    rw [spoilt]
    by_cases h : n < 128
    · rw [if_pos h, List.singleton_append, numGo]
      split
      · rw [if_neg (by omega), numGo]
        split
        · rw [if_pos (by omega), if_neg (by omega)]
        · rfl
      · rfl
    · rw [if_neg h, List.cons_append, numGo]
      split
      · rw [if_neg (by omega)]
        exact ih _ (by omega) _ _ _
      · rfl
theorem spoilt_eq : ∀ (n : Nat), ∃ (l : List Int) (z : Nat), z < 128 ∧ enc n = l ++ [(z : Int)] ∧ spoilt n = l ++ [((z + 128 : Nat) : Int)] := by
  intro n
  induction n using Nat.strongRecOn with
  | _ n ih =>
    rw [enc, spoilt]
    by_cases h : n < 128
    · rw [if_pos h, if_pos h]
      exact ⟨[], n, h, rfl, rfl⟩
    · rw [if_neg h, if_neg h]
      obtain ⟨l, z, hz, h1, h2⟩ := ih (n / 128) (by omega)
      exact ⟨_ :: l, z, hz, by rw [h1]; rfl, by rw [h2]; rfl⟩
/-- Texts. -/
def encT (b : List Int) : List Int := enc b.length ++ b
theorem textD_enc {b : List Int} (h : b.length < 2 ^ 64) (r : List Int) : textD (encT b ++ r) = some (b, r) := by
  unfold textD encT
  rw [List.append_assoc, numD_enc h]
  simp
theorem textD_cut {b : List Int} (h : b.length < 2 ^ 64) {k : Nat} (hk : k < (encT b).length) : textD ((encT b).take k) = none := by
  unfold textD encT numD
  rcases Nat.lt_or_ge k (enc b.length).length with h1 | h1
  · rw [List.take_append_of_le_length (by omega), numGo_cut _ _ _ _ h1]
  · have e : (enc b.length ++ b).take k = enc b.length ++ b.take (k - (enc b.length).length) := by
      rw [List.take_append, List.take_of_length_le h1]
    have := numD_enc h (b.take (k - (enc b.length).length))
    unfold numD at this
    rw [e, this]
    simp only
    rw [if_neg]
    unfold encT at hk
    rw [List.length_append] at hk
    rw [List.length_take]
    omega
/-- So many pairs of texts. -/
def pairsD : Nat → List Int → List (List Int × List Int) → Option (List (List Int × List Int) × List Int)
  | 0, xs, acc => some (acc, xs)
  | n + 1, xs, acc => match textD xs with
    | none => none
    | some (a, r) => match textD r with
      | none => none
      | some (b, s) => pairsD n s (acc ++ [(a, b)])
def fieldsD (xs : List Int) : Option (List (List Int × List Int) × List Int) := match numD xs with
  | none => none
  | some (n, r) => if n ≤ r.length then pairsD n r [] else none
def encP : List (List Int × List Int) → List Int
  | [] => []
  | (a, b) :: l => encT a ++ encT b ++ encP l
def encF (l : List (List Int × List Int)) : List Int := enc l.length ++ encP l
theorem pairsD_enc : ∀ (l acc : List (List Int × List Int)) (r : List Int), (∀ p ∈ l, p.1.length < 2 ^ 64 ∧ p.2.length < 2 ^ 64) → pairsD l.length (encP l ++ r) acc = some (acc ++ l, r)
  | [], acc, r, _ => by simp [pairsD, encP]
  | (a, b) :: l, acc, r, h => by
    have h1 := h (a, b) List.mem_cons_self
    rw [List.length_cons, pairsD, encP, List.append_assoc, List.append_assoc, textD_enc h1.1]
    simp only
    rw [textD_enc h1.2]
    simp only
    rw [pairsD_enc l _ r (fun p hp => h p (List.mem_cons_of_mem _ hp))]
    simp
theorem encP_len : ∀ (l : List (List Int × List Int)), l.length ≤ (encP l).length
  | [] => Nat.le_refl _
  | (a, b) :: l => by
    have h1 : 1 ≤ (encT a).length := by
      unfold encT
      rw [enc]
      split <;> simp <;> omega
    have := encP_len l
    rw [encP, List.length_append, List.length_append, List.length_cons]
    omega
theorem fieldsD_enc {l : List (List Int × List Int)} (hl : l.length < 2 ^ 64) (h : ∀ p ∈ l, p.1.length < 2 ^ 64 ∧ p.2.length < 2 ^ 64) (r : List Int) : fieldsD (encF l ++ r) = some (l, r) := by
  unfold fieldsD encF
  rw [List.append_assoc, numD_enc hl]
  simp only
  rw [if_pos (by rw [List.length_append]; have := encP_len l; omega), pairsD_enc l [] r h, List.nil_append]
end Go.Proofs.Ythbapljhhglamaa.CodeL
