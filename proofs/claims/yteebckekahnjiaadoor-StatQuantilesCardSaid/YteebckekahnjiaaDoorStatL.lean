/- Counters, in plain lists: what is counted, put together, told. -/
set_option linter.unusedVariables false
namespace Go.Proofs.YteebckekahnjiaaDoor.StatL

def bl (n : Nat) : Nat := if n = 0 then 0 else bl (n / 2) + 1
termination_by n
decreasing_by omega
theorem bl_zero : bl 0 = 0 := by rw [bl, if_pos rfl]
theorem bl_pos {n : Nat} (h : 0 < n) : bl n = bl (n / 2) + 1 := by rw [bl, if_neg (by omega)]
theorem bl_lt (n : Nat) : n < 2 ^ bl n := by
  induction n using Nat.strongRecOn with
  | ind n ih =>
    rcases Nat.eq_zero_or_pos n with rfl | h
    · rw [bl_zero]; decide
    · have := ih (n / 2) (by omega)
      rw [bl_pos h, Nat.pow_succ]
      omega
theorem bl_ge (n : Nat) : 2 ^ bl n ≤ 2 * n + 1 := by
  induction n using Nat.strongRecOn with
  | ind n ih =>
    rcases Nat.eq_zero_or_pos n with rfl | h
    · rw [bl_zero]; decide
    · have := ih (n / 2) (by omega)
      rw [bl_pos h, Nat.pow_succ]
      rcases Nat.eq_zero_or_pos (n / 2) with h0 | h0
      · rw [h0, bl_zero] at this ⊢; omega
      · have hb : 2 ^ bl (n / 2) % 2 = 0 := by rw [bl_pos h0, Nat.pow_succ]; omega
        omega
theorem bl_mono {m n : Nat} (h : m ≤ n) : bl m ≤ bl n := by
  rcases Nat.lt_or_ge (bl n) (bl m) with hlt | hge
  · exfalso
    have h1 := bl_ge m
    have h2 := bl_lt n
    have h3 : 2 ^ (bl n + 1) ≤ 2 ^ bl m := Nat.pow_le_pow_right (by decide) hlt
    rw [Nat.pow_succ] at h3
    omega
  · exact hge
theorem bl_le31 {n : Nat} (h : n ≤ 1073741824) : bl n ≤ 31 := by
  rcases Nat.lt_or_ge 31 (bl n) with hlt | hge
  · exfalso
    have h1 := bl_ge n
    have h3 : 2 ^ 32 ≤ 2 ^ bl n := Nat.pow_le_pow_right (by decide) hlt
    have : (2 : Nat) ^ 32 = 4294967296 := by decide
    omega
  · exact hge

def bump (l : List Int) (i : Nat) (x : Int) : List Int := l.set i (l.getD i 0 + x)
theorem bump_length (l : List Int) (i : Nat) (x : Int) : (bump l i x).length = l.length := List.length_set ..
theorem getD_bump (l : List Int) (i : Nat) (x : Int) (j : Nat) (hi : i < l.length) : (bump l i x).getD j 0 = if j = i then l.getD j 0 + x else l.getD j 0 := by
  unfold bump
  rw [List.getD_eq_getElem?_getD, List.getD_eq_getElem?_getD]
  by_cases h : j = i
  · subst h; rw [List.getElem?_set_self hi, if_pos rfl, List.getD_eq_getElem?_getD]; rfl
  · rw [List.getElem?_set_ne (fun e => h e.symm), if_neg h, List.getD_eq_getElem?_getD]
def siz (n : Int) : Int := min (max n 0) 1073741824
theorem siz_bd (n : Int) : 0 ≤ siz n ∧ siz n ≤ 1073741824 := by unfold siz; omega
def add1 (l : List Int) (how : Int) : List Int := if 0 ≤ how ∧ how < 6 then bump l how.toNat 1 else l
def add2 (l : List Int) (status : Int) : List Int := if 1 ≤ status.tdiv 100 ∧ status.tdiv 100 ≤ 5 then bump l (6 + (status.tdiv 100).toNat) 1 else l
def add3 (l : List Int) (size : Int) : List Int := bump (bump l 44 (siz size)) (12 + bl (siz size).toNat) 1
def add (l : List Int) (how status size : Int) : List Int := add3 (add2 (add1 l how) status) size
/-- At most n were counted. -/
structure Bd (n : Nat) (l : List Int) : Prop where
  len : l.length = 45
  lo : ∀ i, i < 44 → 0 ≤ l.getD i 0 ∧ l.getD i 0 ≤ n
  all : 0 ≤ l.getD 44 0 ∧ l.getD 44 0 ≤ n * 1073741824
def zero : List Int := List.replicate 45 0
theorem zero_at (i : Nat) : zero.getD i 0 = 0 := by
  unfold zero
  rw [List.getD_eq_getElem?_getD, List.getElem?_replicate]
  split <;> rfl
theorem Bd.zero : Bd 0 zero := ⟨by decide, fun i _ => by rw [zero_at]; omega, by rw [zero_at]; omega⟩
theorem Bd.mono {n m : Nat} {l : List Int} (h : Bd n l) (hm : n ≤ m) : Bd m l := ⟨h.len, fun i hi => by have := h.lo i hi; omega, by have := h.all; omega⟩
theorem add1_at (l : List Int) (how : Int) (j : Nat) (hl : l.length = 45) : (add1 l how).length = 45 ∧ ((add1 l how).getD j 0 = l.getD j 0 ∨ (j < 6 ∧ (add1 l how).getD j 0 = l.getD j 0 + 1)) := by
  unfold add1
  split
  · refine ⟨by rw [bump_length, hl], ?_⟩
    rw [getD_bump _ _ _ _ (by omega)]
    split
    · right; omega
    · left; rfl
  · exact ⟨hl, .inl rfl⟩
theorem add2_at (l : List Int) (status : Int) (j : Nat) (hl : l.length = 45) : (add2 l status).length = 45 ∧ ((add2 l status).getD j 0 = l.getD j 0 ∨ (6 ≤ j ∧ j < 12 ∧ (add2 l status).getD j 0 = l.getD j 0 + 1)) := by
  unfold add2
  split
  · refine ⟨by rw [bump_length, hl], ?_⟩
    rw [getD_bump _ _ _ _ (by omega)]
    split
    · right; omega
    · left; rfl
  · exact ⟨hl, .inl rfl⟩
theorem siz_nat (size : Int) : bl (siz size).toNat ≤ 31 := bl_le31 (by have := siz_bd size; omega)
theorem add3_at (l : List Int) (size : Int) (j : Nat) (hl : l.length = 45) : (add3 l size).length = 45 ∧ (add3 l size).getD j 0 = l.getD j 0 + (if j = 44 then siz size else 0) + (if j = 12 + bl (siz size).toNat then 1 else 0) := by
  unfold add3
  have h31 := siz_nat size
  refine ⟨by rw [bump_length, bump_length, hl], ?_⟩
  rw [getD_bump _ _ _ _ (by rw [bump_length]; omega), getD_bump _ _ _ _ (by omega)]
  by_cases h1 : j = 12 + bl (siz size).toNat
  · rw [if_pos h1, if_neg (by omega), if_neg (by omega), if_pos h1]; omega
  · rw [if_neg h1, if_neg h1]
    by_cases h2 : j = 44
    · rw [if_pos h2, if_pos h2]; omega
    · rw [if_neg h2, if_neg h2]; omega
theorem Bd.add {n : Nat} {l : List Int} (h : Bd n l) (how status size : Int) : Bd (n + 1) (add l how status size) := by
  have hs := siz_bd size
  have h31 := siz_nat size
  have e1 := fun j => add1_at l how j h.len
  have e2 := fun j => add2_at (add1 l how) status j (e1 0).1
  have e3 := fun j => add3_at (add2 (add1 l how) status) size j (e2 0).1
  unfold StatL.add
  generalize add1 l how = l1 at e1 e2 e3 ⊢
  generalize add2 l1 status = l2 at e2 e3 ⊢
  refine ⟨(e3 0).1, fun i hi => ?_, ?_⟩
  · have hl := h.lo i hi
    have a1 := (e1 i).2
    have a2 := (e2 i).2
    have a3 := (e3 i).2
    rw [if_neg (by omega)] at a3
    rw [a3]
    by_cases hi12 : i < 12
    · rw [if_neg (by omega)]
      rcases a1 with a1 | ⟨_, a1⟩ <;> rcases a2 with a2 | ⟨_, _, a2⟩ <;> rw [a2, a1] <;> omega
    · rcases a1 with a1 | ⟨_, a1⟩
      · rcases a2 with a2 | ⟨_, _, a2⟩
        · rw [a2, a1]; split <;> omega
        · omega
      · omega
  · have hl := h.all
    have a1 := (e1 44).2
    have a2 := (e2 44).2
    have a3 := (e3 44).2
    rw [if_pos rfl, if_neg (by omega)] at a3
    rw [a3]
    rcases a1 with a1 | ⟨_, a1⟩
    · rcases a2 with a2 | ⟨_, _, a2⟩
      · rw [a2, a1]; omega
      · omega
    · omega
/-- The first k numbers put together. -/
def mg (k : Nat) (l m : List Int) : List Int := (List.range 45).map fun i => if i < k then l.getD i 0 + m.getD i 0 else l.getD i 0
theorem mg_length (k : Nat) (l m : List Int) : (mg k l m).length = 45 := by simp [mg]
theorem mg_at (k : Nat) (l m : List Int) (i : Nat) (hi : i < 45) : (mg k l m).getD i 0 = if i < k then l.getD i 0 + m.getD i 0 else l.getD i 0 := by
  unfold mg
  rw [List.getD_eq_getElem?_getD, List.getElem?_map, List.getElem?_range hi]
  rfl
theorem ext45 {l m : List Int} (hl : l.length = 45) (hm : m.length = 45) (h : ∀ i, i < 45 → l.getD i 0 = m.getD i 0) : l = m := by
  apply List.ext_getElem?
  intro i
  by_cases hi : i < 45
  · have := h i hi
    rw [List.getD_eq_getElem?_getD, List.getD_eq_getElem?_getD, List.getElem?_eq_getElem (by omega), List.getElem?_eq_getElem (by omega)] at this
    rw [List.getElem?_eq_getElem (by omega), List.getElem?_eq_getElem (by omega)]
    exact congrArg some this
  · rw [List.getElem?_eq_none (by omega), List.getElem?_eq_none (by omega)]
theorem mg_zero {l m : List Int} (hl : l.length = 45) : mg 0 l m = l := ext45 (mg_length ..) hl fun i hi => by rw [mg_at _ _ _ _ hi, if_neg (by omega)]
theorem mg_step (k : Nat) (l m : List Int) (hk : k < 45) : bump (mg k l m) k (m.getD k 0) = mg (k + 1) l m := by
  refine ext45 (by rw [bump_length, mg_length]) (mg_length ..) fun i hi => ?_
  rw [getD_bump _ _ _ _ (by rw [mg_length]; exact hk), mg_at _ _ _ _ hi, mg_at _ _ _ _ hi]
  by_cases h : i = k
  · subst h
    rw [if_pos rfl, if_neg (by omega), if_pos (by omega)]
  · rw [if_neg h]
    by_cases h2 : i < k
    · rw [if_pos h2, if_pos (by omega)]
    · rw [if_neg h2, if_neg (by omega)]
theorem mg_own (k : Nat) (l m : List Int) (hk : k < 45) : (mg k l m).getD k 0 = l.getD k 0 := by rw [mg_at _ _ _ _ hk, if_neg (by omega)]
theorem Bd.mg {n m : Nat} {a b : List Int} (ha : Bd n a) (hb : Bd m b) : Bd (n + m) (mg 45 a b) :=
  ⟨mg_length .., fun i hi => by rw [mg_at _ _ _ _ (by omega), if_pos (by omega)]; have := ha.lo i hi; have := hb.lo i hi; omega, by rw [mg_at _ _ _ _ (by omega), if_pos (by omega)]; have := ha.all; have := hb.all; omega⟩
theorem mg_comm (a b : List Int) : mg 45 a b = mg 45 b a := ext45 (mg_length ..) (mg_length ..) fun i hi => by rw [mg_at _ _ _ _ hi, mg_at _ _ _ _ hi, if_pos hi, if_pos hi]; omega
theorem mg_nought {a : List Int} (ha : a.length = 45) : mg 45 zero a = a := ext45 (mg_length ..) ha fun i hi => by rw [mg_at _ _ _ _ hi, if_pos hi, zero_at]; omega
def sizes (l : List Int) : List Int := (l.drop 12).take 32
theorem sizes_length {l : List Int} (h : l.length = 45) : (sizes l).length = 32 := by simp [sizes, h]
theorem sizes_at {l : List Int} (i : Nat) (hi : i < 32) : (sizes l).getD i 0 = l.getD (12 + i) 0 := by
  simp [sizes, List.getD_eq_getElem?_getD, hi]
def sm : List Int → Int
  | [] => 0
  | x :: r => x + sm r
theorem sm_append (a b : List Int) : sm (a ++ b) = sm a + sm b := by
  induction a with
  | nil => simp [sm]
  | cons x r ih => simp [sm, ih]; omega
theorem sm_bd {n : Nat} : ∀ (l : List Int), (∀ x ∈ l, 0 ≤ x ∧ x ≤ n) → 0 ≤ sm l ∧ sm l ≤ l.length * n
  | [], _ => by simp [sm]
  | x :: r, h => by
    have h1 := h x List.mem_cons_self
    have h2 := sm_bd r fun y hy => h y (List.mem_cons_of_mem _ hy)
    simp only [sm, List.length_cons]
    have : ((r.length + 1 : Nat) : Int) * n = r.length * n + n := by rw [Int.natCast_add, Int.add_mul]; simp
    omega
theorem sizes_bd {n : Nat} {l : List Int} (h : Bd n l) : ∀ x ∈ sizes l, 0 ≤ x ∧ x ≤ n := by
  intro x hx
  obtain ⟨i, hi, rfl⟩ := List.mem_iff_getElem.1 hx
  have hl := sizes_length h.len
  have := sizes_at (l := l) i (by omega)
  rw [List.getD_eq_getElem?_getD, List.getElem?_eq_getElem hi] at this
  have h2 := h.lo (12 + i) (by omega)
  rw [show (sizes l)[i] = l.getD (12 + i) 0 from this]
  exact h2
def nth (l : List Int) (i : Nat) : Int := l.getD i 0
def ofV (l : List Int) (how : Int) : Int := if how < 0 ∨ 6 ≤ how then 0 else nth l how.toNat
def classV (l : List Int) (n : Int) : Int := if n < 1 ∨ 5 < n then 0 else nth l (6 + n.toNat)
/-- Below which size so many were. -/
def quantGo : List Int → Nat → Int → Int
  | [], _, _ => 0
  | n :: r, i, w => if w - n ≤ 0 then 2 ^ i - 1 else quantGo r (i + 1) (w - n)
def clamp (per : Int) : Int := min (max per 0) 100
def want (total per : Int) : Int := max ((total * clamp per + 99) / 100) 1
def quant (l : List Int) (per : Int) : Int := quantGo (sizes l) 0 (want (sm (sizes l)) per)
theorem quantGo_nought : ∀ (l : List Int) (i : Nat) (w : Int), (∀ x ∈ l, 0 ≤ x) → sm l = 0 → 1 ≤ w → quantGo l i w = 0
  | [], _, _, _, _, _ => rfl
  | x :: r, i, w, h, hs, hw => by
    have hx := h x List.mem_cons_self
    have hr : 0 ≤ sm r := by
      clear hs
      induction r with
      | nil => exact Int.le_refl _
      | cons y r ih =>
        have := h y (by simp)
        have := ih fun z hz => h z (by simp at hz ⊢; rcases hz with rfl | hz <;> simp [*])
        simp only [sm]; omega
    simp only [sm] at hs
    rw [quantGo, if_neg (by omega)]
    exact quantGo_nought r _ _ (fun y hy => h y (List.mem_cons_of_mem _ hy)) (by omega) (by omega)
theorem quant_nought {n : Nat} {l : List Int} (h : Bd n l) (hs : sm (sizes l) = 0) (per : Int) : quant l per = 0 := by
  unfold quant
  exact quantGo_nought _ _ _ (fun x hx => (sizes_bd h x hx).1) hs (by unfold want; omega)
theorem pow_le {i j : Nat} (h : i ≤ j) : (2 : Int) ^ i ≤ 2 ^ j := by
  have := Nat.pow_le_pow_right (n := 2) (by decide) h
  have e : ∀ k : Nat, ((2 ^ k : Nat) : Int) = (2 : Int) ^ k := fun k => by simp
  rw [← e, ← e]; omega
theorem quantGo_ge : ∀ (l : List Int) (i : Nat) (w : Int), 1 ≤ w → w ≤ sm l → (2 : Int) ^ i - 1 ≤ quantGo l i w
  | [], _, w, h1, h2 => by simp only [sm] at h2; omega
  | x :: r, i, w, h1, h2 => by
    simp only [sm] at h2
    rw [quantGo]
    split
    · omega
    · have := quantGo_ge r (i + 1) (w - x) (by omega) (by omega)
      have := pow_le (i := i) (j := i + 1) (by omega)
      omega
theorem quantGo_mono : ∀ (l : List Int) (i : Nat) (w w' : Int), (∀ x ∈ l, 0 ≤ x) → w ≤ w' → w' ≤ sm l → quantGo l i w ≤ quantGo l i w'
  | [], _, _, _, _, _, _ => Int.le_refl _
  | x :: r, i, w, w', h, h1, h2 => by
    simp only [sm] at h2
    rw [quantGo, quantGo]
    by_cases hb : w' - x ≤ 0
    · rw [if_pos hb, if_pos (by omega)]; exact Int.le_refl _
    · rw [if_neg hb]
      by_cases ha : w - x ≤ 0
      · rw [if_pos ha]
        have := quantGo_ge r (i + 1) (w' - x) (by omega) (by omega)
        have := pow_le (i := i) (j := i + 1) (by omega)
        omega
      · rw [if_neg ha]
        exact quantGo_mono r _ _ _ (fun y hy => h y (List.mem_cons_of_mem _ hy)) (by omega) (by omega)
theorem sm_nought : ∀ (l : List Int), (∀ x ∈ l, x = 0) → sm l = 0
  | [], _ => rfl
  | x :: r, h => by
    have := h x List.mem_cons_self
    have := sm_nought r fun y hy => h y (List.mem_cons_of_mem _ hy)
    simp only [sm]; omega
theorem quantGo_last : ∀ (l : List Int) (i k : Nat), (∀ x ∈ l, 0 ≤ x) → 1 ≤ l.getD k 0 → (∀ j, k < j → l.getD j 0 = 0) → quantGo l i (sm l) = 2 ^ (i + k) - 1
  | [], _, _, _, h, _ => by simp at h
  | x :: r, i, k, h, hk, h0 => by
    have hx := h x List.mem_cons_self
    simp only [sm]
    rw [quantGo]
    cases k with
    | zero =>
      have : sm r = 0 := sm_nought r fun y hy => by
        obtain ⟨j, hj, rfl⟩ := List.mem_iff_getElem.1 hy
        have := h0 (j + 1) (by omega)
        simpa [List.getD_eq_getElem?_getD, List.getElem?_eq_getElem hj] using this
      rw [if_pos (by omega)]
      rfl
    | succ k =>
      have hk' : 1 ≤ r.getD k 0 := by simpa using hk
      have h0' : ∀ j, k < j → r.getD j 0 = 0 := fun j hj => by simpa using h0 (j + 1) (by omega)
      have h' : ∀ y ∈ r, 0 ≤ y := fun y hy => h y (List.mem_cons_of_mem _ hy)
      have hs : 1 ≤ sm r := by
        clear h0 h0' hk h hx
        induction r generalizing k with
        | nil => simp at hk'
        | cons y r ih =>
          have hy := h' y List.mem_cons_self
          simp only [sm]
          cases k with
          | zero =>
            have : 0 ≤ sm r := by
              have h2 : ∀ z ∈ r, 0 ≤ z := fun z hz => h' z (List.mem_cons_of_mem _ hz)
              clear ih hk' h' hy
              induction r with
              | nil => exact Int.le_refl _
              | cons z r ih2 =>
                have := h2 z List.mem_cons_self
                have := ih2 fun u hu => h2 u (List.mem_cons_of_mem _ hu)
                simp only [sm]; omega
            have hk2 : 1 ≤ y := by simpa using hk'
            omega
          | succ k =>
            have := ih k (by simpa using hk') (fun z hz => h' z (List.mem_cons_of_mem _ hz))
            omega
      rw [if_neg (by omega), show x + sm r - x = sm r by omega, quantGo_last r (i + 1) k h' hk' h0', show i + 1 + k = i + (k + 1) by omega]
/-- What is known of sizes that were counted, the greatest of them most. -/
structure Qs (n : Nat) (most : Nat) (l : List Int) : Prop where
  bd : Bd n l
  le : most ≤ 1073741823
  none : ∀ i, bl most < i → i < 32 → l.getD (12 + i) 0 = 0
  one : 0 < n → 1 ≤ l.getD (12 + bl most) 0
  start : n = 0 → most = 0
theorem Qs.zero : Qs 0 0 zero := ⟨Bd.zero, by decide, fun i _ _ => zero_at _, fun h => absurd h (by decide), fun _ => rfl⟩
theorem Qs.add {n most : Nat} {l : List Int} (h : Qs n most l) (x : Nat) (hx : x ≤ 1073741823) : Qs (n + 1) (max most x) (add l 0 200 (x : Int)) := by
  have hsz : siz (x : Int) = (x : Int) := by unfold siz; omega
  have e1 := fun j => add1_at l 0 j h.bd.len
  have e2 := fun j => add2_at (add1 l 0) 200 j (e1 0).1
  have e3 := fun j => add3_at (add2 (add1 l 0) 200) (x : Int) j (e2 0).1
  have hb := h.bd.add 0 200 (x : Int)
  unfold StatL.add at hb ⊢
  generalize add1 l 0 = l1 at hb e1 e2 e3 ⊢
  generalize add2 l1 200 = l2 at hb e2 e3 ⊢
  have key : ∀ i, i < 32 → (add3 l2 (x : Int)).getD (12 + i) 0 = l.getD (12 + i) 0 + (if i = bl x then 1 else 0) := fun i hi => by
    have a1 := (e1 (12 + i)).2
    have a2 := (e2 (12 + i)).2
    have a3 := (e3 (12 + i)).2
    rw [hsz, Int.toNat_natCast, if_neg (by omega)] at a3
    rw [a3]
    have hif : (if 12 + i = 12 + bl x then (1 : Int) else 0) = if i = bl x then 1 else 0 := by
      by_cases h : i = bl x
      · rw [if_pos h, if_pos (by omega)]
      · rw [if_neg h, if_neg (by omega)]
    rcases a1 with a1 | ⟨_, a1⟩
    · rcases a2 with a2 | ⟨_, _, a2⟩
      · rw [a2, a1, hif]; omega
      · omega
    · omega
  have hx31 : bl x ≤ 31 := bl_le31 (by omega)
  have hm31 : bl most ≤ 31 := bl_le31 (by have := h.le; omega)
  refine ⟨hb, by have := h.le; omega, fun i hi h32 => ?_, fun _ => ?_, fun h => absurd h (by omega)⟩
  · have h1 := bl_mono (show most ≤ max most x by omega)
    have h2 := bl_mono (show x ≤ max most x by omega)
    rw [key i h32, h.none i (by omega) h32, if_neg (by omega)]
    omega
  · rcases Nat.le_total most x with hle | hle
    · rw [show max most x = x by omega, key _ (by omega), if_pos rfl]
      have := (h.bd.lo (12 + bl x) (by omega)).1
      omega
    · rw [show max most x = most by omega, key _ (by omega)]
      by_cases hn : 0 < n
      · have := h.one hn
        split <;> omega
      · -- nothing was counted: most is the greatest, and x below it
        have h3 := bl_mono hle
        by_cases he : bl most = bl x
        · rw [if_pos he]
          have := (h.bd.lo (12 + bl most) (by omega)).1
          omega
        · exfalso
          have h0 := h.start (by omega)
          exact he (by rw [h0, show x = 0 by omega])
theorem want_bd {total per : Int} (h : 1 ≤ total) : 1 ≤ want total per ∧ want total per ≤ total := by
  have hc : 0 ≤ clamp per ∧ clamp per ≤ 100 := by unfold clamp; omega
  have h1 : total * clamp per ≤ total * 100 := Int.mul_le_mul_of_nonneg_left hc.2 (by omega)
  have h2 : 0 ≤ total * clamp per := Int.mul_nonneg (by omega) hc.1
  unfold want
  generalize total * clamp per = z at h1 h2
  omega
theorem want_mono {total p q : Int} (h : 0 ≤ total) (hpq : p ≤ q) : want total p ≤ want total q := by
  have h1 : total * clamp p ≤ total * clamp q := Int.mul_le_mul_of_nonneg_left (by unfold clamp; omega) h
  unfold want
  generalize total * clamp p = y at h1
  generalize total * clamp q = z at h1
  omega
theorem Qs.total {n most : Nat} {l : List Int} (h : Qs n most l) (hn : 0 < n) : 1 ≤ sm (sizes l) ∧ quantGo (sizes l) 0 (sm (sizes l)) = 2 ^ bl most - 1 := by
  have hm31 : bl most ≤ 31 := bl_le31 (by have := h.le; omega)
  have hz : ∀ x ∈ sizes l, 0 ≤ x := fun x hx => (sizes_bd h.bd x hx).1
  have h1 : 1 ≤ (sizes l).getD (bl most) 0 := by rw [sizes_at _ (by omega)]; exact h.one hn
  have h0 : ∀ j, bl most < j → (sizes l).getD j 0 = 0 := fun j hj => by
    by_cases h32 : j < 32
    · rw [sizes_at _ h32]; exact h.none j hj h32
    · rw [List.getD_eq_getElem?_getD, List.getElem?_eq_none (by rw [sizes_length h.bd.len]; omega)]; rfl
  have hl := quantGo_last (sizes l) 0 (bl most) hz h1 h0
  rw [Nat.zero_add] at hl
  refine ⟨?_, hl⟩
  rcases Int.lt_or_le (sm (sizes l)) 1 with h2 | h2
  · exfalso
    have h3 := (sm_bd (n := n) (sizes l) (sizes_bd h.bd)).1
    have hi : bl most < (sizes l).length := by rw [sizes_length h.bd.len]; omega
    have h4 : ∀ (m : List Int) (k : Nat), (∀ x ∈ m, 0 ≤ x) → m.getD k 0 ≤ sm m := by
      intro m
      induction m with
      | nil => intro k _; simp [sm]
      | cons y r ih =>
        intro k hm
        have hy := hm y List.mem_cons_self
        have h5 := ih 0 fun z hz => hm z (List.mem_cons_of_mem _ hz)
        have hr : 0 ≤ sm r := by
          have h6 := ih r.length fun z hz => hm z (List.mem_cons_of_mem _ hz)
          rw [List.getD_eq_getElem?_getD, List.getElem?_eq_none (Nat.le_refl _)] at h6
          exact h6
        simp only [sm]
        cases k with
        | zero => simp; omega
        | succ k =>
          have := ih k fun z hz => hm z (List.mem_cons_of_mem _ hz)
          have e : (y :: r).getD (k + 1) 0 = r.getD k 0 := by simp
          rw [e]; omega
    have := h4 (sizes l) (bl most) hz
    omega
  · exact h2
/-- More asks for no less; all are at most the last; the least is at least one's. -/
theorem Qs.law {n most : Nat} {l : List Int} (h : Qs n most l) (hn : 0 < n) (p q : Int) (hpq : p ≤ q) :
    quant l p ≤ quant l q ∧ quant l q ≤ quant l 100 ∧ (most : Int) ≤ quant l 100 ∧ quant l 100 ≤ 2 * most := by
  obtain ⟨ht, hlast⟩ := h.total hn
  have hz : ∀ x ∈ sizes l, 0 ≤ x := fun x hx => (sizes_bd h.bd x hx).1
  have h100 : want (sm (sizes l)) 100 = sm (sizes l) := by
    unfold want clamp
    rw [show min (max (100 : Int) 0) 100 = 100 by decide]
    omega
  have hb := fun per => want_bd (per := per) ht
  refine ⟨quantGo_mono _ _ _ _ hz (want_mono (by omega) hpq) (hb q).2, quantGo_mono _ _ _ _ hz (by rw [h100]; exact (hb q).2) (hb 100).2, ?_, ?_⟩
  · unfold quant
    rw [h100, hlast]
    have := bl_lt most
    have e : ((2 ^ bl most : Nat) : Int) = (2 : Int) ^ bl most := by simp
    rw [← e]; omega
  · unfold quant
    rw [h100, hlast]
    have := bl_ge most
    have e : ((2 ^ bl most : Nat) : Int) = (2 : Int) ^ bl most := by simp
    rw [← e]; omega
end Go.Proofs.YteebckekahnjiaaDoor.StatL
