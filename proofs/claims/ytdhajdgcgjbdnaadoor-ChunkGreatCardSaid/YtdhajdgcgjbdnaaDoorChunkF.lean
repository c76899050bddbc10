/- What is written is read back. -/
import Derived.Test.YtdhajdgcgjbdnaaDoorChunkRd
import Derived.Test.YtdhajdgcgjbdnaaDoorChunkBy
set_option linter.unusedVariables false
set_option linter.unusedSimpArgs false
namespace Go.Proofs.YtdhajdgcgjbdnaaDoor.Chunk
open Go.RowKit Go.Proofs.YtdhajdgcgjbdnaaDoor.G Go.Proofs.YtdhajdgcgjbdnaaDoorW.PrintWords Go.Proofs.YtdhajdgcgjbdnaaDoorW.PrintMore Go.Proofs.YtdhajdgcgjbdnaaDoor.Plain

/-! Digits -/
theorem hexV_hexC : ∀ d : Fin 16, hexV (hexC d.val) = (d.val : Int) := by decide +kernel
def val16 (n : Nat) (l : List Int) : Nat := l.foldl (fun n c => n * 16 + (hexV c).toNat) n
theorem val16_hexT : ∀ (f u : Nat), u < 16 ^ (f + 1) → val16 0 (hexT f u) = u := by
  intro f
  induction f with
  | zero =>
    intro u hu
    have hu : u < 16 := by simpa using hu
    have := hexV_hexC ⟨u, hu⟩
    simp only at this
    simp [hexT, val16, this]
  | succ f ih =>
    intro u hu
    rw [hexT]
    split
    · rename_i h
      have := hexV_hexC ⟨u, h⟩
      simp only at this
      simp [val16, this]
    · have h2 : u / 16 < 16 ^ (f + 1) := by rw [Nat.div_lt_iff_lt_mul (by decide), ← Nat.pow_succ]; exact hu
      have h3 := ih (u / 16) h2
      have := hexV_hexC ⟨u % 16, Nat.mod_lt _ (by decide)⟩
      simp only at this
      unfold val16 at h3 ⊢
      rw [List.foldl_append, h3]
      simp only [List.foldl_cons, List.foldl_nil, this, Int.toNat_natCast]
      omega
theorem hexT_dig : ∀ (f u : Nat), u < 16 ^ (f + 1) → ∀ c ∈ hexT f u, 0 ≤ hexV c ∧ 48 ≤ c ∧ c ≤ 102 := by
  have key : ∀ d : Fin 16, 0 ≤ hexV (hexC d.val) ∧ 48 ≤ hexC d.val ∧ hexC d.val ≤ 102 := by decide +kernel
  intro f
  induction f with
  | zero =>
    intro u hu c hc
    have hu : u < 16 := by simpa using hu
    rw [hexT, List.mem_singleton] at hc
    subst hc
    exact key ⟨u, hu⟩
  | succ f ih =>
    intro u hu c hc
    rw [hexT] at hc
    split at hc
    · rename_i h
      rw [List.mem_singleton] at hc
      subst hc
      exact key ⟨u, h⟩
    · rw [List.mem_append, List.mem_singleton] at hc
      rcases hc with hc | rfl
      · exact ih (u / 16) (by rw [Nat.div_lt_iff_lt_mul (by decide), ← Nat.pow_succ]; exact hu) c hc
      · exact key ⟨u % 16, Nat.mod_lt _ (by decide)⟩
theorem hexT_len : ∀ (m f u : Nat), u < 16 ^ m → 1 ≤ m → (hexT f u).length ≤ m := by
  intro m
  induction m with
  | zero => intro f u _ h; omega
  | succ m ih =>
    intro f u hu _
    cases f with
    | zero => simp [hexT]
    | succ f =>
      rw [hexT]
      split
      · simp
      · rename_i h
        rcases Nat.eq_zero_or_pos m with hm | hm
        · subst hm
          have : u < 16 := by simpa using hu
          exact absurd this h
        · have := ih f (u / 16) (by rw [Nat.div_lt_iff_lt_mul (by decide), ← Nat.pow_succ]; exact hu) hm
          simp only [List.length_append, List.length_singleton]
          omega
theorem lenG_dig (T : List Int → Bool) : ∀ (l : List Int) (i n : Nat), (∀ c ∈ l, 0 ≤ hexV c) → i + l.length ≤ 8 → 0 < i + l.length → lenG T l i n = some (val16 n l) := by
  intro l
  induction l with
  | nil =>
    intro i n _ _ h0
    rw [lenG, if_pos (by simpa using h0)]
    rfl
  | cons c t ih =>
    intro i n hd hl h0
    simp only [List.length_cons] at hl
    rw [lenG, if_neg (by have := hd c (List.mem_cons_self); omega), if_neg (by omega)]
    exact ih (i + 1) _ (fun x hx => hd x (List.mem_cons_of_mem _ hx)) (by omega) (by omega)
theorem lineG_ok : ∀ (s r : List Int) (k : Nat), (∀ c ∈ s, c ≠ 13 ∧ c ≠ 10) → k + s.length ≤ 1024 → lineG (s ++ (13 :: 10 :: r)) k = .ok (s, r) := by
  intro s
  induction s with
  | nil =>
    intro r k _ _
    rw [List.nil_append, lineG, if_pos rfl]
    rfl
  | cons c t ih =>
    intro r k hs hl
    simp only [List.length_cons] at hl
    have hc := hs c (List.mem_cons_self)
    rw [List.cons_append, lineG, if_neg hc.1, if_neg (by omega), ih r (k + 1) (fun x hx => hs x (List.mem_cons_of_mem _ hx)) (by omega)]
    rfl
/-! Chunks -/
def ck (ys : List Int) : List Int := hexT 15 ys.length ++ (13 :: 10 :: (ys ++ [13, 10]))
theorem chunkT_ck (o ys : List Int) : chunkT o ys = o ++ ck ys := by simp [chunkT, ck]
theorem encS_ck (xs : List Int) (z : Nat) : ∀ l : List Nat, encS xs z l = (l.map (piece xs z)).flatMap ck := by
  intro l
  have key : ∀ (l : List Nat) (o : List Int), l.foldl (fun o i => chunkT o (piece xs z i)) o = o ++ (l.map (piece xs z)).flatMap ck := by
    intro l
    induction l with
    | nil => intro o; simp
    | cons i l ih =>
      intro o
      rw [List.foldl_cons, ih, chunkT_ck]
      simp
  have := key l []
  simpa [encS] using this
theorem ck_ne (ys : List Int) : 1 ≤ (ck ys).length := by
  unfold ck
  simp only [List.length_append, List.length_cons]
  omega
theorem body_ck (T P : List Int → Bool) (ys r o : List Int) (f : Nat) (h1 : 1 ≤ ys.length) (h2 : ys.length + o.length ≤ 65536) : bodyG T P (f + 1) (ck ys ++ r) o = bodyG T P f r (o ++ ys) := by
  have hu : ys.length < 16 ^ 5 := Nat.lt_of_le_of_lt (show ys.length ≤ 65536 by omega) (by decide)
  have hu16 : ys.length < 16 ^ 16 := Nat.lt_trans hu (by decide)
  have hd := hexT_dig 15 ys.length hu16
  have hl := hexT_len 5 15 ys.length hu (by decide)
  have h0 := (hexT_length 15 ys.length).2
  have e1 : ck ys ++ r = hexT 15 ys.length ++ (13 :: 10 :: (ys ++ 13 :: 10 :: r)) := by simp [ck]
  have e2 := lineG_ok (hexT 15 ys.length) (ys ++ 13 :: 10 :: r) 0 (fun c hc => by have := hd c hc; omega) (by omega)
  have e3 : lenG T (hexT 15 ys.length) 0 0 = some ys.length := by
    rw [lenG_dig T _ 0 0 (fun c hc => (hd c hc).1) (by omega) (by omega), val16_hexT 15 ys.length hu16]
  rw [bodyG, e1, e2]
  dsimp only
  rw [e3]
  dsimp only
  rw [if_neg (by omega), if_neg (by omega), if_neg (by simp), List.drop_left, List.take_left]
  rfl
theorem body_cks (T P : List Int → Bool) : ∀ (L : List (List Int)) (r o : List Int) (f : Nat), (∀ y ∈ L, 1 ≤ y.length) → L.flatten.length + o.length ≤ 65536 → bodyG T P (f + L.length) (L.flatMap ck ++ r) o = bodyG T P f r (o ++ L.flatten) := by
  intro L
  induction L with
  | nil => intro r o f _ _; simp
  | cons y L ih =>
    intro r o f hy hl
    simp only [List.flatten_cons, List.length_append] at hl
    rw [List.flatMap_cons, List.length_cons, show f + (L.length + 1) = (f + L.length) + 1 by omega, List.append_assoc, body_ck T P y _ o _ (hy y (List.mem_cons_self)) (by omega), ih r (o ++ y) f (fun x hx => hy x (List.mem_cons_of_mem _ hx)) (by rw [List.length_append]; omega)]
    simp
/-- More rounds than bytes say the same. -/
theorem body_fuel (T P : List Int → Bool) : ∀ (n : Nat) (l o : List Int) (f g : Nat), l.length ≤ n → l.length < f → l.length < g → bodyG T P f l o = bodyG T P g l o := by
  intro n
  induction n with
  | zero =>
    intro l o f g hn hf hg
    obtain rfl := List.length_eq_zero_iff.1 (Nat.le_zero.1 hn)
    obtain ⟨f, rfl⟩ : ∃ f', f = f' + 1 := ⟨f - 1, by omega⟩
    obtain ⟨g, rfl⟩ : ∃ f', g = f' + 1 := ⟨g - 1, by omega⟩
    rw [bodyG, bodyG]
    rfl
  | succ n ih =>
    intro l o f g hn hf hg
    obtain ⟨f, rfl⟩ : ∃ f', f = f' + 1 := ⟨f - 1, by omega⟩
    obtain ⟨g, rfl⟩ : ∃ f', g = f' + 1 := ⟨g - 1, by omega⟩
    rw [bodyG, bodyG]
    cases e : lineG l 0 with
    | bad e => rfl
    | ok a =>
      obtain ⟨s, r⟩ := a
      obtain ⟨h1, _, _⟩ := lineG_length _ _ _ _ e
      dsimp only
      cases e2 : lenG T s 0 0 with
      | none => rfl
      | some m =>
        dsimp only
        split
        · rfl
        · split
          · rfl
          · split
            · rfl
            · cases e3 : endG (r.drop m) with
              | bad e => rfl
              | ok r2 =>
                have h2 := (endG_length _ _ e3).1
                rw [List.length_drop] at h2
                exact ih r2 _ f g (by omega) (by omega) (by omega)
theorem flat_len (L : List (List Int)) : L.length ≤ (L.flatMap ck).length := by
  induction L with
  | nil => simp
  | cons y L ih =>
    have := ck_ne y
    simp only [List.flatMap_cons, List.length_cons, List.length_append]
    omega
/-- Chunks, and what follows them. -/
theorem open_cks (L : List (List Int)) (r : List Int) (h1 : ∀ y ∈ L, 1 ≤ y.length) (h2 : L.flatten.length ≤ 65536) : openG (L.flatMap ck ++ r) = bodyG textL fieldL (r.length + 1) r L.flatten := by
  unfold openG
  have hf := flat_len L
  rw [body_fuel textL fieldL _ _ _ ((L.flatMap ck ++ r).length + 1) ((L.flatMap ck ++ r).length + 1 + L.length) (Nat.le_refl _) (by omega) (by omega), body_cks textL fieldL L r [] _ h1 (by simpa using h2), List.nil_append]
  exact body_fuel textL fieldL _ _ _ _ _ (Nat.le_refl _) (by rw [List.length_append]; omega) (by omega)
theorem pieces_flat (xs : List Int) (z : Nat) : ∀ k, ((starts z k).map (piece xs z)).flatten = xs.take (k * z) := by
  intro k
  induction k with
  | zero => simp [starts]
  | succ k ih =>
    rw [starts_succ, List.map_append, List.flatten_append, ih, List.map_singleton, List.flatten_singleton, Nat.succ_mul, List.take_add]
    congr 1
    unfold piece
    rw [show min z (xs.length - k * z) = min z (xs.drop (k * z)).length by rw [List.length_drop], ← List.take_take, List.take_length]
theorem pieces_ne (xs : List Int) (z k : Nat) (hz : 1 ≤ z) (hk : k = 0 ∨ (k - 1) * z < xs.length) : ∀ y ∈ (starts z k).map (piece xs z), 1 ≤ y.length := by
  intro y hy
  obtain ⟨i, hi, rfl⟩ := List.mem_map.1 hy
  unfold starts at hi
  obtain ⟨j, hj, rfl⟩ := List.mem_map.1 hi
  rw [List.mem_range] at hj
  rw [piece_length]
  rcases hk with h | h
  · omega
  · have := Nat.mul_le_mul_right z (show j ≤ k - 1 by omega)
    omega
/-- A body that was written, and what follows it. -/
theorem open_enc (xs r : List Int) (z k : Nat) (hz : 1 ≤ z) (hk1 : xs.length ≤ k * z) (hk2 : k = 0 ∨ (k - 1) * z < xs.length) (hl : xs.length ≤ 65536) : openG (encS xs z (starts z k) ++ r) = bodyG textL fieldL (r.length + 1) r xs := by
  have hfl : ((starts z k).map (piece xs z)).flatten = xs := by rw [pieces_flat, List.take_of_length_le hk1]
  rw [encS_ck, open_cks _ r (pieces_ne xs z k hz hk2) (by rw [hfl]; exact hl), hfl]
end Go.Proofs.YtdhajdgcgjbdnaaDoor.Chunk
