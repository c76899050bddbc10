/- Rows of elements of so many cells, told cell by cell: read, cut, copied, appended to, cleared, made; in a block that is known whole, in a row of the call's own, wherever they are read. -/
import Derived.Test.YtafpaomcmjccaaaFoot2
import Derived.Laws.CopyRow
import Derived.Laws.CopyOwn
import Derived.Laws.MakeOwn
import Derived.Maps.AppendAt
import Derived.Deep.RegionHeld3
import Derived.Laws.Slices
import Derived.Deep.MidRow
set_option linter.unusedVariables false
set_option linter.unusedSimpArgs false
namespace Go.Proofs.Ytafpaomcmjccaaa.Foot
open Go.RowKit Go.Proofs.YtafpaomcmjccaaaW.PrintWords

/-- How an element's cells stand. -/
structure Fl (α : Type) where
  c : α → List Value
  sz : Nat
  pos : 0 < sz
  len : ∀ x, (c x).length = sz
  one : ∀ x, ∀ u ∈ c x, u.oneCell' = true
namespace Fl
section
variable {α : Type} (d : Fl α)
def flat (M : List α) : List Value := M.flatMap d.c
def laid (M : List α) (i : Nat) (xs : List α) : List α := M.take i ++ xs ++ M.drop (i + xs.length)
end
section
variable {α : Type} {d : Fl α}
theorem flat_nil : d.flat [] = [] := rfl
theorem flat_cons (x : α) (M : List α) : d.flat (x :: M) = d.c x ++ d.flat M := by simp [flat]
theorem flat_append (M N : List α) : d.flat (M ++ N) = d.flat M ++ d.flat N := by simp [flat]
theorem flat_length (M : List α) : (d.flat M).length = M.length * d.sz := by
  induction M with
  | nil => simp [flat]
  | cons x M ih => rw [flat_cons, List.length_append, ih, List.length_cons, d.len, Nat.succ_mul, Nat.add_comm]
theorem flat_one (M : List α) : ∀ u ∈ d.flat M, u.oneCell' = true := by
  intro u hu
  obtain ⟨x, _, hx⟩ := List.mem_flatMap.1 hu
  exact d.one x u hx
theorem flat_take (M : List α) (k : Nat) : (d.flat M).take (k * d.sz) = d.flat (M.take k) := by
  by_cases h : k ≤ M.length
  · conv => lhs; rw [← List.take_append_drop k M, flat_append]
    have : (d.flat (M.take k)).length = k * d.sz := by rw [flat_length, List.length_take, Nat.min_eq_left h]
    rw [← this, List.take_left]
  · have h1 := Nat.mul_le_mul_right d.sz (show M.length ≤ k by omega)
    rw [List.take_of_length_le (by rw [flat_length]; exact h1), List.take_of_length_le (by omega)]
theorem flat_drop (M : List α) (k : Nat) : (d.flat M).drop (k * d.sz) = d.flat (M.drop k) := by
  by_cases h : k ≤ M.length
  · conv => lhs; rw [← List.take_append_drop k M, flat_append]
    have : (d.flat (M.take k)).length = k * d.sz := by rw [flat_length, List.length_take, Nat.min_eq_left h]
    rw [← this, List.drop_left]
  · have h1 := Nat.mul_le_mul_right d.sz (show M.length ≤ k by omega)
    rw [List.drop_eq_nil_of_le (by rw [flat_length]; exact h1), List.drop_eq_nil_of_le (by omega)]
    rfl
theorem flat_get (M : List α) (i k : Nat) (x : α) (h : M[i]? = some x) (hk : k < d.sz) : (d.flat M)[i * d.sz + k]? = (d.c x)[k]? := by
  rw [← List.getElem?_drop, flat_drop]
  obtain ⟨hi, rfl⟩ := List.getElem?_eq_some_iff.1 h
  rw [List.drop_eq_getElem_cons hi, flat_cons, List.getElem?_append_left (by rw [d.len]; exact hk)]
theorem laid_length (M : List α) (i : Nat) (xs : List α) (h : i + xs.length ≤ M.length) : (laid M i xs).length = M.length := by
  unfold laid
  simp only [List.length_append, List.length_take, List.length_drop]
  omega
theorem laid_nil (M : List α) (i : Nat) : laid M i [] = M := by
  unfold laid
  rw [List.append_nil, List.length_nil, Nat.add_zero, List.take_append_drop]
theorem laid_one (M : List α) (i : Nat) (x : α) (h : i < M.length) : laid M i [x] = M.set i x := by
  unfold laid
  rw [List.set_eq_take_append_cons_drop, if_pos h, List.append_assoc]
  rfl

/-- Elements that are read: their cells lie one behind the other. -/
def C (d : Fl α) (w : World) (A : Option Addr) (xs : List α) : Prop := 0 < xs.length → ∃ ad, A = some ad ∧ ∀ j u, (d.flat xs)[j]? = some u → w.cell? (ad.add j) = some u
/-- A row of the call's own. -/
def R (d : Fl α) (e : Nat) (w : World) (base : Nat) (v : Value) (xs : List α) : Prop := w.ownsRow base e d.sz v xs.length (d.flat xs)
/-- A block that is known whole, with a tail. -/
def BlkT (d : Fl α) (e : Nat) (w : World) (q : Nat) (M : List α) (T : List Value) : Prop := w.heap[q]? = some (.cells (d.flat M ++ T).toArray e (0, 0))
/-- A block that is known whole. -/
def Blk (d : Fl α) (e : Nat) (w : World) (q : Nat) (M : List α) : Prop := w.heap[q]? = some (.cells (d.flat M).toArray e (0, 0))
theorem Blk.t {w : World} {e q : Nat} {M : List α} (h : d.Blk e w q M) : d.BlkT e w q M [] := by
  unfold BlkT
  rw [List.append_nil]
  exact h
variable {w w' : World} {A : Option Addr} {xs ys M : List α} {e base q : Nat} {v : Value}
theorem C_nil : d.C w A [] := fun h => by simp at h
theorem C_below (h : d.C w A xs) (hb : Below w.heap.size w w') : d.C w' A xs := fun hp => by
  obtain ⟨ad, rfl, hc⟩ := h hp
  exact ⟨ad, rfl, fun j u hu => pw_cell_below hb (hc j u hu)⟩
theorem C_some {ad : Addr} (h : d.C w (some ad) xs) (j : Nat) (u : Value) (hu : (d.flat xs)[j]? = some u) : w.cell? (ad.add j) = some u := by
  have hp : 0 < xs.length := by
    have := (List.getElem?_eq_some_iff.1 hu).1
    rw [flat_length] at this
    rcases Nat.eq_zero_or_pos xs.length with h0 | h0
    · rw [h0, Nat.zero_mul] at this; omega
    · exact h0
  obtain ⟨ad', ha, hc⟩ := h hp
  injection ha with ha
  subst ha
  exact hc j u hu
/-- An element's cell. -/
theorem C_at (h : d.C w A xs) (i : Nat) (x : α) (hx : xs[i]? = some x) : ∃ ad, A = some ad ∧ ∀ k u, (d.c x)[k]? = some u → w.cell? (ad.add (i * d.sz + k)) = some u := by
  obtain ⟨ad, rfl, hc⟩ := h (by have := (List.getElem?_eq_some_iff.1 hx).1; omega)
  refine ⟨ad, rfl, fun k u hu => hc _ _ ?_⟩
  have hk : k < d.sz := by rw [← d.len x]; exact (List.getElem?_eq_some_iff.1 hu).1
  rw [flat_get xs i k x hx hk, hu]
theorem R_slice (h : d.R e w base v xs) : ∃ A c, v = .slice A xs.length c ∧ xs.length ≤ c ∧ c ≤ 9223372036854775807 ∧ d.C w A xs ∧ (A = none → c = 0) := by
  obtain ⟨h0, h1⟩ := h
  rcases h1 with ⟨rfl, h1⟩ | ⟨g, cap, cur, rfl, hg, hb, hn, hc, hs, ht⟩
  · refine ⟨none, 0, by rw [h1], by omega, by omega, ?_, fun _ => rfl⟩
    rw [List.eq_nil_of_length_eq_zero h1]
    exact C_nil
  · refine ⟨_, cap, rfl, hn, by simpa [maxLen] using hc, fun _ => ⟨_, rfl, fun j u hu => ?_⟩, fun h => by cases h⟩
    rw [add_plain, blk_cell hb j, ← Array.getElem?_toList]
    have hj := (List.getElem?_eq_some_iff.1 hu).1
    rw [← ht, List.getElem?_take] at hu
    rw [h0, ] at hj
    rwa [if_pos hj] at hu
theorem R_below (h : d.R e w base v xs) (hb : Below w.heap.size w w') : d.R e w' base v xs := pw_own_below h hb
theorem R_lower {base' : Nat} (h : d.R e w base v xs) (hb : base' ≤ base) : d.R e w base' v xs := own_weaken h hb
theorem R_nil : d.R e w base (.slice none 0 0) [] := own_nil _ _ _ _
theorem R_grown (h : d.R e w base v xs) {row : Option Nat} (hg : w.grownBy w' row) (hne : v.ownBlock = none ∨ v.ownBlock ≠ row) : d.R e w' base v xs := own_other h hg hne
theorem R_move (h : d.R e w base v xs) (hm : ∀ k, v.ownBlock = some k → w'.heap[k]? = w.heap[k]?) : d.R e w' base v xs := own_move h hm
theorem R_lt (h : d.R e w base v xs) (k : Nat) (hk : v.ownBlock = some k) : base ≤ k ∧ k < w.heap.size := ⟨own_base h k hk, own_lt h k hk⟩
theorem C_blkT {T : List Value} (h : d.BlkT e w q M T) (i n : Nat) (hn : i + n ≤ M.length) : d.C w (some ⟨q, i * d.sz, none⟩) ((M.drop i).take n) := fun hp => by
  refine ⟨_, rfl, fun j u hu => ?_⟩
  have hj := (List.getElem?_eq_some_iff.1 hu).1
  rw [flat_length, List.length_take, List.length_drop] at hj
  rw [Addr.add_lit, blk_cell h, List.getElem?_toArray]
  rw [← flat_take, ← flat_drop, List.getElem?_take] at hu
  split at hu
  · rw [List.getElem?_drop] at hu
    have hl := (List.getElem?_eq_some_iff.1 hu).1
    rw [List.getElem?_append_left hl]
    exact hu
  · cases hu
theorem C_blk (h : d.Blk e w q M) (i n : Nat) (hn : i + n ≤ M.length) : d.C w (some ⟨q, i * d.sz, none⟩) ((M.drop i).take n) := C_blkT h.t i n hn
/-- A row of the call's own, as a block. -/
theorem R_blkT (h : d.R e w base v xs) (hp : 0 < xs.length) : ∃ g cap T, v = .slice (some ⟨g, 0, none⟩) xs.length cap ∧ base ≤ g ∧ xs.length ≤ cap ∧ cap ≤ 9223372036854775807 ∧ d.BlkT e w g xs T ∧ T.length = (cap - xs.length) * d.sz := by
  obtain ⟨h0, h1⟩ := h
  rcases h1 with ⟨rfl, h1⟩ | ⟨g, cap, cur, rfl, hg, hb, hn, hc, hs, ht⟩
  · omega
  · refine ⟨g, cap, cur.toList.drop (xs.length * d.sz), rfl, hg, hn, by simpa [maxLen] using hc, ?_, by rw [List.length_drop, Array.length_toList, hs, Nat.sub_mul]⟩
    unfold BlkT
    rw [← ht, List.take_append_drop]
    exact hb
theorem R_of_blkT {T : List Value} {g cap n : Nat} (h : d.BlkT e w g M T) (hg : base ≤ g) (hn : n ≤ M.length) (hM : M.length ≤ cap) (hc : cap ≤ 9223372036854775807) (hT : T.length = (cap - M.length) * d.sz) : d.R e w base (.slice (some ⟨g, 0, none⟩) n cap) (M.take n) := by
  have hl : (M.take n).length = n := by rw [List.length_take, Nat.min_eq_left hn]
  refine ⟨by rw [flat_length], .inr ⟨g, cap, _, by rw [hl], hg, h, by rw [hl]; omega, by simpa [maxLen] using hc, ?_, ?_⟩⟩
  · rw [List.size_toArray, List.length_append, flat_length, hT, ← Nat.add_mul]
    congr 1
    omega
  · have h2 := Nat.mul_le_mul_right d.sz hn
    rw [hl, List.toList_toArray, List.take_append_of_le_length (by rw [flat_length]; exact h2), flat_take]
theorem R_of_blk (h : d.Blk e w q M) (hq : base ≤ q) (n : Nat) (hn : n ≤ M.length) (hM : M.length ≤ 9223372036854775807) : d.R e w base (.slice (some ⟨q, 0, none⟩) n M.length) (M.take n) := by
  have hl : (M.take n).length = n := by rw [List.length_take, Nat.min_eq_left hn]
  refine ⟨by rw [flat_length], .inr ⟨q, M.length, _, by rw [hl], hq, h, by rw [hl]; exact hn, by simpa [maxLen] using hM, by rw [List.size_toArray, flat_length], ?_⟩⟩
  rw [hl, List.toList_toArray, flat_take]
theorem Blk_far (h : d.Blk e w q M) {p : Addr} (hp : q ≠ p.block) (u : Value) : d.Blk e (w.setCell p u) q M := blk_far h hp u
/-- The cells of one of them. -/
theorem Blk_at (h : d.Blk e w q M) (i : Nat) (x : α) (hx : M[i]? = some x) (k : Nat) (u : Value) (hu : (d.c x)[k]? = some u) : w.cell? ⟨q, i * d.sz + k, none⟩ = some u := by
  rw [blk_cell h, List.getElem?_toArray, flat_get M i k x hx (by rw [← d.len x]; exact (List.getElem?_eq_some_iff.1 hu).1), hu]
end
section
variable {α : Type} {d : Fl α} {P : Program} {w : World} {A : Option Addr} {xs ys M : List α} {e base q t ty : Nat} {v : Value} {i0 : TypeInfo}
theorem store_run (g o : Nat) (vs : List Value) (cur : Array Value) (h : w.heap[g]? = some (.cells cur t (0, 0))) (hl : o + vs.length ≤ cur.size) (h1 : ∀ v ∈ vs, v.oneCell' = true) :
    (storeCells ⟨g, o, none⟩ vs).run P w = .ok () (w.setRow g (cur.toList.take o ++ vs ++ cur.toList.drop (o + vs.length)).toArray) := by
  have := run_storeCells_at (P := P) g o t vs 0 cur w h (by simpa using hl) h1
  simpa using this
theorem store_flatT {T : List Value} (i : Nat) (h : d.BlkT e w q M T) (hl : i + xs.length ≤ M.length) :
    (storeCells ⟨q, i * d.sz, none⟩ (d.flat xs)).run P w = .ok () (w.setRow q (d.flat (laid M i xs) ++ T).toArray) := by
  have hl2 := Nat.mul_le_mul_right d.sz hl
  rw [Nat.add_mul] at hl2
  rw [store_run q (i * d.sz) (d.flat xs) (d.flat M ++ T).toArray h (by rw [flat_length, List.size_toArray, List.length_append, flat_length]; omega) (flat_one xs)]
  have : (d.flat M ++ T).toArray.toList.take (i * d.sz) ++ d.flat xs ++ (d.flat M ++ T).toArray.toList.drop (i * d.sz + (d.flat xs).length) = d.flat (laid M i xs) ++ T := by
    rw [flat_length]
    show (d.flat M ++ T).take (i * d.sz) ++ d.flat xs ++ (d.flat M ++ T).drop (i * d.sz + xs.length * d.sz) = _
    rw [List.take_append_of_le_length (by rw [flat_length]; omega), List.drop_append_of_le_length (by rw [flat_length]; omega), ← Nat.add_mul, flat_take, flat_drop]
    simp only [laid, flat_append, List.append_assoc]
  rw [this]
theorem store_flat (i : Nat) (h : d.Blk e w q M) (hl : i + xs.length ≤ M.length) :
    (storeCells ⟨q, i * d.sz, none⟩ (d.flat xs)).run P w = .ok () (w.setRow q (d.flat (laid M i xs)).toArray) := by
  have := store_flatT (P := P) i h.t hl
  rwa [List.append_nil] at this
theorem BlkT_set {T : List Value} (h : d.BlkT e w q M T) (N : List α) : d.BlkT e (w.setRow q (d.flat N ++ T).toArray) q N T := setRow_heap w q _ _ e (0, 0) h
theorem Blk_set (h : d.Blk e w q M) (N : List α) : d.Blk e (w.setRow q (d.flat N).toArray) q N := setRow_heap w q _ _ e (0, 0) h
theorem run_first (n c : Nat) (hC : d.C w A xs) : (Builtin.firstCells d.sz xs.length (.slice A n c)).run P w = .ok (d.flat xs).toArray w := by
  rcases Nat.eq_zero_or_pos xs.length with h0 | h0
  · rw [h0, List.eq_nil_of_length_eq_zero h0]
    cases A with
    | none => rfl
    | some ad =>
      have := run_firstCells_some (P := P) w d.sz 0 ad n c [] (by simp) (fun j u hu => by simp at hu)
      exact this
  · obtain ⟨ad, rfl, hc⟩ := hC h0
    exact run_firstCells_some (P := P) w d.sz xs.length ad n c (d.flat xs) (by rw [flat_length]) hc
/-- copy(row[i:..], xs). -/
theorem run_copy (ht : P.underlying t = some (.slice e)) (hi : P.info? e = some i0) (hsz : i0.size = d.sz) {e' : Nat} (i n cap m c : Nat) (hB : d.Blk e' w q M) (hC : d.C w A xs) (hx : xs.length = m) (hm : m ≤ n) (hfit : i + m ≤ M.length) :
    (Builtin.copy_ #[t, t] ty #[.slice (some ⟨q, i * d.sz, none⟩) n cap, .slice A m c]).run P w = .ok (goInt m) (w.setRow q (d.flat (laid M i xs)).toArray) := by
  subst hx
  have hmn : Nat.min xs.length n = xs.length := Nat.min_eq_left hm
  have hf := run_first (P := P) xs.length c hC
  have hst := store_flat (P := P) i hB hfit
  simp [Builtin.copy_, run_underlying ht, sizeOf, typeInfo, hi, hsz, Builtin.lenOf, hmn, hf, hst]
theorem run_copyT {T : List Value} (ht : P.underlying t = some (.slice e)) (hi : P.info? e = some i0) (hsz : i0.size = d.sz) {e' : Nat} (i n cap m c : Nat) (hB : d.BlkT e' w q M T) (hC : d.C w A xs) (hx : xs.length = m) (hm : m ≤ n) (hfit : i + m ≤ M.length) :
    (Builtin.copy_ #[t, t] ty #[.slice (some ⟨q, i * d.sz, none⟩) n cap, .slice A m c]).run P w = .ok (goInt m) (w.setRow q (d.flat (laid M i xs) ++ T).toArray) := by
  subst hx
  have hmn : Nat.min xs.length n = xs.length := Nat.min_eq_left hm
  have hf := run_first (P := P) xs.length c hC
  have hst := store_flatT (P := P) i hB hfit
  simp [Builtin.copy_, run_underlying ht, sizeOf, typeInfo, hi, hsz, Builtin.lenOf, hmn, hf, hst]
/-- append(row[i:i+n:i+cap], ys...) where there is room. -/
theorem run_append_room (ht : P.underlying t = some (.slice e)) (hi : P.info? e = some i0) (hsz : i0.size = d.sz) {e' : Nat} (i n cap m c : Nat) (hB : d.Blk e' w q M) (hC : d.C w A ys) (hy : ys.length = m) (hroom : n + m ≤ cap) (hfit : i + n + m ≤ M.length) :
    (Builtin.append_ #[t, t] ty #[.slice (some ⟨q, i * d.sz, none⟩) n cap, .slice A m c]).run P w = .ok (.slice (some ⟨q, i * d.sz, none⟩) (n + m) cap) (w.setRow q (d.flat (laid M (i + n) ys)).toArray) := by
  subst hy
  have hf := run_first (P := P) ys.length c hC
  have hst := store_flat (P := P) (xs := ys) (i + n) hB hfit
  rw [Nat.add_mul] at hst
  have hx : P.underlying t = some (.slice e) := ht
  simp [Builtin.append_, run_underlying ht, sizeOf, typeInfo, hi, hsz, Builtin.lenOf, hroom, hf, Addr.add_lit, hst]
theorem run_append_roomT {T : List Value} (ht : P.underlying t = some (.slice e)) (hi : P.info? e = some i0) (hsz : i0.size = d.sz) {e' : Nat} (i n cap m c : Nat) (hB : d.BlkT e' w q M T) (hC : d.C w A ys) (hy : ys.length = m) (hroom : n + m ≤ cap) (hfit : i + n + m ≤ M.length) :
    (Builtin.append_ #[t, t] ty #[.slice (some ⟨q, i * d.sz, none⟩) n cap, .slice A m c]).run P w = .ok (.slice (some ⟨q, i * d.sz, none⟩) (n + m) cap) (w.setRow q (d.flat (laid M (i + n) ys) ++ T).toArray) := by
  subst hy
  have hf := run_first (P := P) ys.length c hC
  have hst := store_flatT (P := P) (xs := ys) (i + n) hB hfit
  rw [Nat.add_mul] at hst
  have hx : P.underlying t = some (.slice e) := ht
  simp [Builtin.append_, run_underlying ht, sizeOf, typeInfo, hi, hsz, Builtin.lenOf, hroom, hf, Addr.add_lit, hst]
/-- append onto a row of the call's own. -/
theorem run_append (ht : P.underlying t = some (.slice e)) (hi : P.info? e = some i0) {z : Value} {bytes : Nat} (hz : i0.zero = some z) (hsz : i0.size = d.sz) (hby : i0.bytes = bytes) (hzs : z.cells.size = d.sz) (c : Nat) (hR : d.R e w base v xs) (hC : d.C w A ys) (h63 : xs.length + ys.length ≤ 9223372036854775807) (hb : (xs.length + ys.length) * bytes ≤ 140737488355328) (hbase : base ≤ w.heap.size) :
    ∃ v' w', (Builtin.append_ #[t, t] ty #[v, .slice A ys.length c]).run P w = .ok v' w' ∧ d.R e w' base v' (xs ++ ys) ∧ w.grownBy w' v.ownBlock ∧ (v'.ownBlock = v.ownBlock ∨ v'.ownBlock = some w.heap.size) := by
  rcases Nat.eq_zero_or_pos ys.length with h0 | h0
  · have hy := List.eq_nil_of_length_eq_zero h0
    subst hy
    refine ⟨v, w, ?_, by rw [List.append_nil]; exact hR, ⟨rfl, rfl, rfl, Nat.le_refl _, fun _ _ _ => rfl⟩, .inl rfl⟩
    rcases hR.2 with ⟨rfl, hn⟩ | ⟨g, cap, cur, rfl, _, _, hnc, _⟩
    · cases A <;> simp [Builtin.append_, run_underlying ht, sizeOf, typeInfo, hi, Builtin.lenOf, Builtin.firstCells, loadCells, loadCellsFrom, Result.andThen]
    · cases A <;> simp [Builtin.append_, run_underlying ht, sizeOf, typeInfo, hi, Builtin.lenOf, Builtin.firstCells, hnc, storeCells, loadCells, loadCellsFrom, Result.andThen]
  · obtain ⟨ad, rfl, hc⟩ := hC h0
    obtain ⟨v', w', h1, h2, h3, _, h5⟩ := run_append_own_at (P := P) w base t ty e i0 z d.sz bytes ht hi hz hsz hby hzs d.pos v xs.length (d.flat xs) hR ad ys.length c (d.flat ys) (by rw [flat_length]) hc (flat_one ys) (by simpa [maxLen] using h63) hb hbase
    refine ⟨v', w', h1, ?_, h3, h5⟩
    unfold R
    rw [List.length_append, flat_append]
    exact h2
/-- clear(row[i:i+n]). -/
theorem run_clear (ht : P.underlying t = some (.slice e)) {z : Value} {x0 : α} (hz : ∀ w, (zeroValue e).run P w = .ok z w) (hzc : z.cells = (d.c x0).toArray) {e' : Nat} (i n cap : Nat) (hB : d.Blk e' w q M) (hn : 0 < n) (hfit : i + n ≤ M.length) :
    (Builtin.clear_ #[t] ty #[.slice (some ⟨q, i * d.sz, none⟩) n cap]).run P w = .ok (.tuple #[]) (w.setRow q (d.flat (laid M i (List.replicate n x0))).toArray) := by
  have hzz : (Builtin.zeroCells z.cells n).toList = d.flat (List.replicate n x0) := by
    apply List.ext_getElem?
    intro j
    by_cases hj : j < n * d.sz
    · have hp := d.pos
      have hx : (List.replicate n x0)[j / d.sz]? = some x0 := List.getElem?_replicate_of_lt ((Nat.div_lt_iff_lt_mul hp).2 hj)
      have hf := flat_get (d := d) (List.replicate n x0) (j / d.sz) (j % d.sz) x0 hx (Nat.mod_lt _ hp)
      rw [Nat.mul_comm, Nat.div_add_mod] at hf
      rw [hf]
      have hs : (d.c x0).toArray.size = d.sz := by rw [List.size_toArray, d.len]
      unfold Builtin.zeroCells
      rw [hzc, Array.getElem?_toList, Array.getElem?_map, hs, Array.getElem?_range, if_pos hj]
      have hm := Nat.mod_lt j hp
      simp only [Option.map_some]
      rw [getElem!_pos (d.c x0).toArray (j % d.sz) (by rw [hs]; exact hm), List.getElem?_eq_getElem (by rw [d.len]; exact hm)]
      simp
    · have hs : (d.c x0).toArray.size = d.sz := by rw [List.size_toArray, d.len]
      rw [List.getElem?_eq_none (by rw [Array.length_toList, size_zeroCells, hzc, hs]; omega), List.getElem?_eq_none (by rw [flat_length, List.length_replicate]; omega)]
  have hst := store_flat (P := P) (xs := List.replicate n x0) i hB (by rw [List.length_replicate]; exact hfit)
  obtain ⟨m, rfl⟩ : ∃ m, n = m + 1 := ⟨n - 1, by omega⟩
  simp [Builtin.clear_, run_underlying ht, hz, hzz, hst]
theorem run_clearT {T : List Value} (ht : P.underlying t = some (.slice e)) {z : Value} {x0 : α} (hz : ∀ w, (zeroValue e).run P w = .ok z w) (hzc : z.cells = (d.c x0).toArray) {e' : Nat} (i n cap : Nat) (hB : d.BlkT e' w q M T) (hn : 0 < n) (hfit : i + n ≤ M.length) :
    (Builtin.clear_ #[t] ty #[.slice (some ⟨q, i * d.sz, none⟩) n cap]).run P w = .ok (.tuple #[]) (w.setRow q (d.flat (laid M i (List.replicate n x0)) ++ T).toArray) := by
  have hzz : (Builtin.zeroCells z.cells n).toList = d.flat (List.replicate n x0) := by
    apply List.ext_getElem?
    intro j
    by_cases hj : j < n * d.sz
    · have hp := d.pos
      have hx : (List.replicate n x0)[j / d.sz]? = some x0 := List.getElem?_replicate_of_lt ((Nat.div_lt_iff_lt_mul hp).2 hj)
      have hf := flat_get (d := d) (List.replicate n x0) (j / d.sz) (j % d.sz) x0 hx (Nat.mod_lt _ hp)
      rw [Nat.mul_comm, Nat.div_add_mod] at hf
      rw [hf]
      have hs : (d.c x0).toArray.size = d.sz := by rw [List.size_toArray, d.len]
      unfold Builtin.zeroCells
      rw [hzc, Array.getElem?_toList, Array.getElem?_map, hs, Array.getElem?_range, if_pos hj]
      have hm := Nat.mod_lt j hp
      simp only [Option.map_some]
      rw [getElem!_pos (d.c x0).toArray (j % d.sz) (by rw [hs]; exact hm), List.getElem?_eq_getElem (by rw [d.len]; exact hm)]
      simp
    · have hs : (d.c x0).toArray.size = d.sz := by rw [List.size_toArray, d.len]
      rw [List.getElem?_eq_none (by rw [Array.length_toList, size_zeroCells, hzc, hs]; omega), List.getElem?_eq_none (by rw [flat_length, List.length_replicate]; omega)]
  have hst := store_flatT (P := P) (xs := List.replicate n x0) i hB (by rw [List.length_replicate]; exact hfit)
  obtain ⟨m, rfl⟩ : ∃ m, n = m + 1 := ⟨n - 1, by omega⟩
  simp [Builtin.clear_, run_underlying ht, hz, hzz, hst]
/-- clear of nothing. -/
theorem run_clear0 (ht : P.underlying t = some (.slice e)) (A : Option Addr) (cap : Nat) : (Builtin.clear_ #[t] ty #[.slice A 0 cap]).run P w = .ok (.tuple #[]) w := by
  cases A <;> simp [Builtin.clear_, run_underlying ht]
/-- make([]E, n). -/
theorem run_mk (ht : P.underlying t = some (.slice e)) (hi : P.info? e = some i0) {z : Value} {bytes : Nat} {x0 : α} (hz : i0.zero = some z) (hsz : i0.size = d.sz) (hby : i0.bytes = bytes) (hzc : z.cells = (d.c x0).toArray) (m : Nat) (hm : m ≤ 1000000) (hb : bytes * m ≤ 281474976710656) :
    (Instr.makeSlice t (.int .i64 (m : Int)) (.int .i64 (m : Int))).run P w = .ok (.slice (some ⟨w.heap.size, 0, none⟩) m m) (w.alloc (.cells (d.flat (List.replicate m x0)).toArray e)) := by
  have hb' : (i0.bytes : Int) * (m : Int) ≤ 281474976710656 := by
    rw [hby]
    have h : ((bytes * m : Nat) : Int) ≤ 281474976710656 := by omega
    rwa [Int.natCast_mul] at h
  rw [run_make (P := P) w t e i0 z ht hi hz .i64 .i64 (m : Int) (m : Int) (by omega) (by omega) hb' (by omega), hsz, Int.toNat_natCast]
  have hzz : madeCells z.cells (m * d.sz) = (d.flat (List.replicate m x0)).toArray := by
    apply Array.ext'
    apply List.ext_getElem?
    intro j
    have hs : (d.c x0).toArray.size = d.sz := by rw [List.size_toArray, d.len]
    by_cases hj : j < m * d.sz
    · have hp := d.pos
      have hx : (List.replicate m x0)[j / d.sz]? = some x0 := List.getElem?_replicate_of_lt ((Nat.div_lt_iff_lt_mul hp).2 hj)
      have hf := flat_get (d := d) (List.replicate m x0) (j / d.sz) (j % d.sz) x0 hx (Nat.mod_lt _ hp)
      rw [Nat.mul_comm, Nat.div_add_mod] at hf
      rw [List.toList_toArray, hf]
      unfold madeCells
      rw [hzc, Array.getElem?_toList, Array.getElem?_map, hs, Array.getElem?_range, if_pos hj]
      have hm := Nat.mod_lt j hp
      simp only [Option.map_some]
      rw [getElem!_pos (d.c x0).toArray (j % d.sz) (by rw [hs]; exact hm), List.getElem?_eq_getElem (by rw [d.len]; exact hm)]
      simp
    · rw [List.getElem?_eq_none (by rw [Array.length_toList, size_madeCells]; omega), List.getElem?_eq_none (by rw [List.toList_toArray, flat_length, List.length_replicate]; omega)]
  rw [hzz]
end
section
variable {P : Program} {W : World} {t e sz : Nat} {i0 : TypeInfo}
/-- Cuts of a slice: v[lo:hi:mx] and its kin, by the numbers. -/
theorem cut4 (he : P.elem t = e) (ht : P.underlying t = some (.slice e)) (hi : P.info? e = some i0) (hsz : i0.size = sz) (A : Option Addr) (n c : Nat) (lo hi' mx : Nat) (h1 : lo ≤ hi') (h2 : hi' ≤ mx) (h3 : mx ≤ c) (vl vh vm : Int) (hl : vl = lo) (hh : vh = hi') (hm : vm = mx) :
    (Instr.slice t (.slice A n c) (some (.int .i64 vl)) (some (.int .i64 vh)) (some (.int .i64 vm))).run P W = .ok (.slice (if mx = lo then A else A.map (·.add (lo * sz))) (hi' - lo) (mx - lo)) W := by
  subst hl; subst hh; subst hm
  rw [run_slice_lhm W t A n c (by rw [he]; exact ht) .i64 .i64 .i64 (lo : Int) (hi' : Int) (mx : Int) (by omega) (by omega) (by omega) (by omega), he]
  simp [sizeOf, typeInfo, hi, hsz, sliced, Result.andThen]
theorem cut3 (he : P.elem t = e) (ht : P.underlying t = some (.slice e)) (hi : P.info? e = some i0) (hsz : i0.size = sz) (A : Option Addr) (n c : Nat) (lo hi' : Nat) (h1 : lo ≤ hi') (h3 : hi' ≤ c) (vl vh : Int) (hl : vl = lo) (hh : vh = hi') :
    (Instr.slice t (.slice A n c) (some (.int .i64 vl)) (some (.int .i64 vh)) none).run P W = .ok (.slice (if c = lo then A else A.map (·.add (lo * sz))) (hi' - lo) (c - lo)) W := by
  subst hl; subst hh
  rw [run_slice_lh W t A n c (by rw [he]; exact ht) .i64 .i64 (lo : Int) (hi' : Int) (by omega) (by omega) (by omega), he]
  simp [sizeOf, typeInfo, hi, hsz, sliced, Result.andThen]
theorem cut_from (he : P.elem t = e) (ht : P.underlying t = some (.slice e)) (hi : P.info? e = some i0) (hsz : i0.size = sz) (A : Option Addr) (n c : Nat) (lo : Nat) (h1 : lo ≤ n) (vl : Int) (hl : vl = lo) :
    (Instr.slice t (.slice A n c) (some (.int .i64 vl)) none none).run P W = .ok (.slice (if c = lo then A else A.map (·.add (lo * sz))) (n - lo) (c - lo)) W := by
  subst hl
  rw [run_slice_l W t A n c (by rw [he]; exact ht) .i64 (lo : Int) (by omega) (by omega), he]
  simp [sizeOf, typeInfo, hi, hsz, sliced, Result.andThen]
theorem cut_to (he : P.elem t = e) (ht : P.underlying t = some (.slice e)) (hi : P.info? e = some i0) (A : Option Addr) (n c : Nat) (hi' : Nat) (h1 : hi' ≤ c) (vh : Int) (hh : vh = hi') :
    (Instr.slice t (.slice A n c) none (some (.int .i64 vh)) none).run P W = .ok (.slice A hi' c) W := by
  subst hh
  rw [run_slice_h W t A n c (by rw [he]; exact ht) .i64 (hi' : Int) (by omega) (by omega), he]
  simp [sizeOf, typeInfo, hi, sliced, Result.andThen]
  intro _
  cases A <;> simp [Addr.add]
end
section
variable {P : Program} {ops : Array Oper} {rest : List Oper} {o : Oper} {a : Act} {w w' : World} {K : Act → World → Prop} {Q : Exit → Act → World → Prop} {E : Prop}
/-- A builtin whose run is known: as an operation, in a list, as a step of a region that draws. -/
theorem wp_copy_run (d s : Operand) (dT sT : TypeId) (ho : o.op = .call { callee := .builtin .copy, args := #[d, s], argTypes := #[dT, sT] }) (vd vs v : Value) (hd : a.eval d = vd) (hs : a.eval s = vs)
    (hrun : (Builtin.copy_ #[dT, sT] o.type #[vd, vs]).run P w = .ok v w') (h : K (a.put o.dst v) w') : Oper.wp P o a w K Q := by
  unfold Oper.wp
  simp [execOp, ho, resolve, invoke, builtin, hd, hs, hrun, Result.andThen]
  exact h
theorem step_copy_run (hgd : o.guard = none) (d s : Operand) (dT sT : TypeId) (ho : o.op = .call { callee := .builtin .copy, args := #[d, s], argTypes := #[dT, sT] }) (vd vs v : Value) (hd : a.eval d = vd) (hs : a.eval s = vs)
    (hrun : (Builtin.copy_ #[dT, sT] o.type #[vd, vs]).run P w = .ok v w') (h : K (a.put o.dst v) w') : if Region.wanted o (yielded ops a.tmps) = true then Oper.wp P o a w K Q else E := by
  rw [if_pos (by simp [Region.wanted, hgd])]
  exact wp_copy_run d s dT sT ho vd vs v hd hs hrun h
theorem wpList_copy_run (hgd : o.guard = none) (d s : Operand) (dT sT : TypeId) (ho : o.op = .call { callee := .builtin .copy, args := #[d, s], argTypes := #[dT, sT] }) (vd vs v : Value) (hd : a.eval d = vd) (hs : a.eval s = vs)
    (hrun : (Builtin.copy_ #[dT, sT] o.type #[vd, vs]).run P w = .ok v w') (h : wpList P ops Q rest (a.put o.dst v) w') : wpList P ops Q (o :: rest) a w :=
  wpList_plain hgd fun K hK => wp_copy_run d s dT sT ho vd vs v hd hs hrun (hK _ _ h)
theorem wp_append_run (d s : Operand) (dT sT : TypeId) (ho : o.op = .call { callee := .builtin .append, args := #[d, s], argTypes := #[dT, sT] }) (vd vs v : Value) (hd : a.eval d = vd) (hs : a.eval s = vs)
    (hrun : (Builtin.append_ #[dT, sT] o.type #[vd, vs]).run P w = .ok v w') (h : K (a.put o.dst v) w') : Oper.wp P o a w K Q := by
  unfold Oper.wp
  simp [execOp, ho, resolve, invoke, builtin, hd, hs, hrun, Result.andThen]
  exact h
theorem step_append_run (hgd : o.guard = none) (d s : Operand) (dT sT : TypeId) (ho : o.op = .call { callee := .builtin .append, args := #[d, s], argTypes := #[dT, sT] }) (vd vs v : Value) (hd : a.eval d = vd) (hs : a.eval s = vs)
    (hrun : (Builtin.append_ #[dT, sT] o.type #[vd, vs]).run P w = .ok v w') (h : K (a.put o.dst v) w') : if Region.wanted o (yielded ops a.tmps) = true then Oper.wp P o a w K Q else E := by
  rw [if_pos (by simp [Region.wanted, hgd])]
  exact wp_append_run d s dT sT ho vd vs v hd hs hrun h
theorem wpList_append_run (hgd : o.guard = none) (d s : Operand) (dT sT : TypeId) (ho : o.op = .call { callee := .builtin .append, args := #[d, s], argTypes := #[dT, sT] }) (vd vs v : Value) (hd : a.eval d = vd) (hs : a.eval s = vs)
    (hrun : (Builtin.append_ #[dT, sT] o.type #[vd, vs]).run P w = .ok v w') (h : wpList P ops Q rest (a.put o.dst v) w') : wpList P ops Q (o :: rest) a w :=
  wpList_plain hgd fun K hK => wp_append_run d s dT sT ho vd vs v hd hs hrun (hK _ _ h)
theorem wp_clear_run (d : Operand) (dT : TypeId) (ho : o.op = .call { callee := .builtin .clear, args := #[d], argTypes := #[dT] }) (vd v : Value) (hd : a.eval d = vd)
    (hrun : (Builtin.clear_ #[dT] o.type #[vd]).run P w = .ok v w') (h : K (a.put o.dst v) w') : Oper.wp P o a w K Q := by
  unfold Oper.wp
  simp [execOp, ho, resolve, invoke, builtin, hd, hrun, Result.andThen]
  exact h
theorem wpList_clear_run (hgd : o.guard = none) (d : Operand) (dT : TypeId) (ho : o.op = .call { callee := .builtin .clear, args := #[d], argTypes := #[dT] }) (vd v : Value) (hd : a.eval d = vd)
    (hrun : (Builtin.clear_ #[dT] o.type #[vd]).run P w = .ok v w') (h : wpList P ops Q rest (a.put o.dst v) w') : wpList P ops Q (o :: rest) a w :=
  wpList_plain hgd fun K hK => wp_clear_run d dT ho vd v hd hrun (hK _ _ h)
end
end Fl
end Go.Proofs.Ytafpaomcmjccaaa.Foot
