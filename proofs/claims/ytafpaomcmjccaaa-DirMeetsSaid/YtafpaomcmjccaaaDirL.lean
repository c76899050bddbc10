/- Rows of entries as cells. -/
import Derived.Test.YtafpaomcmjccaaaGx1
import Derived.Test.YtafpaomcmjccaaaGx2
import Derived.Test.YtafpaomcmjccaaaFoot2
set_option linter.unusedVariables false
set_option linter.unusedSimpArgs false
namespace Go.Proofs.Ytafpaomcmjccaaa.Dir
open Go.RowKit Go.Proofs.Ytafpaomcmjccaaa.G Go.Proofs.YtafpaomcmjccaaaW.PrintWords Go.Proofs.YtafpaomcmjccaaaW.PrintMore Go.Proofs.Ytafpaomcmjccaaa.Foot

def cE (x : S55) : List Value := [.int .u16 x.f0, .int .u32 x.f1, .int .u16 x.f2, .int .u64 x.f3]
def flat (M : List S55) : List Value := M.flatMap cE
theorem cE_length (x : S55) : (cE x).length = 4 := rfl
theorem cE_one (x : S55) : ∀ u ∈ cE x, u.oneCell' = true := by
  intro u hu
  simp only [cE, List.mem_cons, List.not_mem_nil, or_false] at hu
  rcases hu with rfl | rfl | rfl | rfl <;> rfl
theorem flat_cons (x : S55) (M : List S55) : flat (x :: M) = cE x ++ flat M := by simp [flat]
theorem flat_append (M N : List S55) : flat (M ++ N) = flat M ++ flat N := by simp [flat]
theorem flat_length (M : List S55) : (flat M).length = M.length * 4 := by
  induction M with
  | nil => rfl
  | cons x M ih => rw [flat_cons, List.length_append, ih, List.length_cons, cE_length]; omega
theorem flat_one (M : List S55) : ∀ u ∈ flat M, u.oneCell' = true := by
  intro u hu
  obtain ⟨x, _, hx⟩ := List.mem_flatMap.1 hu
  exact cE_one x u hx
theorem flat_take (M : List S55) (k : Nat) : (flat M).take (k * 4) = flat (M.take k) := by
  by_cases h : k ≤ M.length
  · conv => lhs; rw [← List.take_append_drop k M, flat_append]
    have : (flat (M.take k)).length = k * 4 := by rw [flat_length, List.length_take]; omega
    rw [← this, List.take_left]
  · rw [List.take_of_length_le (by rw [flat_length]; omega), List.take_of_length_le (by omega)]
theorem flat_drop (M : List S55) (k : Nat) : (flat M).drop (k * 4) = flat (M.drop k) := by
  by_cases h : k ≤ M.length
  · conv => lhs; rw [← List.take_append_drop k M, flat_append]
    have : (flat (M.take k)).length = k * 4 := by rw [flat_length, List.length_take]; omega
    rw [← this, List.drop_left]
  · rw [List.drop_eq_nil_of_le (by rw [flat_length]; omega), List.drop_eq_nil_of_le (by omega)]
    rfl
theorem flat_get (M : List S55) (i k : Nat) (x : S55) (h : M[i]? = some x) (hk : k < 4) : (flat M)[i * 4 + k]? = (cE x)[k]? := by
  rw [← List.getElem?_drop, flat_drop]
  have h1 : M.drop i = x :: M.drop (i + 1) := by
    obtain ⟨hi, rfl⟩ := List.getElem?_eq_some_iff.1 h
    exact (List.drop_eq_getElem_cons hi)
  rw [h1, flat_cons, List.getElem?_append_left (by rw [cE_length]; exact hk)]
/-- A stretch of the row is a slice's content. -/
theorem C_blk {w : World} {q : Nat} {M : List S55} (h : w.heap[q]? = some (.cells (flat M).toArray 55 (0, 0))) (i n : Nat) (hn : i + n ≤ M.length) (hs : M.length ≤ 1000000) : Kd.C k55 w (some ⟨q, i * 4, none⟩) n ((M.drop i).take n) := by
  have hl : ((M.drop i).take n).length = n := by rw [List.length_take, List.length_drop]; omega
  refine ⟨hl, by omega, fun _ => ⟨_, rfl, fun j x hj => ⟨cE x, rfl, k55_mk w x, fun k u hu => ?_⟩⟩⟩
  have hjn : j < n := by rw [← hl]; exact (List.getElem?_eq_some_iff.1 hj).1
  rw [List.getElem?_take, if_pos hjn, List.getElem?_drop] at hj
  have hk : k < 4 := (List.getElem?_eq_some_iff.1 hu).1
  rw [Addr.add_lit, show i * 4 + (j * k55.sz + k) = (i + j) * 4 + k by show i * 4 + (j * 4 + k) = _; omega, blk_cell h]
  rw [List.getElem?_toArray, flat_get M (i + j) k x hj hk, hu]
theorem store_run (P : Program) (g o : Nat) (t : TypeId) (vs : List Value) (cur : Array Value) (w : World) (h : w.heap[g]? = some (.cells cur t (0, 0))) (hl : o + vs.length ≤ cur.size) (h1 : ∀ v ∈ vs, v.oneCell' = true) :
    (storeCells ⟨g, o, none⟩ vs).run P w = .ok () (w.setRow g (cur.toList.take o ++ vs ++ cur.toList.drop (o + vs.length)).toArray) := by
  have := run_storeCells_at (P := P) g o t vs 0 cur w h (by simpa using hl) h1
  simpa using this
/-- Entries laid into the row from place i on. -/
def laid (M : List S55) (i : Nat) (xs : List S55) : List S55 := M.take i ++ xs ++ M.drop (i + xs.length)
theorem laid_length (M : List S55) (i : Nat) (xs : List S55) (h : i + xs.length ≤ M.length) : (laid M i xs).length = M.length := by
  unfold laid
  simp only [List.length_append, List.length_take, List.length_drop]
  omega
theorem store_flat (P : Program) (q i : Nat) (M xs : List S55) (w : World) (h : w.heap[q]? = some (.cells (flat M).toArray 55 (0, 0))) (hl : i + xs.length ≤ M.length) :
    (storeCells ⟨q, i * 4, none⟩ (flat xs)).run P w = .ok () (w.setRow q (flat (laid M i xs)).toArray) := by
  rw [store_run P q (i * 4) 55 (flat xs) (flat M).toArray w h (by rw [flat_length, List.size_toArray, flat_length]; omega) (flat_one xs)]
  have : (flat M).toArray.toList.take (i * 4) ++ flat xs ++ (flat M).toArray.toList.drop (i * 4 + (flat xs).length) = flat (laid M i xs) := by
    rw [flat_length, ← Nat.add_mul]
    show (flat M).take (i * 4) ++ flat xs ++ (flat M).drop ((i + xs.length) * 4) = _
    rw [flat_take, flat_drop]
    simp only [laid, flat_append]
  rw [this]
theorem first_flat (P : Program) (w : World) (ad : Addr) (n len cap : Nat) (xs : List S55) (h : Kd.C k55 w (some ad) n xs) : (Builtin.firstCells 4 n (.slice (some ad) len cap)).run P w = .ok (flat xs).toArray w := by
  refine run_firstCells_some (P := P) w 4 n ad len cap (flat xs) (by rw [flat_length, h.1]) (fun j u hu => ?_)
  have hj : j < xs.length * 4 := by rw [← flat_length]; exact (List.getElem?_eq_some_iff.1 hu).1
  have hn : 0 < n := by rw [← h.1]; omega
  obtain ⟨ad', ha, hc⟩ := h.2.2 hn
  injection ha with ha
  subst ha
  have hx : xs[j / 4]? = some (xs[j / 4]'(by omega)) := List.getElem?_eq_getElem (by omega)
  obtain ⟨c, hcl, hK, hcc⟩ := hc (j / 4) _ hx
  obtain rfl := k55_open hK
  have hf : (flat xs)[j]? = (cE (xs[j / 4]'(by omega)))[j % 4]? := by
    have := flat_get xs (j / 4) (j % 4) _ hx (Nat.mod_lt _ (by omega))
    rwa [show j / 4 * 4 + j % 4 = j by omega] at this
  have := hcc (j % 4) u (by rw [← hu, hf]; rfl)
  rwa [show j / 4 * k55.sz + j % 4 = j by show j / 4 * 4 + j % 4 = j; omega] at this
theorem first_nil (P : Program) (w : World) (n len cap : Nat) : (Builtin.firstCells 4 n (.slice none len cap)).run P w = .ok #[] w := rfl
end Go.Proofs.Ytafpaomcmjccaaa.Dir
