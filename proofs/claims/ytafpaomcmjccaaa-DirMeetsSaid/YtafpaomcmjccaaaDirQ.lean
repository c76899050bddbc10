/- What the laws need of buckets: counts. -/
import Derived.Test.YtafpaomcmjccaaaDirKn
set_option linter.unusedVariables false
set_option linter.unusedSimpArgs false
namespace Go.Proofs.Ytafpaomcmjccaaa.Dir
open Go.RowKit Go.Proofs.Ytafpaomcmjccaaa.G Go.Proofs.YtafpaomcmjccaaaW.PrintWords Go.Proofs.YtafpaomcmjccaaaW.PrintMore Go.Proofs.Ytafpaomcmjccaaa.Foot
theorem at_lay (D : Di) (i : Nat) (xs : List S55) (k : Key) : (layD D i xs).at_ k = D.at_ k := by
  unfold Di.at_ layD
  simp only [List.length_set]
theorem of_lay_same {D : Di} {i : Nat} (h : i < D.L.length) (xs : List S55) (k : Key) (hk : D.at_ k = i) : (layD D i xs).of k = xs := by
  unfold Di.of
  rw [at_lay, hk]
  show (D.L.set i xs).getD i [] = xs
  rw [List.getD_eq_getElem?_getD, List.getElem?_set_self h]
  rfl
theorem of_lay_ne {D : Di} {i : Nat} (xs : List S55) (k : Key) (hk : D.at_ k ≠ i) : (layD D i xs).of k = D.of k := by
  unfold Di.of
  rw [at_lay]
  show (D.L.set i xs).getD (D.at_ k) [] = D.L.getD (D.at_ k) []
  rw [List.getD_eq_getElem?_getD, List.getD_eq_getElem?_getD, List.getElem?_set_ne (Ne.symm hk)]
theorem count_set (p : S55 → Bool) (L : List (List S55)) (i : Nat) (b xs : List S55) (h : L[i]? = some b) : (L.set i xs).flatten.countP p + b.countP p = L.flatten.countP p + xs.countP p := by
  obtain ⟨hi, rfl⟩ := List.getElem?_eq_some_iff.1 h
  have e1 : L.flatten = (L.take i).flatten ++ (L[i] ++ (L.drop (i + 1)).flatten) := by
    conv => lhs; rw [← List.take_append_drop i L, List.drop_eq_getElem_cons hi, List.flatten_append, List.flatten_cons]
  have e2 : (L.set i xs).flatten = (L.take i).flatten ++ (xs ++ (L.drop (i + 1)).flatten) := by
    rw [List.set_eq_take_append_cons_drop, if_pos hi, List.flatten_append, List.flatten_cons]
  rw [e1, e2]
  simp only [List.countP_append]
  omega
theorem all_lay {D : Di} (hD : D.Ok) (k : Key) (xs : List S55) (p : S55 → Bool) : (layD D (D.at_ k) xs).all.countP p + (D.of k).countP p = D.all.countP p + xs.countP p :=
  count_set p D.L _ _ xs (hD.of_eq k)
theorem len_lay {D : Di} (hD : D.Ok) (k : Key) (xs : List S55) : (layD D (D.at_ k) xs).all.length + (D.of k).length = D.all.length + xs.length := by
  have := all_lay hD k xs (fun _ => true)
  simpa only [List.countP_true] using this
theorem ins_ok {D : Di} {k : Key} {x : S55} (h2 : x.f2 ≠ 0) (h3 : x.f3 < 9223372036854775808) (hl : (D.of k).length ≠ D.s) : D.ins k x = (0, layD D (D.at_ k) (D.of k ++ [x])) := by
  unfold Di.ins
  rw [if_neg (by intro h; rcases h with h | h; exact h2 h; omega), if_neg hl]
theorem ins_full {D : Di} {k : Key} {x : S55} (h2 : x.f2 ≠ 0) (h3 : x.f3 < 9223372036854775808) (hl : (D.of k).length = D.s) : D.ins k x = (50, D) := by
  unfold Di.ins
  rw [if_neg (by intro h; rcases h with h | h; exact h2 h; omega), if_pos hl]
theorem dirH_ok {W w : World} {p : Nat} {D : Di} {R : HP} (h : Foot.Own W w (star (DirH p D) R)) : D.Ok := h.look fun F hF _ => by obtain ⟨_, _, _, _, hd⟩ := hF; exact hd.ok
theorem keyOf_num (k : Int) : (keyOf k).num = k % 7 := by
  unfold Key.num Key.nth keyOf keyL
  simp
theorem newD_at (b s : Int) (k : Key) : (newD b s).at_ k = (k.num % (clamp b 4096 : Int)).toNat := by
  unfold Di.at_ newD
  simp only [List.length_replicate]
theorem newD_of (b s : Int) (k : Key) : (newD b s).of k = [] := by
  unfold Di.of newD
  rw [List.getD_eq_getElem?_getD, List.getElem?_replicate]
  split <;> rfl
theorem newD_all (b s : Int) : (newD b s).all = [] := by
  unfold Di.all newD
  simp
end Go.Proofs.Ytafpaomcmjccaaa.Dir
