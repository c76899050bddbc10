/- A key as an argument: what reads as a row of thirty-two bytes. -/
import Derived.Test.YtafpaomcmjccaaaDirK
import Derived.Test.YtafpaomcmjccaaaOpens
set_option linter.unusedVariables false
set_option linter.unusedSimpArgs false
namespace Go.Proofs.Ytafpaomcmjccaaa.Dir
open Go.RowKit Go.Proofs.Ytafpaomcmjccaaa.G Go.Proofs.YtafpaomcmjccaaaW.PrintWords Go.Proofs.YtafpaomcmjccaaaW.PrintMore Go.Proofs.Ytafpaomcmjccaaa.Foot Go.Proofs.Ytafpaomcmjccaaa.Opens
theorem key_cells {P : Program} {H : Type} {enc : TypeId × Value → H} {W : World} {base : Nat} {spare : Nat → Bool} {held : Bool} {fuel t e : Nat} {cs : List Value} {x : DataW H × List MemPlace} (ht : P.underlying t = some (.array 32 e)) (he : P.underlying e = some (.int .u8)) (hc : P.cellsOf t = 32) (hce : P.cellsOf e = 1)
    (hf : DataW.trod enc P W base spare held fuel t cs = some x) : ∃ k : Key, cs = k.cells.toList := by
  obtain ⟨xs, m, _, _, hl, hxl, hel⟩ := DataW.trod_array ht hf
  rw [hc] at hl
  obtain ⟨ks, hkl, hks⟩ := choose_list (fun j (b : Int) => cs[j]? = some (.int .u8 b) ∧ 0 ≤ b ∧ b ≤ 255) 32 (fun j hj => by
    have h1 := hel j hj
    rw [hce, Nat.mul_one, List.getElem?_eq_getElem (by omega)] at h1
    obtain ⟨n, hn, _, hw⟩ := DataW.trod_int he h1
    have hw' : 0 ≤ n ∧ n ≤ 255 := bounds_u8 hw
    refine ⟨n, ?_, hw'⟩
    have h2 : ((cs.drop j).take 1)[0]? = some (.int .u8 n) := by rw [hn]; rfl
    rw [List.getElem?_take, if_pos (by omega), List.getElem?_drop, Nat.add_zero] at h2
    exact h2)
  refine ⟨⟨ks, hkl, fun x hx => ?_⟩, ?_⟩
  · obtain ⟨j, hj⟩ := List.getElem?_of_mem hx
    exact (hks j x hj).2
  · unfold Key.cells
    rw [List.toList_toArray]
    apply List.ext_getElem?
    intro j
    rw [List.getElem?_map]
    cases h : ks[j]? with
    | some b => exact (hks j b h).1
    | none =>
      rw [List.getElem?_eq_none_iff] at h
      exact List.getElem?_eq_none (by omega)
theorem arr_key {H : Type} {enc : TypeId × Value → H} {W : World} {base : Nat} {spare : Nat → Bool} {held : Bool} {v : Value} {d : DataW H} {p : List MemPlace} (h : DataW.Trod enc Try.prog W base spare held 23 v d p) : ∃ k : Key, v = .agg k.cells := by
  obtain ⟨fuel, hf⟩ := h
  obtain ⟨k, hk⟩ := key_cells Try.underlying23 Try.underlying5 (by kernel_rfl) (by kernel_rfl) hf
  have hl : v.cells.toList.length = 32 := by
    have : k.cells.toList.length = 32 := by rw [Array.length_toList, k.size]
    rw [← hk] at this
    exact this
  cases v with
  | agg cs => exact ⟨k, by rw [show cs = k.cells from Array.ext' hk]⟩
  | _ => simp [Value.cells] at hl
end Go.Proofs.Ytafpaomcmjccaaa.Dir
