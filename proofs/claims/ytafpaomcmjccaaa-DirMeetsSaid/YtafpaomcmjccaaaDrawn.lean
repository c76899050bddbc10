/- Small words: a world some orders of which have been drawn. -/
import Derived.Test.YtafpaomcmjccaaaWWords
import Derived.Lib.Bytealg
import Derived.Lib.Hide
import Derived.Lib.SliceRun
set_option linter.unusedVariables false
namespace Go.Proofs.Ytafpaomcmjccaaa.Leaf
open Go.RowKit Go.Proofs.YtafpaomcmjccaaaW.PrintWords

theorem d_heap {w w1 : World} (h : Drawn0 w w1) : w1.heap = w.heap := by obtain ⟨n, rfl⟩ := h.out; rfl
theorem d_cell {w w1 : World} (h : Drawn0 w w1) (a : Addr) : w1.cell? a = w.cell? a := by unfold World.cell?; rw [d_heap h]
theorem d_frozen {w w1 : World} (h : Drawn0 w w1) (a : Addr) : w1.frozen? a = w.frozen? a := by unfold World.frozen?; rw [d_heap h]
theorem d_trans {w w1 w2 : World} (h : Drawn0 w w1) (k : Drawn0 w1 w2) : Drawn0 w w2 := by obtain ⟨n, rfl⟩ := k.out; exact h.step n
theorem d_of_eq {w w1 : World} (h : w1 = w) : Drawn0 w w1 := h ▸ Drawn0.refl _
theorem d_of_ex {w w1 : World} (h : ∃ n, w1 = w.drewN n) : Drawn0 w w1 := ⟨h⟩
theorem d_below {B : Nat} {w w1 w2 : World} (h : Below B w w1) (k : Drawn0 w1 w2) : Below B w w2 := by obtain ⟨n, rfl⟩ := k.out; exact pw_below_drewN h n
/-- A row of bytes that a conversion has made (its mark stands behind the bytes): what its cells hold. -/
def BRow (W : World) (e g n : Nat) (xs : List Int) : Prop :=
  xs.length = n ∧ ∃ (C : Array Value) (m : Nat × Nat), W.heap[g]? = some (.cells C e m) ∧ n ≤ m.1 ∧ ∀ j, j < n → C[j]? = some (.int .u8 (xs.getD j 0))
theorem BRow.made (W : World) (e : Nat) (s : ByteArray) : BRow (Lib.bytesWorld W e s) e W.heap.size s.size (bytesOf s) := by
  refine ⟨bytesOf_length s, _, _, Lib.bytesWorld_at_new W e s, ?_, fun j hj => ?_⟩
  · simp [Lib.bytesCells]
  · have h := Lib.bytesWorld_cell W e s j hj
    rw [World.cell?, Lib.bytesWorld_at_new] at h
    simp only [Option.isSome_none, Bool.false_eq_true, if_false] at h
    rw [h, bytesOf]
    have hl : j < s.data.toList.length := by rw [Array.length_toList]; exact hj
    simp [List.getD_eq_getElem?_getD, List.getElem?_eq_getElem hl]
theorem BRow.cell {W : World} {e g n : Nat} {xs : List Int} (h : BRow W e g n xs) (j : Nat) (hj : j < n) : W.cell? ⟨g, j, none⟩ = some (.int .u8 (xs.getD j 0)) := by
  obtain ⟨_, C, m, hb, _, hc⟩ := h
  simp [World.cell?, hb, hc j hj]
theorem BRow.free {W : World} {e g n : Nat} {xs : List Int} (h : BRow W e g n xs) (j : Nat) (hj : j < n) : W.frozen? ⟨g, j, none⟩ = false := by
  obtain ⟨_, C, m, hb, hm, hc⟩ := h
  simp [World.frozen?, hb]
  omega
theorem BRow.lt {W : World} {e g n : Nat} {xs : List Int} (h : BRow W e g n xs) : g < W.heap.size := by
  obtain ⟨_, C, m, hb, hm, hc⟩ := h
  exact (Array.getElem?_eq_some_iff.1 hb).1
theorem BRow.of_heap {W W' : World} {e g n : Nat} {xs : List Int} (h : BRow W e g n xs) (hh : W'.heap[g]? = W.heap[g]?) : BRow W' e g n xs := by
  obtain ⟨hl, C, m, hb, r⟩ := h
  exact ⟨hl, C, m, hh.trans hb, r⟩
theorem BRow.drawn {W W' : World} {e g n : Nat} {xs : List Int} (h : BRow W e g n xs) (hd : Drawn0 W W') : BRow W' e g n xs := h.of_heap (by rw [d_heap hd])
theorem BRow.below {W W' : World} {e g n : Nat} {xs : List Int} (h : BRow W e g n xs) (hb : Below W.heap.size W W') : BRow W' e g n xs := h.of_heap (hb.block g h.lt)
theorem BRow.set {W : World} {e g n : Nat} {xs : List Int} (h : BRow W e g n xs) (k : Nat) (hk : k < n) (v : Int) : BRow (W.setCell ⟨g, k, none⟩ (.int .u8 v)) e g n (xs.set k v) := by
  obtain ⟨hl, C, m, hb, hm, hc⟩ := h
  refine ⟨by rw [List.length_set, hl], C.setIfInBounds k (.int .u8 v), m, ?_, hm, fun j hj => ?_⟩
  · simp [World.setCell, Array.getElem?_modify, hb]
  · have hcj := hc j hj
    have hjs : j < C.size := (Array.getElem?_eq_some_iff.1 hcj).1
    rw [Array.getElem?_setIfInBounds]
    by_cases e : k = j
    · subst e
      rw [if_pos rfl, if_pos hjs]
      simp [List.getD_eq_getElem?_getD, List.getElem?_set_self (show k < xs.length by omega)]
    · rw [if_neg e, hcj]
      simp [List.getD_eq_getElem?_getD, List.getElem?_set_ne e]
theorem BRow.to_string {P : Program} {W : World} {e g n : Nat} {xs : List Int} (h : BRow W e g n xs) (src dst cap : Nat) (hs : P.underlying src = some (.slice e)) (he : P.underlying e = some (.int .u8)) (hd : P.underlying dst = some .string) :
    (convert src dst (.slice (some ⟨g, 0, none⟩) n cap)).run P W = .ok (.string (strOfNums xs)) W :=
  run_convert_bytes_arg W src e hs he g 0 n cap xs h.1 (fun i hi => by rw [Nat.zero_add]; exact h.cell i hi) dst hd
/-- A literal without an element. -/
theorem emptyR {α : Type} (d : Kd α) (W : World) (base e : Nat) (hb : base ≤ W.heap.size) : d.R e (W.alloc (.cells #[] e)) base (fun _ => True) (.slice (some ⟨W.heap.size, 0, none⟩) 0 0) [] :=
  ⟨fun _ _ => trivial, [], ⟨by simp, .inr ⟨W.heap.size, 0, #[], rfl, hb, heap_alloc_new W _, Nat.le_refl _, by simp [maxLen], by simp, by simp⟩⟩, Reps.none _ _⟩
theorem ne_nil_bool (l : List UInt8) : l.isEmpty = !(l != []) := by cases l <;> rfl
/-- What a cut at a place tells. -/
def cutAt (s : ByteArray) (i : Int) : ByteArray × ByteArray × Bool := if 0 ≤ i then (s.extract 0 i.toNat, s.extract (i.toNat + 1) s.size, true) else (s, ⟨#[]⟩, false)
/-- The bytes of an array, as numbers: where a letter is great, its small one. -/
def lowC (c : Int) : Int := if 65 ≤ c ∧ c ≤ 90 then c + 32 else c
def sameB (a b : ByteArray) : Bool := (bytesOf a).map lowC == (bytesOf b).map lowC
theorem indexByte_lt (l : List UInt8) (c : UInt8) : Lib.indexByte l c < (l.length : Int) ∨ Lib.indexByte l c = -1 := by
  induction l with
  | nil => exact .inr rfl
  | cons b l ih =>
    simp only [Lib.indexByte]
    split
    · left; simp
    · split
      · exact .inr rfl
      · rename_i h1 h2
        rcases ih with ih | ih
        · left; simp only [List.length_cons]; omega
        · exact absurd (by simpa using ih) h2
end Go.Proofs.Ytafpaomcmjccaaa.Leaf
