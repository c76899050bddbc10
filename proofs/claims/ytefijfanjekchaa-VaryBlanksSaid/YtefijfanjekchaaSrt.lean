/- Rows of strings, sorted and made single in place: slices.SortFunc with strings.Compare, slices.Compact. -/
import Derived.Test.YtefijfanjekchaaShelf
import Derived.Test.YtefijfanjekchaaDrawn
import Derived.Lib.SortBridge
import Derived.Lib.RowBridge
import Derived.Sort.Walk0
import Derived.Sort.LotA
set_option linter.unusedVariables false
set_option linter.unusedSimpArgs false
namespace Go.Proofs.Ytefijfanjekchaa.Srt
open Go.RowKit Go.Sort Go.Shelf Go.Proofs.YtefijfanjekchaaW.PrintWords

/-- strings.Compare's answer below 0 is '<' of the bytes. -/
theorem cmp_lt : ∀ a b : List UInt8, ltOf Lib.compareBytes a b = ltStr a b := by
  intro a b
  unfold ltOf ltStr
  rw [← bytesLess_eq]
  induction a generalizing b with
  | nil => cases b <;> rfl
  | cons x a ih =>
    cases b with
    | nil => rfl
    | cons y b =>
      rw [Lib.compareBytes, Op.bytesLess]
      by_cases h1 : x < y
      · simp [h1]
      · by_cases h2 : y < x
        · have h3 : ¬ x = y := fun e => by subst e; exact absurd h2 h1
          simp [h1, h2, h3]
        · have h3 : x = y := UInt8.le_antisymm (UInt8.not_lt.1 h2) (UInt8.not_lt.1 h1)
          subst h3
          simp only [h1, if_false, decide_false, Bool.false_or, beq_self_eq_true, Bool.true_and]
          exact ih b
theorem ltOf_eq : ltOf Lib.compareBytes = ltStr := by funext a b; exact cmp_lt a b
theorem swo : SWO (ltOf Lib.compareBytes) := by rw [ltOf_eq]; exact swo_ltStr
theorem tot (x y : List UInt8) (h1 : ltOf Lib.compareBytes x y = false) (h2 : ltOf Lib.compareBytes y x = false) : x = y := by
  rw [ltOf_eq] at h1 h2
  simp only [ltStr, decide_eq_false_iff_not, List.not_lt] at h1 h2
  exact List.le_antisymm h2 h1
/-- The lines in order. -/
def inOrder (L : List (List UInt8)) : List (List UInt8) := L.mergeSort fun x y => decide (x ≤ y)
theorem order_eq (L : List (List UInt8)) : (L.mergeSort fun x y => !(ltOf Lib.compareBytes) y x) = inOrder L := by
  unfold inOrder
  congr 1
  funext x y
  rw [ltOf_eq]
  show (!decide (y < x)) = decide (x ≤ y)
  by_cases h : x ≤ y
  · have h' : ¬ y < x := List.not_lt.2 h
    simp [h, h']
  · have h' : y < x := List.not_le.1 h
    simp [h, h']
theorem order_length (L : List (List UInt8)) : (inOrder L).length = L.length := List.length_mergeSort _

/-- A row of strings in a block. -/
def SRow (W : World) (g cap : Nat) (L : List (List UInt8)) : Prop :=
  ∃ C : Array Value, W.heap[g]? = some (.cells C 9 (0, 0)) ∧ C.size = cap ∧ L.length ≤ cap ∧ cap ≤ maxLen ∧ ∀ (j : Nat) (y : List UInt8), L[j]? = some y → C[j]? = some (encStr y)
section
variable {W W' : World} {g cap : Nat} {L : List (List UInt8)}
theorem SRow.lt (h : SRow W g cap L) : g < W.heap.size := by
  obtain ⟨C, hb, _⟩ := h
  exact (Array.getElem?_eq_some_iff.1 hb).1
theorem SRow.of_heap (h : SRow W g cap L) (hh : W'.heap[g]? = W.heap[g]?) : SRow W' g cap L := by
  obtain ⟨C, hb, r⟩ := h
  exact ⟨C, hh.trans hb, r⟩
theorem SRow.take (h : SRow W g cap L) (n : Nat) : SRow W g cap (L.take n) := by
  obtain ⟨C, hb, hs, hl, hm, hc⟩ := h
  refine ⟨C, hb, hs, by rw [List.length_take]; omega, hm, fun j y hy => hc j y ?_⟩
  rw [List.getElem?_take] at hy
  split at hy
  · exact hy
  · cases hy
theorem SRow.holds (h : SRow W g cap L) : Holds encStr W g 0 L.toArray := by
  obtain ⟨C, hb, hs, hl, hm, hc⟩ := h
  intro j hj
  have hj' : j < L.length := by simpa using hj
  have := hc j _ (List.getElem?_eq_getElem hj')
  constructor
  · rw [Nat.zero_add, blk_cell hb j, this]
    simp [hj']
  · simp [World.frozen?, hb]
theorem SRow.put (h : SRow W g cap L) (q : Nat) (L' : List (List UInt8)) (hl : L'.length = L.length) : SRow (putRow encStr (Sort.ahead W q) g 0 L'.toArray) g cap L' := by
  obtain ⟨C, hb, hs, hL, hm, hc⟩ := h
  refine ⟨putCells encStr 0 L'.toArray C, ?_, by simp [putCells, hs], by omega, hm, fun j y hy => ?_⟩
  · unfold putRow mapBlock
    show (W.heap.modify g _)[g]? = _
    rw [Array.getElem?_modify, if_pos rfl, hb]; rfl
  · have hj : j < L'.length := (List.getElem?_eq_some_iff.1 hy).1
    have hjC : j < C.size := by omega
    have hyv : L'[j]? = some y := hy
    rw [List.getElem?_eq_getElem hj] at hyv
    have hv : L'[j] = y := Option.some.inj hyv
    simp [putCells, hjC, hj, hv]
theorem SRow.grow (h : SRow W g cap L) (os : Array Obj) : SRow (Sort.grow W os) g cap L := by
  refine h.of_heap ?_
  unfold Sort.grow
  exact Array.getElem?_append_left h.lt
theorem put_below {base q : Nat} (d : Array (List UInt8)) (hg : base ≤ g) : Below base W (putRow encStr (Sort.ahead W q) g 0 d) := by
  refine ⟨rfl, rfl, rfl, ?_, fun i hi => ?_⟩
  · unfold putRow mapBlock; simp [Sort.ahead]
  · unfold putRow mapBlock
    show (W.heap.modify g _)[i]? = _
    rw [Array.getElem?_modify, if_neg (by omega)]
theorem grow_below {base : Nat} (os : Array Obj) (hb : base ≤ W.heap.size) : Below base W (Sort.grow W os) := by
  refine ⟨rfl, rfl, rfl, by simp, fun i hi => ?_⟩
  unfold Sort.grow
  exact Array.getElem?_append_left (by omega)
/-- .. and the printed words' rows. -/
theorem SRow.of_R {base : Nat} {ok : Nat → Prop} {v : Value} {xs : List ByteArray} (h : Kd.R Kd.string 9 W base ok v xs) (h0 : 0 < xs.length) :
    ∃ g cap, v = .slice (some ⟨g, 0, none⟩) xs.length cap ∧ base ≤ g ∧ SRow W g cap (xs.map fun s => s.data.toList) := by
  have ho := Kd.own_of_R (enc := Value.string) (h1 := fun _ => rfl) h
  rcases ho.2 with ⟨_, hz⟩ | ⟨g, cap, C, rfl, hg, hb, hl, hm, hs, ht⟩
  · omega
  refine ⟨g, cap, rfl, hg, C, hb, by omega, by rw [List.length_map]; exact hl, hm, fun j y hy => ?_⟩
  rw [List.getElem?_map] at hy
  obtain ⟨x, hx, rfl⟩ := Option.map_eq_some_iff.1 hy
  have hj : j < xs.length := (List.getElem?_eq_some_iff.1 hx).1
  have := congrArg (fun l : List Value => l[j]?) ht
  simp only [encs, List.getElem?_map, hx, Option.map_some] at this
  rw [Nat.mul_one, List.getElem?_take_of_lt hj, Array.getElem?_toList] at this
  rw [this]
theorem SRow.to_R {base : Nat} {xs : List ByteArray} (h : SRow W g cap (xs.map fun s => s.data.toList)) (hg : base ≤ g) (n : Nat) (hn : n = xs.length) : Kd.R Kd.string 9 W base (fun _ => True) (.slice (some ⟨g, 0, none⟩) n cap) xs := by
  subst hn
  obtain ⟨C, hb, hs, hl, hm, hc⟩ := h
  rw [List.length_map] at hl
  refine Kd.R_of_own (enc := Value.string) (h1 := fun _ => rfl) ⟨by rw [encs_length, Nat.mul_one], .inr ⟨g, cap, C, rfl, hg, hb, hl, hm, by omega, ?_⟩⟩ (fun _ _ => trivial)
  apply List.ext_getElem?
  intro j
  rw [Nat.mul_one]
  rcases Nat.lt_or_ge j xs.length with hj | hj
  · rw [List.getElem?_take_of_lt hj, Array.getElem?_toList, hc j _ (by rw [List.getElem?_map, List.getElem?_eq_getElem hj]; rfl)]
    simp [encs, hj]
  · rw [List.getElem?_eq_none (by rw [List.length_take]; omega), List.getElem?_eq_none (by rw [encs_length]; omega)]
end
/-- slices.SortFunc at strings.Compare. -/
theorem sort (g cap base : Nat) (L : List (List UInt8)) (W : World) (h : SRow W g cap L) (hg : base ≤ g) (hm : L.length ≤ 1000000000) :
    Calls Try.prog 23 #[.slice (some ⟨g, 0, none⟩) L.length cap, .func (.func 24) #[] #[]] W fun e w' => e = .returned (.tuple #[]) ∧ SRow w' g cap (inOrder L) ∧ Below base W w' := by
  have eg : ∀ args w, (callFunc 24 args).run Try.prog w = .ok (.enter 24 args) w := enters_of Try.func24 (by kernel_rfl) rfl
  have hc : CmpReads Try.prog 24 #[] encStr Lib.compareBytes g 0 L.toArray.size W := fun _ _ _ _ x y => (Try.strings_Compare ⟨x.toArray⟩ ⟨y.toArray⟩ _).mono fun e w' ⟨he, hw⟩ => ⟨he, 0, hw⟩
  have hS := Try.slices_SortFunc_total encStr (fun _ => rfl) Lib.compareBytes swo 24 #[] g 0 cap L.toArray W eg hc.lays h.holds h.lt (by rw [List.size_toArray]; omega) tot
  rw [order_eq, List.toList_toArray] at hS
  have hz : L.toArray.size = L.length := by simp
  rw [hz] at hS
  refine hS.mono ?_
  rintro e w' ⟨rfl, n, os, rfl⟩
  refine ⟨rfl, (h.put n (inOrder L) (order_length L)).grow os, (put_below _ hg).trans (grow_below os ?_)⟩
  have := h.lt
  have h2 : (putRow encStr (Sort.ahead W n) g 0 (inOrder L).toArray).heap.size = W.heap.size := by unfold putRow mapBlock; simp [Sort.ahead]
  omega
/-- slices.Compact. -/
theorem compact (g cap base : Nat) (L : List (List UInt8)) (W : World) (h : SRow W g cap L) (hg : base ≤ g) :
    Calls Try.prog 25 #[.slice (some ⟨g, 0, none⟩) L.length cap] W fun e w' => e = .returned (.slice (some ⟨g, 0, none⟩) (Lib.compact L).length cap) ∧ SRow w' g cap (Lib.compact L) ∧ Below base W w' := by
  obtain ⟨C, hb, hs, hl, hm, hc⟩ := id h
  have hcl := Lib.compact_length_le L
  refine (Try.slices_Compact_string g 0 cap L W h.holds (by simp [maxLen] at hm; omega) hl).mono ?_
  rintro e w' ⟨rfl, q, rfl⟩
  refine ⟨rfl, ?_, put_below _ hg⟩
  have h2 := (h.put q (Lib.compact L ++ List.replicate (L.length - (Lib.compact L).length) []) (by rw [List.length_append, List.length_replicate]; omega)).take (Lib.compact L).length
  rwa [List.take_left] at h2
end Go.Proofs.Ytefijfanjekchaa.Srt
