-- PRINTED by print.py (a twelfth state) out of the translation. Not trusted: Lean checks it.
import Derived.Test.YtjliebggdphmpaaGx0
import Derived.Test.YtjliebggdphmpaaGx9
namespace Go.Proofs.Ytjliebggdphmpaa.G
open Go.RowKit Go.Proofs.YtjliebggdphmpaaW.PrintWords Go.Proofs.YtjliebggdphmpaaW.PrintLast Go.Proofs.YtjliebggdphmpaaW.PrintMore
attribute [local go_sem] max2_int min2_int max_two min_two max_three min_three max_four min_four   -- for this text's walks alone
set_option linter.unusedVariables false
set_option linter.unusedSimpArgs false

/-! ### ambryref23_Match: function 29 -/
mutual
def ambryref23_Match.l0 : Nat → ByteArray → ByteArray → List Bool → Int → Option (Bool)
 | 0, _, _, _, _ => none
 | k + 1, x0, x1, x5, x6 => if x6 < (x0.size : Int) then (if 0 ≤ (wrap64 ((x1.size : Int) + 1)) then (if (wrap64 ((x1.size : Int) + 1) : Int).toNat ≤ 281474976710656 then ((some (List.replicate (wrap64 ((x1.size : Int) + 1) : Int).toNat false : List Bool)).bind fun y255 => (if 0 ≤ x6 then (if (bt x0 x6) = 42 then (if (wrap64 (x6 + 1)) < (x0.size : Int) then (if 0 ≤ (wrap64 (x6 + 1)) then (ambryref23_Match.j1 k x0 x1 x5 x6 y255 ((bt x0 (wrap64 (x6 + 1))) == 42)) else (none)) else (ambryref23_Match.j1 k x0 x1 x5 x6 y255 false)) else (ambryref23_Match.j1 k x0 x1 x5 x6 y255 false)) else (none))) else (none)) else (none)) else (if 0 ≤ (x1.size : Int) then (if (x1.size : Int) < (x5.length : Int) then (some (rdOf false x5 (x1.size : Int))) else (none)) else (none))
def ambryref23_Match.j1 : Nat → ByteArray → ByteArray → List Bool → Int → List Bool → Bool → Option (Bool)
 | 0, _, _, _, _, _, _ => none
 | k + 1, x0, x1, x5, x6, x7, x82 => if x82 = true then (ambryref23_Match.l1 k x0 x1 x5 (wrap64 (x6 + 1)) x7 false 0) else (if 0 ≤ x6 then (if x6 < (x0.size : Int) then (if (bt x0 x6) = 42 then (ambryref23_Match.l2 k x0 x1 x5 x6 x7 false 0) else (if (bt x0 x6) = 92 then (if 0 ≤ (wrap64 (x6 + 1)) then (if (wrap64 (x6 + 1)) < (x0.size : Int) then (ambryref23_Match.j4 k x0 x1 x5 (wrap64 (x6 + 1)) x7 (bt x0 (wrap64 (x6 + 1))) ((bt x0 x6) == 63)) else (none)) else (none)) else (ambryref23_Match.j4 k x0 x1 x5 x6 x7 (bt x0 x6) ((bt x0 x6) == 63)))) else (none)) else (none))
def ambryref23_Match.l1 : Nat → ByteArray → ByteArray → List Bool → Int → List Bool → Bool → Int → Option (Bool)
 | 0, _, _, _, _, _, _, _ => none
 | k + 1, x0, x1, x5, x6, x7, x8, x9 => if x9 ≤ (x1.size : Int) then (if x8 = true then (if 0 ≤ x9 then (if x9 < (x7.length : Int) then (ambryref23_Match.l1 k x0 x1 x5 x6 (x7.set (x9 : Int).toNat true) true (wrap64 (x9 + 1))) else (none)) else (none)) else (if 0 ≤ x9 then (if x9 < (x5.length : Int) then (if x9 < (x7.length : Int) then (ambryref23_Match.l1 k x0 x1 x5 x6 (x7.set (x9 : Int).toNat (rdOf false x5 x9)) (rdOf false x5 x9) (wrap64 (x9 + 1))) else (none)) else (none)) else (none))) else (ambryref23_Match.l0 k x0 x1 x7 (wrap64 (x6 + 1)))
def ambryref23_Match.l2 : Nat → ByteArray → ByteArray → List Bool → Int → List Bool → Bool → Int → Option (Bool)
 | 0, _, _, _, _, _, _, _ => none
 | k + 1, x0, x1, x5, x6, x7, x10, x11 => if x11 ≤ (x1.size : Int) then (if x11 > 0 then (if 0 ≤ (wrap64 (x11 - 1)) then (if (wrap64 (x11 - 1)) < (x1.size : Int) then (if (bt x1 (wrap64 (x11 - 1))) = 47 then (if 0 ≤ x11 then (if x11 < (x5.length : Int) then (if x11 < (x7.length : Int) then (ambryref23_Match.l2 k x0 x1 x5 x6 (x7.set (x11 : Int).toNat (rdOf false x5 x11)) (rdOf false x5 x11) (wrap64 (x11 + 1))) else (none)) else (none)) else (none)) else (if x10 = true then (if 0 ≤ x11 then (if x11 < (x7.length : Int) then (ambryref23_Match.l2 k x0 x1 x5 x6 (x7.set (x11 : Int).toNat true) true (wrap64 (x11 + 1))) else (none)) else (none)) else (if 0 ≤ x11 then (if x11 < (x5.length : Int) then (if x11 < (x7.length : Int) then (ambryref23_Match.l2 k x0 x1 x5 x6 (x7.set (x11 : Int).toNat (rdOf false x5 x11)) (rdOf false x5 x11) (wrap64 (x11 + 1))) else (none)) else (none)) else (none)))) else (none)) else (none)) else (if x10 = true then (if 0 ≤ x11 then (if x11 < (x7.length : Int) then (ambryref23_Match.l2 k x0 x1 x5 x6 (x7.set (x11 : Int).toNat true) true (wrap64 (x11 + 1))) else (none)) else (none)) else (if 0 ≤ x11 then (if x11 < (x5.length : Int) then (if x11 < (x7.length : Int) then (ambryref23_Match.l2 k x0 x1 x5 x6 (x7.set (x11 : Int).toNat (rdOf false x5 x11)) (rdOf false x5 x11) (wrap64 (x11 + 1))) else (none)) else (none)) else (none)))) else (ambryref23_Match.l0 k x0 x1 x7 (wrap64 (x6 + 1)))
def ambryref23_Match.j4 : Nat → ByteArray → ByteArray → List Bool → Int → List Bool → Int → Bool → Option (Bool)
 | 0, _, _, _, _, _, _, _ => none
 | k + 1, x0, x1, x5, x6, x7, x12, x13 => ambryref23_Match.l3 k x0 x1 x5 x6 x7 x12 x13 0
def ambryref23_Match.l3 : Nat → ByteArray → ByteArray → List Bool → Int → List Bool → Int → Bool → Int → Option (Bool)
 | 0, _, _, _, _, _, _, _, _ => none
 | k + 1, x0, x1, x5, x6, x7, x12, x13, x14 => if x14 < (x1.size : Int) then (if 0 ≤ x14 then (if x14 < (x5.length : Int) then (if rdOf false x5 x14 = true then (if x13 = true then (if (bt x1 x14) = 47 then (if 0 ≤ (wrap64 (x14 + 1)) then (if (wrap64 (x14 + 1)) < (x7.length : Int) then (ambryref23_Match.l3 k x0 x1 x5 x6 (x7.set ((wrap64 (x14 + 1)) : Int).toNat false) x12 x13 (wrap64 (x14 + 1))) else (none)) else (none)) else (if 0 ≤ (wrap64 (x14 + 1)) then (if (wrap64 (x14 + 1)) < (x7.length : Int) then (ambryref23_Match.l3 k x0 x1 x5 x6 (x7.set ((wrap64 (x14 + 1)) : Int).toNat true) x12 x13 (wrap64 (x14 + 1))) else (none)) else (none))) else (if 0 ≤ (wrap64 (x14 + 1)) then (if (wrap64 (x14 + 1)) < (x7.length : Int) then (ambryref23_Match.l3 k x0 x1 x5 x6 (x7.set ((wrap64 (x14 + 1)) : Int).toNat ((bt x1 x14) == x12)) x12 x13 (wrap64 (x14 + 1))) else (none)) else (none))) else (if 0 ≤ (wrap64 (x14 + 1)) then (if (wrap64 (x14 + 1)) < (x7.length : Int) then (ambryref23_Match.l3 k x0 x1 x5 x6 (x7.set ((wrap64 (x14 + 1)) : Int).toNat false) x12 x13 (wrap64 (x14 + 1))) else (none)) else (none))) else (none)) else (none)) else (ambryref23_Match.l0 k x0 x1 x7 (wrap64 (x6 + 1)))
end
def ambryref23_Match.f (k : Nat) (a0 : ByteArray) (a1 : ByteArray) : Option (Bool) := (ambryref23_Valid.f k a0).bind fun t249 => (if t249 = 0 then (if 0 ≤ (wrap64 ((a1.size : Int) + 1)) then (if (wrap64 ((a1.size : Int) + 1) : Int).toNat ≤ 281474976710656 then ((some (List.replicate (wrap64 ((a1.size : Int) + 1) : Int).toNat false : List Bool)).bind fun y250 => (if 0 < (y250.length : Int) then (ambryref23_Match.l0 k a0 a1 (y250.set (0 : Int).toNat true) 0) else (none))) else (none)) else (none)) else (some false))
theorem ambryref23_Match.mono_l : ∀ k, (∀ y0 y1 y2 y3, LeO (ambryref23_Match.l0 k y0 y1 y2 y3) (ambryref23_Match.l0 (k + 1) y0 y1 y2 y3)) ∧ (∀ y0 y1 y2 y3 y4 y5, LeO (ambryref23_Match.j1 k y0 y1 y2 y3 y4 y5) (ambryref23_Match.j1 (k + 1) y0 y1 y2 y3 y4 y5)) ∧ (∀ y0 y1 y2 y3 y4 y5 y6, LeO (ambryref23_Match.l1 k y0 y1 y2 y3 y4 y5 y6) (ambryref23_Match.l1 (k + 1) y0 y1 y2 y3 y4 y5 y6)) ∧ (∀ y0 y1 y2 y3 y4 y5 y6, LeO (ambryref23_Match.l2 k y0 y1 y2 y3 y4 y5 y6) (ambryref23_Match.l2 (k + 1) y0 y1 y2 y3 y4 y5 y6)) ∧ (∀ y0 y1 y2 y3 y4 y5 y6, LeO (ambryref23_Match.j4 k y0 y1 y2 y3 y4 y5 y6) (ambryref23_Match.j4 (k + 1) y0 y1 y2 y3 y4 y5 y6)) ∧ (∀ y0 y1 y2 y3 y4 y5 y6 y7, LeO (ambryref23_Match.l3 k y0 y1 y2 y3 y4 y5 y6 y7) (ambryref23_Match.l3 (k + 1) y0 y1 y2 y3 y4 y5 y6 y7))
 | 0 => ⟨fun _ _ _ _ r h => by simp [ambryref23_Match.l0] at h, fun _ _ _ _ _ _ r h => by simp [ambryref23_Match.j1] at h, fun _ _ _ _ _ _ _ r h => by simp [ambryref23_Match.l1] at h, fun _ _ _ _ _ _ _ r h => by simp [ambryref23_Match.l2] at h, fun _ _ _ _ _ _ _ r h => by simp [ambryref23_Match.j4] at h, fun _ _ _ _ _ _ _ _ r h => by simp [ambryref23_Match.l3] at h⟩
 | k + 1 => by
  obtain ⟨ih0, ih1, ih2, ih3, ih4, ih5⟩ := ambryref23_Match.mono_l k
  refine ⟨?_, ?_, ?_, ?_, ?_, ?_⟩
  ·intro y0 y1 y2 y3
   unfold ambryref23_Match.l0
   repeat' first
   | (with_reducible exact ih0 _ _ _ _)
   | (with_reducible exact ih1 _ _ _ _ _ _)
   | (with_reducible exact ih2 _ _ _ _ _ _ _)
   | (with_reducible exact ih3 _ _ _ _ _ _ _)
   | (with_reducible exact ih4 _ _ _ _ _ _ _)
   | (with_reducible exact ih5 _ _ _ _ _ _ _ _)
   | (with_reducible exact ambryref23_Valid.mono _ _)
   | (with_reducible exact LeO.refl _)
   | (with_reducible exact LeO.none _)
   | (with_reducible refine LeO.ite ?_ ?_)
   | (with_reducible refine LeO.bind ?_ (fun _ => ?_))
   | exact ih0 _ _ _ _
   | exact ih1 _ _ _ _ _ _
   | exact ih2 _ _ _ _ _ _ _
   | exact ih3 _ _ _ _ _ _ _
   | exact ih4 _ _ _ _ _ _ _
   | exact ih5 _ _ _ _ _ _ _ _
   | exact ambryref23_Valid.mono _ _
   | exact LeO.none _
   | refine LeO.ite ?_ ?_
   | refine LeO.bind ?_ (fun _ => ?_)
  ·intro y0 y1 y2 y3 y4 y5
   unfold ambryref23_Match.j1
   repeat' first
   | (with_reducible exact ih0 _ _ _ _)
   | (with_reducible exact ih1 _ _ _ _ _ _)
   | (with_reducible exact ih2 _ _ _ _ _ _ _)
   | (with_reducible exact ih3 _ _ _ _ _ _ _)
   | (with_reducible exact ih4 _ _ _ _ _ _ _)
   | (with_reducible exact ih5 _ _ _ _ _ _ _ _)
   | (with_reducible exact ambryref23_Valid.mono _ _)
   | (with_reducible exact LeO.refl _)
   | (with_reducible exact LeO.none _)
   | (with_reducible refine LeO.ite ?_ ?_)
   | (with_reducible refine LeO.bind ?_ (fun _ => ?_))
   | exact ih0 _ _ _ _
   | exact ih1 _ _ _ _ _ _
   | exact ih2 _ _ _ _ _ _ _
   | exact ih3 _ _ _ _ _ _ _
   | exact ih4 _ _ _ _ _ _ _
   | exact ih5 _ _ _ _ _ _ _ _
   | exact ambryref23_Valid.mono _ _
   | exact LeO.none _
   | refine LeO.ite ?_ ?_
   | refine LeO.bind ?_ (fun _ => ?_)
  ·intro y0 y1 y2 y3 y4 y5 y6
   unfold ambryref23_Match.l1
   repeat' first
   | (with_reducible exact ih0 _ _ _ _)
   | (with_reducible exact ih1 _ _ _ _ _ _)
   | (with_reducible exact ih2 _ _ _ _ _ _ _)
   | (with_reducible exact ih3 _ _ _ _ _ _ _)
   | (with_reducible exact ih4 _ _ _ _ _ _ _)
   | (with_reducible exact ih5 _ _ _ _ _ _ _ _)
   | (with_reducible exact ambryref23_Valid.mono _ _)
   | (with_reducible exact LeO.refl _)
   | (with_reducible exact LeO.none _)
   | (with_reducible refine LeO.ite ?_ ?_)
   | (with_reducible refine LeO.bind ?_ (fun _ => ?_))
   | exact ih0 _ _ _ _
   | exact ih1 _ _ _ _ _ _
   | exact ih2 _ _ _ _ _ _ _
   | exact ih3 _ _ _ _ _ _ _
   | exact ih4 _ _ _ _ _ _ _
   | exact ih5 _ _ _ _ _ _ _ _
   | exact ambryref23_Valid.mono _ _
   | exact LeO.none _
   | refine LeO.ite ?_ ?_
   | refine LeO.bind ?_ (fun _ => ?_)
  ·intro y0 y1 y2 y3 y4 y5 y6
   unfold ambryref23_Match.l2
   repeat' first
   | (with_reducible exact ih0 _ _ _ _)
   | (with_reducible exact ih1 _ _ _ _ _ _)
   | (with_reducible exact ih2 _ _ _ _ _ _ _)
   | (with_reducible exact ih3 _ _ _ _ _ _ _)
   | (with_reducible exact ih4 _ _ _ _ _ _ _)
   | (with_reducible exact ih5 _ _ _ _ _ _ _ _)
   | (with_reducible exact ambryref23_Valid.mono _ _)
   | (with_reducible exact LeO.refl _)
   | (with_reducible exact LeO.none _)
   | (with_reducible refine LeO.ite ?_ ?_)
   | (with_reducible refine LeO.bind ?_ (fun _ => ?_))
   | exact ih0 _ _ _ _
   | exact ih1 _ _ _ _ _ _
   | exact ih2 _ _ _ _ _ _ _
   | exact ih3 _ _ _ _ _ _ _
   | exact ih4 _ _ _ _ _ _ _
   | exact ih5 _ _ _ _ _ _ _ _
   | exact ambryref23_Valid.mono _ _
   | exact LeO.none _
   | refine LeO.ite ?_ ?_
   | refine LeO.bind ?_ (fun _ => ?_)
  ·intro y0 y1 y2 y3 y4 y5 y6
   unfold ambryref23_Match.j4
   repeat' first
   | (with_reducible exact ih0 _ _ _ _)
   | (with_reducible exact ih1 _ _ _ _ _ _)
   | (with_reducible exact ih2 _ _ _ _ _ _ _)
   | (with_reducible exact ih3 _ _ _ _ _ _ _)
   | (with_reducible exact ih4 _ _ _ _ _ _ _)
   | (with_reducible exact ih5 _ _ _ _ _ _ _ _)
   | (with_reducible exact ambryref23_Valid.mono _ _)
   | (with_reducible exact LeO.refl _)
   | (with_reducible exact LeO.none _)
   | (with_reducible refine LeO.ite ?_ ?_)
   | (with_reducible refine LeO.bind ?_ (fun _ => ?_))
   | exact ih0 _ _ _ _
   | exact ih1 _ _ _ _ _ _
   | exact ih2 _ _ _ _ _ _ _
   | exact ih3 _ _ _ _ _ _ _
   | exact ih4 _ _ _ _ _ _ _
   | exact ih5 _ _ _ _ _ _ _ _
   | exact ambryref23_Valid.mono _ _
   | exact LeO.none _
   | refine LeO.ite ?_ ?_
   | refine LeO.bind ?_ (fun _ => ?_)
  ·intro y0 y1 y2 y3 y4 y5 y6 y7
   unfold ambryref23_Match.l3
   repeat' first
   | (with_reducible exact ih0 _ _ _ _)
   | (with_reducible exact ih1 _ _ _ _ _ _)
   | (with_reducible exact ih2 _ _ _ _ _ _ _)
   | (with_reducible exact ih3 _ _ _ _ _ _ _)
   | (with_reducible exact ih4 _ _ _ _ _ _ _)
   | (with_reducible exact ih5 _ _ _ _ _ _ _ _)
   | (with_reducible exact ambryref23_Valid.mono _ _)
   | (with_reducible exact LeO.refl _)
   | (with_reducible exact LeO.none _)
   | (with_reducible refine LeO.ite ?_ ?_)
   | (with_reducible refine LeO.bind ?_ (fun _ => ?_))
   | exact ih0 _ _ _ _
   | exact ih1 _ _ _ _ _ _
   | exact ih2 _ _ _ _ _ _ _
   | exact ih3 _ _ _ _ _ _ _
   | exact ih4 _ _ _ _ _ _ _
   | exact ih5 _ _ _ _ _ _ _ _
   | exact ambryref23_Valid.mono _ _
   | exact LeO.none _
   | refine LeO.ite ?_ ?_
   | refine LeO.bind ?_ (fun _ => ?_)
theorem ambryref23_Match.mono : ∀ a0 a1 k, LeO (ambryref23_Match.f k a0 a1) (ambryref23_Match.f (k + 1) a0 a1) := by
 intro a0 a1 k
 obtain ⟨ih0, ih1, ih2, ih3, ih4, ih5⟩ := ambryref23_Match.mono_l k
 unfold ambryref23_Match.f
 repeat' first
   | (with_reducible exact ih0 _ _ _ _)
   | (with_reducible exact ih1 _ _ _ _ _ _)
   | (with_reducible exact ih2 _ _ _ _ _ _ _)
   | (with_reducible exact ih3 _ _ _ _ _ _ _)
   | (with_reducible exact ih4 _ _ _ _ _ _ _)
   | (with_reducible exact ih5 _ _ _ _ _ _ _ _)
   | (with_reducible exact ambryref23_Valid.mono _ _)
   | (with_reducible exact LeO.refl _)
   | (with_reducible exact LeO.none _)
   | (with_reducible refine LeO.ite ?_ ?_)
   | (with_reducible refine LeO.bind ?_ (fun _ => ?_))
   | exact ih0 _ _ _ _
   | exact ih1 _ _ _ _ _ _
   | exact ih2 _ _ _ _ _ _ _
   | exact ih3 _ _ _ _ _ _ _
   | exact ih4 _ _ _ _ _ _ _
   | exact ih5 _ _ _ _ _ _ _ _
   | exact ambryref23_Valid.mono _ _
   | exact LeO.none _
   | refine LeO.ite ?_ ?_
   | refine LeO.bind ?_ (fun _ => ?_)
set_option maxHeartbeats 8000000 in
set_option maxRecDepth 100000 in
theorem ambryref23_Match.calls (k : Nat) (a0 : ByteArray) (a1 : ByteArray) (r : Bool) (w : World) (h : ambryref23_Match.f k a0 a1 = some r) :
  Calls Try.prog 29 #[.string a0, .string a1] w fun e w' => e = .returned (.bool r) ∧ Below w.heap.size w w' := by
 have HB := Aside0.mk (Below.refl w.heap.size w)
 have H : ((ambryref23_Valid.f k a0).bind fun t249 => (if t249 = 0 then (if 0 ≤ (wrap64 ((a1.size : Int) + 1)) then (if (wrap64 ((a1.size : Int) + 1) : Int).toNat ≤ 281474976710656 then ((some (List.replicate (wrap64 ((a1.size : Int) + 1) : Int).toNat false : List Bool)).bind fun y250 => (if 0 < (y250.length : Int) then (ambryref23_Match.l0 k a0 a1 (y250.set (0 : Int).toNat true) 0) else (none))) else (none)) else (none)) else (some false))) = some r := h
 clear h
 replace H := Option.bind_eq_some_iff.mp H
 obtain ⟨t249, A30, H⟩ := H
 replace H : (if t249 = 0 then (if 0 ≤ (wrap64 ((a1.size : Int) + 1)) then (if (wrap64 ((a1.size : Int) + 1) : Int).toNat ≤ 281474976710656 then ((some (List.replicate (wrap64 ((a1.size : Int) + 1) : Int).toNat false : List Bool)).bind fun y250 => (if 0 < (y250.length : Int) then (ambryref23_Match.l0 k a0 a1 (y250.set (0 : Int).toNat true) 0) else (none))) else (none)) else (none)) else (some false)) = some r := H
 have A3 := Aside0.mk A30
 clear A30
 by_cases c4 : t249 = 0
 ·rw [if_pos c4] at H
  have c4b0 : (t249 == 0) = true := beq_iff_eq.mpr c4
  have c4b1 : (t249 != 0) = false := bne_eq_false_iff_eq.mpr c4
  clear c4
  obtain ⟨ji5, hji5⟩ : ∃ j_ : Int, (wrap64 ((a1.size : Int) + 1)) = j_ := ⟨_, rfl⟩
  replace H : (if 0 ≤ (ji5) then (if (ji5 : Int).toNat ≤ 281474976710656 then ((some (List.replicate (ji5 : Int).toNat false : List Bool)).bind fun y250 => (if 0 < (y250.length : Int) then (ambryref23_Match.l0 k a0 a1 (y250.set (0 : Int).toNat true) 0) else (none))) else (none)) else (none)) = some r := by first | (rw [hji5] at H; exact H) | (simp only [hji5] at H ⊢; exact H)
  (try rw [hji5] at A3)
  have hji5w : (IntKind.i64.wrap ((a1.size : Int) + 1)) = ji5 := (i64_w _).trans hji5
  by_cases c6 : 0 ≤ (ji5)
  ·rw [if_pos c6] at H
   have c6b0 := eq_true c6
   have c6b1 : decide (0 ≤ (ji5)) = true := decide_eq_true c6
   clear c6
   by_cases c7 : (ji5 : Int).toNat ≤ 281474976710656
   ·rw [if_pos c7] at H
    have c7b0 := eq_true c7
    have c7b1 : decide ((ji5 : Int).toNat ≤ 281474976710656) = true := decide_eq_true c7
    clear c7
    obtain ⟨y250, hy250⟩ : ∃ y_ : List Bool, y_ = (List.replicate (ji5 : Int).toNat false) := ⟨_, rfl⟩
    replace H : (if 0 < (y250.length : Int) then (ambryref23_Match.l0 k a0 a1 (y250.set (0 : Int).toNat true) 0) else (none)) = some r := by first | (rw [hy250]; with_reducible exact H) | (have H2_ := (Option.bind_some _ _).symm.trans H; rw [hy250]; with_reducible exact H2_) | (have H2_ := (Option.bind_some _ _).symm.trans H; with_reducible exact H2_) | with_reducible exact H | (rw [hy250]; exact H) | exact H
    have Ny250 := Aside0.mk hy250
    clear hy250
    by_cases c8 : 0 < (y250.length : Int)
    ·rw [if_pos c8] at H
     have c8b0 : decide (0 < (y250.length : Int)) = true := decide_eq_true c8
     have c8b1 : decide (0 < y250.length) = true := decide_eq_true (by omega)
     clear c8
     obtain ⟨y253, hy253⟩ : ∃ y_ : List Bool, y_ = (y250.set (0 : Int).toNat true) := ⟨_, rfl⟩
     replace H : (ambryref23_Match.l0 k a0 a1 y253 0) = some r := by first | (rw [hy253]; with_reducible exact H) | (have H2_ := (Option.bind_some _ _).symm.trans H; rw [hy253]; with_reducible exact H2_) | (have H2_ := (Option.bind_some _ _).symm.trans H; with_reducible exact H2_) | with_reducible exact H | (rw [hy253]; exact H) | exact H
     have Ny253 := Aside0.mk hy253
     clear hy253
     have H' := Aside0.mk H
     clear H
     go_enter Try.func29, Try.ntmps29
     go_wp2_with (first | (go_at_call 21; (with_reducible refine (ambryref23_Valid.calls k a0 t249 _ A3.out).mono ?_); rintro e w' ⟨rfl, ⟨nd, rfl⟩⟩; (try first | exact ⟨rfl, _, World.drewN_drewN _ _ _⟩ | exact ⟨rfl, _, Eq.trans (World.drewN_drewN _ _ _) (congrArg (World.drewN _) (Nat.add_assoc _ _ _))⟩)) | ((with_reducible refine gate_dst (N := 21) rfl ?_); (try (refine gate_guard (by rfl) ?_; dsimp only)); refine Kd.R_make Kd.bool _ 4 rfl (N := 21) rfl 74 _ _ rfl ji5 rfl rfl Try.underlying74 (.bool false) 1 info4 rfl (by decide) (by omega) false (ok := fun _ => True) (okp := fun _ => True) rfl (fun _ hk => hk) trivial (of_decide_eq_true (by first | (with_reducible assumption) | assumption)) (Nat.le_trans (Nat.mul_le_mul_right _ (of_decide_eq_true (by first | (with_reducible assumption) | assumption) : ji5.toNat ≤ 281474976710656)) (by omega)) (Below.refl _ _) (Nat.le_refl _) ?_; intro v251 w10 ho11 hb hg_ hnew_; clear hg_ hnew_; (first | rw [← Ny250.out] at ho11 | (simp only [Int.reduceToNat] at ho11; rw [← Ny250.out] at ho11)); have n0_ := Aside0.mk (Kd.R_lower ho11 (below_size (by repeat (first | (with_reducible first | exact HB.out | apply below_alloc | apply pw_below_drewN | apply below_drew1) | exact HB.out)))); have n1_ := Aside0.mk (below_step (by repeat (first | (with_reducible first | exact HB.out | apply below_alloc | apply pw_below_drewN | apply below_drew1) | exact HB.out)) hb); clear HB; have HO252 := n0_; have HB := n1_; clear n0_ n1_; clear hb ho11; have p9 : 0 ≤ (0 : Int) := (by omega); have q9 : (0 : Int) < ((y250.length : Int) : Int) := of_decide_eq_true (by first | (with_reducible assumption) | assumption); have qi9 : (0 < y250.length) = True := eq_true (by omega); obtain ⟨go9, co9, eo9, gb9, gl9, cl9, HG9⟩ := Kd.R_form HO252.out (by omega); (first | cases eo9 | (injection eo9 with ea_ en_ ec_; (first | subst ea_ | (injection ea_ with ea_; subst ea_)); subst ec_; clear en_)); have GB9 := Aside0.mk gb9; have GG9 := Aside0.mk HG9; clear gb9 gl9 HG9; obtain ⟨hx9_0, hf9_0⟩ := Kd.R_celln false HO252.out (0 : Int) p9 q9; (try rw [show ((0 : Int)).toNat = 0 from rfl] at hx9_0); (try simp only [Nat.reduceMul, Nat.zero_mul, Nat.zero_add, Nat.reduceAdd] at hx9_0); (try rw [show ((0 : Int)).toNat = 0 from rfl] at hf9_0); (try simp only [Nat.reduceMul, Nat.zero_mul, Nat.zero_add, Nat.reduceAdd] at hf9_0); replace p9 := eq_true p9; replace q9 := eq_true q9; obtain ⟨hy12_, hz12_⟩ := Kd.R_celln false HO252.out (0 : Int) (by omega) (of_decide_eq_true (by first | (with_reducible assumption) | assumption)); (try simp only [Int.reduceToNat, Int.toNat_zero, Int.toNat_ofNat, Nat.reduceMul, Nat.zero_mul, Nat.zero_add] at hy12_ hz12_); (try rw [show ((0 : Int)).toNat = 0 from rfl] at hy12_); (try rw [show ((0 : Int)).toNat = 0 from rfl] at hz12_); have HP12 := Kd.R_putg HO252.out (0 : Int) true) | ((with_reducible refine gate_store (t := 4) (p := 23) rfl ?_); (try (rw [drewN_self w10]; generalize hq_ : World.drewN w10 _ = w10; have n0_ := Aside0.mk (Kd.R_at hq_ HO252.out); have n1_ := Aside0.mk (below_at hq_ HB.out); clear hq_ HO252 HB; have HO252 := n0_; have HB := n1_; clear n0_ n1_; (try (obtain ⟨hy12_, hz12_⟩ := Kd.R_celln false HO252.out (0 : Int) (by omega) (of_decide_eq_true (by first | (with_reducible assumption) | assumption)))); (try (try simp only [Int.reduceToNat, Int.toNat_zero, Int.toNat_ofNat, Nat.reduceMul, Nat.zero_mul, Nat.zero_add] at hy12_ hz12_)); (try (try rw [show ((0 : Int)).toNat = 0 from rfl] at hy12_)); (try (try rw [show ((0 : Int)).toNat = 0 from rfl] at hz12_)); (try (have HP12 := Kd.R_putg HO252.out (0 : Int) true)))); refine store_event (t := 4) (p := 23) (v := ?vo_w13) (w1 := (w10.setCell ⟨go9, (0 : Int).toNat, none⟩ (.bool true))) ?hg ?ho ?hn ?hr ?_; (case ho => rfl); (case hg => rfl); (case hn => rfl); (case hr => first | (go_simp; done) | (go_simp; rfl)); intro w13 hw; have hg : w10.grownBy w13 (some go9) := (by rw [hw]; exact HP12.2); have hp_ : Kd.R Kd.bool 4 w13 w.heap.size (fun _ => True) (.slice (some ⟨go9, 0, none⟩) y250.length co9) y253 := (by rw [hw, Ny253.out]; exact HP12.1); clear HP12; have n0_ := Aside0.mk (hp_); have n1_ := Aside0.mk ((by rw [hw]; exact below_set (HB.out) GB9.out : Below w.heap.size w w13)); clear HO252; clear HB; have HO252 := n0_; have HB := n1_; clear n0_ n1_; clear hg hw hp_))
     repeat (go_quiet (first | (go_at_call 21; (with_reducible refine (ambryref23_Valid.calls k a0 t249 _ A3.out).mono ?_); rintro e w' ⟨rfl, ⟨nd, rfl⟩⟩; (try first | exact ⟨rfl, _, World.drewN_drewN _ _ _⟩ | exact ⟨rfl, _, Eq.trans (World.drewN_drewN _ _ _) (congrArg (World.drewN _) (Nat.add_assoc _ _ _))⟩)) | ((with_reducible refine gate_dst (N := 21) rfl ?_); (try (refine gate_guard (by rfl) ?_; dsimp only)); refine Kd.R_make Kd.bool _ 4 rfl (N := 21) rfl 74 _ _ rfl ji5 rfl rfl Try.underlying74 (.bool false) 1 info4 rfl (by decide) (by omega) false (ok := fun _ => True) (okp := fun _ => True) rfl (fun _ hk => hk) trivial (of_decide_eq_true (by first | (with_reducible assumption) | assumption)) (Nat.le_trans (Nat.mul_le_mul_right _ (of_decide_eq_true (by first | (with_reducible assumption) | assumption) : ji5.toNat ≤ 281474976710656)) (by omega)) (Below.refl _ _) (Nat.le_refl _) ?_; intro v251 w10 ho11 hb hg_ hnew_; clear hg_ hnew_; (first | rw [← Ny250.out] at ho11 | (simp only [Int.reduceToNat] at ho11; rw [← Ny250.out] at ho11)); have n0_ := Aside0.mk (Kd.R_lower ho11 (below_size (by repeat (first | (with_reducible first | exact HB.out | apply below_alloc | apply pw_below_drewN | apply below_drew1) | exact HB.out)))); have n1_ := Aside0.mk (below_step (by repeat (first | (with_reducible first | exact HB.out | apply below_alloc | apply pw_below_drewN | apply below_drew1) | exact HB.out)) hb); clear HB; have HO252 := n0_; have HB := n1_; clear n0_ n1_; clear hb ho11; have p9 : 0 ≤ (0 : Int) := (by omega); have q9 : (0 : Int) < ((y250.length : Int) : Int) := of_decide_eq_true (by first | (with_reducible assumption) | assumption); have qi9 : (0 < y250.length) = True := eq_true (by omega); obtain ⟨go9, co9, eo9, gb9, gl9, cl9, HG9⟩ := Kd.R_form HO252.out (by omega); (first | cases eo9 | (injection eo9 with ea_ en_ ec_; (first | subst ea_ | (injection ea_ with ea_; subst ea_)); subst ec_; clear en_)); have GB9 := Aside0.mk gb9; have GG9 := Aside0.mk HG9; clear gb9 gl9 HG9; obtain ⟨hx9_0, hf9_0⟩ := Kd.R_celln false HO252.out (0 : Int) p9 q9; (try rw [show ((0 : Int)).toNat = 0 from rfl] at hx9_0); (try simp only [Nat.reduceMul, Nat.zero_mul, Nat.zero_add, Nat.reduceAdd] at hx9_0); (try rw [show ((0 : Int)).toNat = 0 from rfl] at hf9_0); (try simp only [Nat.reduceMul, Nat.zero_mul, Nat.zero_add, Nat.reduceAdd] at hf9_0); replace p9 := eq_true p9; replace q9 := eq_true q9; obtain ⟨hy12_, hz12_⟩ := Kd.R_celln false HO252.out (0 : Int) (by omega) (of_decide_eq_true (by first | (with_reducible assumption) | assumption)); (try simp only [Int.reduceToNat, Int.toNat_zero, Int.toNat_ofNat, Nat.reduceMul, Nat.zero_mul, Nat.zero_add] at hy12_ hz12_); (try rw [show ((0 : Int)).toNat = 0 from rfl] at hy12_); (try rw [show ((0 : Int)).toNat = 0 from rfl] at hz12_); have HP12 := Kd.R_putg HO252.out (0 : Int) true) | ((with_reducible refine gate_store (t := 4) (p := 23) rfl ?_); (try (rw [drewN_self w10]; generalize hq_ : World.drewN w10 _ = w10; have n0_ := Aside0.mk (Kd.R_at hq_ HO252.out); have n1_ := Aside0.mk (below_at hq_ HB.out); clear hq_ HO252 HB; have HO252 := n0_; have HB := n1_; clear n0_ n1_; (try (obtain ⟨hy12_, hz12_⟩ := Kd.R_celln false HO252.out (0 : Int) (by omega) (of_decide_eq_true (by first | (with_reducible assumption) | assumption)))); (try (try simp only [Int.reduceToNat, Int.toNat_zero, Int.toNat_ofNat, Nat.reduceMul, Nat.zero_mul, Nat.zero_add] at hy12_ hz12_)); (try (try rw [show ((0 : Int)).toNat = 0 from rfl] at hy12_)); (try (try rw [show ((0 : Int)).toNat = 0 from rfl] at hz12_)); (try (have HP12 := Kd.R_putg HO252.out (0 : Int) true)))); refine store_event (t := 4) (p := 23) (v := ?vo_w13) (w1 := (w10.setCell ⟨go9, (0 : Int).toNat, none⟩ (.bool true))) ?hg ?ho ?hn ?hr ?_; (case ho => rfl); (case hg => rfl); (case hn => rfl); (case hr => first | (go_simp; done) | (go_simp; rfl)); intro w13 hw; have hg : w10.grownBy w13 (some go9) := (by rw [hw]; exact HP12.2); have hp_ : Kd.R Kd.bool 4 w13 w.heap.size (fun _ => True) (.slice (some ⟨go9, 0, none⟩) y250.length co9) y253 := (by rw [hw, Ny253.out]; exact HP12.1); clear HP12; have n0_ := Aside0.mk (hp_); have n1_ := Aside0.mk ((by rw [hw]; exact below_set (HB.out) GB9.out : Below w.heap.size w w13)); clear HO252; clear HB; have HO252 := n0_; have HB := n1_; clear n0_ n1_; clear hg hw hp_)); try go_wp2_with (first | (go_at_call 21; (with_reducible refine (ambryref23_Valid.calls k a0 t249 _ A3.out).mono ?_); rintro e w' ⟨rfl, ⟨nd, rfl⟩⟩; (try first | exact ⟨rfl, _, World.drewN_drewN _ _ _⟩ | exact ⟨rfl, _, Eq.trans (World.drewN_drewN _ _ _) (congrArg (World.drewN _) (Nat.add_assoc _ _ _))⟩)) | ((with_reducible refine gate_dst (N := 21) rfl ?_); (try (refine gate_guard (by rfl) ?_; dsimp only)); refine Kd.R_make Kd.bool _ 4 rfl (N := 21) rfl 74 _ _ rfl ji5 rfl rfl Try.underlying74 (.bool false) 1 info4 rfl (by decide) (by omega) false (ok := fun _ => True) (okp := fun _ => True) rfl (fun _ hk => hk) trivial (of_decide_eq_true (by first | (with_reducible assumption) | assumption)) (Nat.le_trans (Nat.mul_le_mul_right _ (of_decide_eq_true (by first | (with_reducible assumption) | assumption) : ji5.toNat ≤ 281474976710656)) (by omega)) (Below.refl _ _) (Nat.le_refl _) ?_; intro v251 w10 ho11 hb hg_ hnew_; clear hg_ hnew_; (first | rw [← Ny250.out] at ho11 | (simp only [Int.reduceToNat] at ho11; rw [← Ny250.out] at ho11)); have n0_ := Aside0.mk (Kd.R_lower ho11 (below_size (by repeat (first | (with_reducible first | exact HB.out | apply below_alloc | apply pw_below_drewN | apply below_drew1) | exact HB.out)))); have n1_ := Aside0.mk (below_step (by repeat (first | (with_reducible first | exact HB.out | apply below_alloc | apply pw_below_drewN | apply below_drew1) | exact HB.out)) hb); clear HB; have HO252 := n0_; have HB := n1_; clear n0_ n1_; clear hb ho11; have p9 : 0 ≤ (0 : Int) := (by omega); have q9 : (0 : Int) < ((y250.length : Int) : Int) := of_decide_eq_true (by first | (with_reducible assumption) | assumption); have qi9 : (0 < y250.length) = True := eq_true (by omega); obtain ⟨go9, co9, eo9, gb9, gl9, cl9, HG9⟩ := Kd.R_form HO252.out (by omega); (first | cases eo9 | (injection eo9 with ea_ en_ ec_; (first | subst ea_ | (injection ea_ with ea_; subst ea_)); subst ec_; clear en_)); have GB9 := Aside0.mk gb9; have GG9 := Aside0.mk HG9; clear gb9 gl9 HG9; obtain ⟨hx9_0, hf9_0⟩ := Kd.R_celln false HO252.out (0 : Int) p9 q9; (try rw [show ((0 : Int)).toNat = 0 from rfl] at hx9_0); (try simp only [Nat.reduceMul, Nat.zero_mul, Nat.zero_add, Nat.reduceAdd] at hx9_0); (try rw [show ((0 : Int)).toNat = 0 from rfl] at hf9_0); (try simp only [Nat.reduceMul, Nat.zero_mul, Nat.zero_add, Nat.reduceAdd] at hf9_0); replace p9 := eq_true p9; replace q9 := eq_true q9; obtain ⟨hy12_, hz12_⟩ := Kd.R_celln false HO252.out (0 : Int) (by omega) (of_decide_eq_true (by first | (with_reducible assumption) | assumption)); (try simp only [Int.reduceToNat, Int.toNat_zero, Int.toNat_ofNat, Nat.reduceMul, Nat.zero_mul, Nat.zero_add] at hy12_ hz12_); (try rw [show ((0 : Int)).toNat = 0 from rfl] at hy12_); (try rw [show ((0 : Int)).toNat = 0 from rfl] at hz12_); have HP12 := Kd.R_putg HO252.out (0 : Int) true) | ((with_reducible refine gate_store (t := 4) (p := 23) rfl ?_); (try (rw [drewN_self w10]; generalize hq_ : World.drewN w10 _ = w10; have n0_ := Aside0.mk (Kd.R_at hq_ HO252.out); have n1_ := Aside0.mk (below_at hq_ HB.out); clear hq_ HO252 HB; have HO252 := n0_; have HB := n1_; clear n0_ n1_; (try (obtain ⟨hy12_, hz12_⟩ := Kd.R_celln false HO252.out (0 : Int) (by omega) (of_decide_eq_true (by first | (with_reducible assumption) | assumption)))); (try (try simp only [Int.reduceToNat, Int.toNat_zero, Int.toNat_ofNat, Nat.reduceMul, Nat.zero_mul, Nat.zero_add] at hy12_ hz12_)); (try (try rw [show ((0 : Int)).toNat = 0 from rfl] at hy12_)); (try (try rw [show ((0 : Int)).toNat = 0 from rfl] at hz12_)); (try (have HP12 := Kd.R_putg HO252.out (0 : Int) true)))); refine store_event (t := 4) (p := 23) (v := ?vo_w13) (w1 := (w10.setCell ⟨go9, (0 : Int).toNat, none⟩ (.bool true))) ?hg ?ho ?hn ?hr ?_; (case ho => rfl); (case hg => rfl); (case hn => rfl); (case hr => first | (go_simp; done) | (go_simp; rfl)); intro w13 hw; have hg : w10.grownBy w13 (some go9) := (by rw [hw]; exact HP12.2); have hp_ : Kd.R Kd.bool 4 w13 w.heap.size (fun _ => True) (.slice (some ⟨go9, 0, none⟩) y250.length co9) y253 := (by rw [hw, Ny253.out]; exact HP12.1); clear HP12; have n0_ := Aside0.mk (hp_); have n1_ := Aside0.mk ((by rw [hw]; exact below_set (HB.out) GB9.out : Below w.heap.size w w13)); clear HO252; clear HB; have HO252 := n0_; have HB := n1_; clear n0_ n1_; clear hg hw hp_)))
     go_loopg [5, 6] k (fun kq v5 v6 w' => ∃ (x5_1 : List Bool) (x6_1 : Int), v6 = .int .i64 x6_1 ∧ Aside0 (ambryref23_Match.l0 kq a0 a1 x5_1 x6_1 = some r) ∧ Aside0 (kq ≤ k) ∧ Aside0 (Kd.R Kd.bool 4 w' w.heap.size (fun _ => True) v5 x5_1) ∧ Aside0 (Below w.heap.size w w'))
     case atStart => exact ⟨(y253), (0), (by first | rfl | (simp; done) | (simp [*]; done)), H', ⟨Nat.le_refl _⟩, ⟨by (with_reducible repeat (first | apply Kd.R_alloc | apply Kd.R_drewN | apply Kd.R_drew)); exact HO252.out⟩, ⟨by repeat (first | (with_reducible first | exact HB.out | apply below_alloc | apply pw_below_drewN | apply below_drew1) | exact HB.out)⟩⟩
     case round =>
      clear H'
      try clear hji5
      try clear hji5w
      try clear c2
      try clear p2
      try clear c4
      try clear c4b0
      try clear c4b1
      try clear c6
      try clear c6b0
      try clear c6b1
      try clear p6
      try clear c7
      try clear c7b0
      try clear c7b1
      try clear c8
      try clear c8b0
      try clear c8b1
      try clear p9
      try clear q9
      try clear hx9
      try clear qi9
      try clear hf9
      try clear hx9_0
      try clear p9
      try clear q9
      obtain ⟨x5_1, x6_1, rfl, HA, HK1, HO_5, HB⟩ := hrel
      cases gk with
      | zero => exact absurd HA.out (by simp [ambryref23_Match.l0])
      | succ k1 =>
       have H := HA.out
       clear HA
       simp only [ambryref23_Match.l0] at H
       by_cases c14 : x6_1 < (a0.size : Int)
       ·rw [if_pos c14] at H
        have c14b0 : decide (x6_1 < (a0.size : Int)) = true := decide_eq_true c14
        clear c14
        obtain ⟨ji15, hji15⟩ : ∃ j_ : Int, (wrap64 ((a1.size : Int) + 1)) = j_ := ⟨_, rfl⟩
        replace H : (if 0 ≤ (ji15) then (if (ji15 : Int).toNat ≤ 281474976710656 then ((some (List.replicate (ji15 : Int).toNat false : List Bool)).bind fun y255 => (if 0 ≤ x6_1 then (if (bt a0 x6_1) = 42 then (if (wrap64 (x6_1 + 1)) < (a0.size : Int) then (if 0 ≤ (wrap64 (x6_1 + 1)) then (ambryref23_Match.j1 k1 a0 a1 x5_1 x6_1 y255 ((bt a0 (wrap64 (x6_1 + 1))) == 42)) else (none)) else (ambryref23_Match.j1 k1 a0 a1 x5_1 x6_1 y255 false)) else (ambryref23_Match.j1 k1 a0 a1 x5_1 x6_1 y255 false)) else (none))) else (none)) else (none)) = some r := by first | (rw [hji15] at H; exact H) | (simp only [hji15] at H ⊢; exact H)
        have hji15w : (IntKind.i64.wrap ((a1.size : Int) + 1)) = ji15 := (i64_w _).trans hji15
        by_cases c16 : 0 ≤ (ji15)
        ·rw [if_pos c16] at H
         have c16b0 := eq_true c16
         have c16b1 : decide (0 ≤ (ji15)) = true := decide_eq_true c16
         clear c16
         by_cases c17 : (ji15 : Int).toNat ≤ 281474976710656
         ·rw [if_pos c17] at H
          have c17b0 := eq_true c17
          have c17b1 : decide ((ji15 : Int).toNat ≤ 281474976710656) = true := decide_eq_true c17
          clear c17
          obtain ⟨y255, hy255⟩ : ∃ y_ : List Bool, y_ = (List.replicate (ji15 : Int).toNat false) := ⟨_, rfl⟩
          replace H : (if 0 ≤ x6_1 then (if (bt a0 x6_1) = 42 then (if (wrap64 (x6_1 + 1)) < (a0.size : Int) then (if 0 ≤ (wrap64 (x6_1 + 1)) then (ambryref23_Match.j1 k1 a0 a1 x5_1 x6_1 y255 ((bt a0 (wrap64 (x6_1 + 1))) == 42)) else (none)) else (ambryref23_Match.j1 k1 a0 a1 x5_1 x6_1 y255 false)) else (ambryref23_Match.j1 k1 a0 a1 x5_1 x6_1 y255 false)) else (none)) = some r := by first | (rw [hy255]; with_reducible exact H) | (have H2_ := (Option.bind_some _ _).symm.trans H; rw [hy255]; with_reducible exact H2_) | (have H2_ := (Option.bind_some _ _).symm.trans H; with_reducible exact H2_) | with_reducible exact H | (rw [hy255]; exact H) | exact H
          have Ny255 := Aside0.mk hy255
          clear hy255
          have HC18 := Aside0.mk H
          clear H
          go_upto_region 17 with (first | ((with_reducible refine gate_dst (N := 33) rfl ?_); (try (refine gate_guard (by rfl) ?_; dsimp only)); refine Kd.R_make Kd.bool _ 4 rfl (N := 33) rfl 74 _ _ rfl ji15 rfl rfl Try.underlying74 (.bool false) 1 info4 rfl (by decide) (by omega) false (ok := fun _ => True) (okp := fun _ => True) rfl (fun _ hk => hk) trivial (of_decide_eq_true (by first | (with_reducible assumption) | assumption)) (Nat.le_trans (Nat.mul_le_mul_right _ (of_decide_eq_true (by first | (with_reducible assumption) | assumption) : ji15.toNat ≤ 281474976710656)) (by omega)) (Below.refl _ _) (Nat.le_refl _) ?_; intro v256 w19 ho20 hb hg_ hnew_; clear hg_ hnew_; (first | rw [← Ny255.out] at ho20 | (simp only [Int.reduceToNat] at ho20; rw [← Ny255.out] at ho20)); have n0_ := Aside0.mk (Kd.R_elder' (by (with_reducible repeat (first | apply Kd.R_alloc | apply Kd.R_drewN | apply Kd.R_drew)); exact HO_5.out) (Kd.R_base ho20) hb); have n1_ := Aside0.mk (Kd.R_lower (Kd.R_new' ho20 (Kd.R_lt (by (with_reducible repeat (first | apply Kd.R_alloc | apply Kd.R_drewN | apply Kd.R_drew)); exact HO_5.out))) (below_size (by repeat (first | (with_reducible first | exact HB.out | apply below_alloc | apply pw_below_drewN | apply below_drew1) | exact HB.out)))); have n2_ := Aside0.mk (below_step (by repeat (first | (with_reducible first | exact HB.out | apply below_alloc | apply pw_below_drewN | apply below_drew1) | exact HB.out)) hb); clear HO_5; clear HB; have HO_5 := n0_; have HO257 := n1_; have HB := n2_; clear n0_ n1_ n2_; clear hb ho20))
          repeat (go_quiet (first | ((with_reducible refine gate_dst (N := 33) rfl ?_); (try (refine gate_guard (by rfl) ?_; dsimp only)); refine Kd.R_make Kd.bool _ 4 rfl (N := 33) rfl 74 _ _ rfl ji15 rfl rfl Try.underlying74 (.bool false) 1 info4 rfl (by decide) (by omega) false (ok := fun _ => True) (okp := fun _ => True) rfl (fun _ hk => hk) trivial (of_decide_eq_true (by first | (with_reducible assumption) | assumption)) (Nat.le_trans (Nat.mul_le_mul_right _ (of_decide_eq_true (by first | (with_reducible assumption) | assumption) : ji15.toNat ≤ 281474976710656)) (by omega)) (Below.refl _ _) (Nat.le_refl _) ?_; intro v256 w19 ho20 hb hg_ hnew_; clear hg_ hnew_; (first | rw [← Ny255.out] at ho20 | (simp only [Int.reduceToNat] at ho20; rw [← Ny255.out] at ho20)); have n0_ := Aside0.mk (Kd.R_elder' (by (with_reducible repeat (first | apply Kd.R_alloc | apply Kd.R_drewN | apply Kd.R_drew)); exact HO_5.out) (Kd.R_base ho20) hb); have n1_ := Aside0.mk (Kd.R_lower (Kd.R_new' ho20 (Kd.R_lt (by (with_reducible repeat (first | apply Kd.R_alloc | apply Kd.R_drewN | apply Kd.R_drew)); exact HO_5.out))) (below_size (by repeat (first | (with_reducible first | exact HB.out | apply below_alloc | apply pw_below_drewN | apply below_drew1) | exact HB.out)))); have n2_ := Aside0.mk (below_step (by repeat (first | (with_reducible first | exact HB.out | apply below_alloc | apply pw_below_drewN | apply below_drew1) | exact HB.out)) hb); clear HO_5; clear HB; have HO_5 := n0_; have HO257 := n1_; have HB := n2_; clear n0_ n1_ n2_; clear hb ho20)); go_upto_region 17 with (first | ((with_reducible refine gate_dst (N := 33) rfl ?_); (try (refine gate_guard (by rfl) ?_; dsimp only)); refine Kd.R_make Kd.bool _ 4 rfl (N := 33) rfl 74 _ _ rfl ji15 rfl rfl Try.underlying74 (.bool false) 1 info4 rfl (by decide) (by omega) false (ok := fun _ => True) (okp := fun _ => True) rfl (fun _ hk => hk) trivial (of_decide_eq_true (by first | (with_reducible assumption) | assumption)) (Nat.le_trans (Nat.mul_le_mul_right _ (of_decide_eq_true (by first | (with_reducible assumption) | assumption) : ji15.toNat ≤ 281474976710656)) (by omega)) (Below.refl _ _) (Nat.le_refl _) ?_; intro v256 w19 ho20 hb hg_ hnew_; clear hg_ hnew_; (first | rw [← Ny255.out] at ho20 | (simp only [Int.reduceToNat] at ho20; rw [← Ny255.out] at ho20)); have n0_ := Aside0.mk (Kd.R_elder' (by (with_reducible repeat (first | apply Kd.R_alloc | apply Kd.R_drewN | apply Kd.R_drew)); exact HO_5.out) (Kd.R_base ho20) hb); have n1_ := Aside0.mk (Kd.R_lower (Kd.R_new' ho20 (Kd.R_lt (by (with_reducible repeat (first | apply Kd.R_alloc | apply Kd.R_drewN | apply Kd.R_drew)); exact HO_5.out))) (below_size (by repeat (first | (with_reducible first | exact HB.out | apply below_alloc | apply pw_below_drewN | apply below_drew1) | exact HB.out)))); have n2_ := Aside0.mk (below_step (by repeat (first | (with_reducible first | exact HB.out | apply below_alloc | apply pw_below_drewN | apply below_drew1) | exact HB.out)) hb); clear HO_5; clear HB; have HO_5 := n0_; have HO257 := n1_; have HB := n2_; clear n0_ n1_ n2_; clear hb ho20)))
          (try simp only [Act.put, List.setIfInBounds_toArray, List.set_cons_zero, List.set_cons_succ])
          go_cut [82] (fun v82 wc => ∃ (kq : Nat) (x82_17 : Bool), v82 = .bool x82_17 ∧ Aside0 (ambryref23_Match.j1 kq a0 a1 x5_1 x6_1 y255 x82_17 = some r) ∧ Aside0 (kq ≤ k1) ∧ Aside0 (Kd.R Kd.bool 4 wc w.heap.size (fun k_ => some k_ ≠ (v256 : Value).ownBlock) u5 x5_1) ∧ Aside0 (Kd.R Kd.bool 4 wc w.heap.size (fun k_ => some k_ ≠ (u5 : Value).ownBlock) v256 y255) ∧ Aside0 (Below w.heap.size w wc))
          case first =>
           have H := HC18.out
           clear HC18
           by_cases c21 : 0 ≤ x6_1
           ·rw [if_pos c21] at H
            have c21b0 : decide (0 ≤ x6_1) = true := decide_eq_true c21
            clear c21
            (first | rw [c21b0] | (simp only [i64_w, i32_w]; rw [c21b0]) | skip)
            by_cases c23 : (bt a0 x6_1) = 42
            ·rw [if_pos c23] at H
             have c23b0 : ((bt a0 x6_1) == 42) = true := beq_iff_eq.mpr c23
             have c23b1 : ((bt a0 x6_1) != 42) = false := bne_eq_false_iff_eq.mpr c23
             clear c23
             by_cases c24 : (wrap64 (x6_1 + 1)) < (a0.size : Int)
             ·rw [if_pos c24] at H
              have c24b0 : decide ((wrap64 (x6_1 + 1)) < (a0.size : Int)) = true := decide_eq_true c24
              clear c24
              obtain ⟨ji25, hji25⟩ : ∃ j_ : Int, (wrap64 (x6_1 + 1)) = j_ := ⟨_, rfl⟩
              replace H : (if 0 ≤ (ji25) then (ambryref23_Match.j1 k1 a0 a1 x5_1 x6_1 y255 ((bt a0 (ji25)) == 42)) else (none)) = some r := by first | (rw [hji25] at H; exact H) | (simp only [hji25] at H ⊢; exact H)
              (try rw [hji25] at c24b0)
              have hji25w : (IntKind.i64.wrap (x6_1 + 1)) = ji25 := (i64_w _).trans hji25
              by_cases c26 : 0 ≤ (ji25)
              ·rw [if_pos c26] at H
               have c26b0 : decide (0 ≤ (ji25)) = true := decide_eq_true c26
               clear c26
               have H' := Aside0.mk H
               clear H
               have p22 : 0 ≤ (x6_1 : Int) := of_decide_eq_true (by first | (with_reducible assumption) | assumption)
               have q22 : x6_1 < (a0.size : Int) := of_decide_eq_true (by first | (with_reducible assumption) | assumption)
               have hx22 := bt_at a0 x6_1
               replace p22 := eq_true p22
               replace q22 := eq_true q22
               have p27 : 0 ≤ ((ji25) : Int) := of_decide_eq_true (by first | (with_reducible assumption) | assumption)
               have q27 : (ji25) < (a0.size : Int) := of_decide_eq_true (by first | (with_reducible assumption) | assumption)
               have hx27 := bt_at a0 (ji25)
               replace p27 := eq_true p27
               replace q27 := eq_true q27
               go_wp2
               repeat (go_quiet (fail); try go_wp2)
               go_meet
               case rel => exact ⟨_, (((bt a0 (ji25)) == 42)), (by first | rfl | (simp; done) | (simp only [← hji25] <;> (first | rfl | simp)) | (simp [*]; done)), H', ⟨by have := HK1.out; first | omega | exact Nat.le_refl _⟩, ⟨by (with_reducible repeat (first | apply Kd.R_alloc | apply Kd.R_drewN | apply Kd.R_drew)); exact Kd.R_mono HO_5.out (fun _ hk => hk.2)⟩, ⟨by (with_reducible repeat (first | apply Kd.R_alloc | apply Kd.R_drewN | apply Kd.R_drew)); exact Kd.R_mono HO257.out (fun _ hk => hk.2)⟩, ⟨by repeat (first | (with_reducible first | exact HB.out | apply below_alloc | apply pw_below_drewN | apply below_drew1) | exact HB.out)⟩⟩
              ·rw [if_neg c26] at H
               exact absurd H (by simp)
             ·rw [if_neg c24] at H
              have c24b0 : decide ((wrap64 (x6_1 + 1)) < (a0.size : Int)) = false := decide_eq_false c24
              clear c24
              have H' := Aside0.mk H
              clear H
              have p22 : 0 ≤ (x6_1 : Int) := of_decide_eq_true (by first | (with_reducible assumption) | assumption)
              have q22 : x6_1 < (a0.size : Int) := of_decide_eq_true (by first | (with_reducible assumption) | assumption)
              have hx22 := bt_at a0 x6_1
              replace p22 := eq_true p22
              replace q22 := eq_true q22
              go_wp2
              repeat (go_quiet (fail); try go_wp2)
              go_meet
              case rel => exact ⟨_, (false), (by first | rfl | (simp; done) | (simp [*]; done)), H', ⟨by have := HK1.out; first | omega | exact Nat.le_refl _⟩, ⟨by (with_reducible repeat (first | apply Kd.R_alloc | apply Kd.R_drewN | apply Kd.R_drew)); exact Kd.R_mono HO_5.out (fun _ hk => hk.2)⟩, ⟨by (with_reducible repeat (first | apply Kd.R_alloc | apply Kd.R_drewN | apply Kd.R_drew)); exact Kd.R_mono HO257.out (fun _ hk => hk.2)⟩, ⟨by repeat (first | (with_reducible first | exact HB.out | apply below_alloc | apply pw_below_drewN | apply below_drew1) | exact HB.out)⟩⟩
            ·rw [if_neg c23] at H
             have c23b0 : ((bt a0 x6_1) == 42) = false := beq_eq_false_iff_ne.mpr c23
             have c23b1 : ((bt a0 x6_1) != 42) = true := bne_iff_ne.mpr c23
             have H' := Aside0.mk H
             clear H
             have p22 : 0 ≤ (x6_1 : Int) := of_decide_eq_true (by first | (with_reducible assumption) | assumption)
             have q22 : x6_1 < (a0.size : Int) := of_decide_eq_true (by first | (with_reducible assumption) | assumption)
             have hx22 := bt_at a0 x6_1
             replace p22 := eq_true p22
             replace q22 := eq_true q22
             go_wp2
             repeat (go_quiet (fail); try go_wp2)
             go_meet
             case rel => exact ⟨_, (false), (by first | rfl | (simp; done) | (simp [*]; done)), H', ⟨by have := HK1.out; first | omega | exact Nat.le_refl _⟩, ⟨by (with_reducible repeat (first | apply Kd.R_alloc | apply Kd.R_drewN | apply Kd.R_drew)); exact Kd.R_mono HO_5.out (fun _ hk => hk.2)⟩, ⟨by (with_reducible repeat (first | apply Kd.R_alloc | apply Kd.R_drewN | apply Kd.R_drew)); exact Kd.R_mono HO257.out (fun _ hk => hk.2)⟩, ⟨by repeat (first | (with_reducible first | exact HB.out | apply below_alloc | apply pw_below_drewN | apply below_drew1) | exact HB.out)⟩⟩
           ·rw [if_neg c21] at H
            exact absurd H (by simp)
          case rest =>
           clear HC18
           try clear c1
           try clear c2
           try clear p2
           try clear q2
           try clear hx2
           try clear c4
           try clear c4b0
           try clear c4b1
           try clear c6
           try clear c6b0
           try clear c6b1
           try clear p6
           try clear c7
           try clear c7b0
           try clear c7b1
           try clear c8
           try clear c8b0
           try clear c8b1
           try clear p9
           try clear q9
           try clear hx9
           try clear qi9
           try clear hf9
           try clear c14
           try clear c14b0
           try clear c16
           try clear c16b0
           try clear c16b1
           try clear c17
           try clear c17b0
           try clear c17b1
           try clear c21
           try clear c21b0
           try clear p22
           try clear q22
           try clear hx22
           try clear c23
           try clear c23b0
           try clear c23b1
           try clear c24
           try clear c24b0
           try clear c26
           try clear c26b0
           try clear p27
           try clear q27
           try clear hx27
           try clear hx9_0
           try clear p2
           try clear p22
           try clear p27
           try clear p6
           try clear p9
           try clear q22
           try clear q27
           try clear q9
           obtain ⟨kq, x82_17, rfl, HA, HJ17, HO_5, HO_7, HB⟩ := hcut
           cases kq with
           | zero => exact absurd HA.out (by simp [ambryref23_Match.j1])
           | succ kj17 =>
            have H := HA.out
            clear HA
            simp only [ambryref23_Match.j1] at H
            by_cases c28 : x82_17 = true
            ·subst c28
             have H1 : (ambryref23_Match.l1 kj17 a0 a1 x5_1 (wrap64 (x6_1 + 1)) y255 false 0) = some r := by rw [if_pos rfl] at H; exact H
             clear H
             have H := H1
             clear H1
             have H' := Aside0.mk H
             clear H
             go_wp2
             repeat (go_quiet (fail); try go_wp2)
             go_loopg [8, 9] kj17 (fun kq v8 v9 w' => ∃ (x7_3 : List Bool) (x8_3 : Bool) (x9_3 : Int), v8 = .bool x8_3 ∧ v9 = .int .i64 x9_3 ∧ Aside0 (ambryref23_Match.l1 kq a0 a1 x5_1 (wrap64 (x6_1 + 1)) x7_3 x8_3 x9_3 = some r) ∧ Aside0 (kq ≤ kj17) ∧ Aside0 (Kd.R Kd.bool 4 w' w.heap.size (fun k_ => some k_ ≠ (v256 : Value).ownBlock) u5 x5_1) ∧ Aside0 (Kd.R Kd.bool 4 w' w.heap.size (fun k_ => some k_ ≠ (u5 : Value).ownBlock) v256 x7_3) ∧ Aside0 (Below w.heap.size w w'))
             case atStart => exact ⟨(y255), (false), (0), (by first | rfl | (simp; done) | (simp [*]; done)), (by first | rfl | (simp; done) | (simp [*]; done)), H', ⟨Nat.le_refl _⟩, ⟨by (with_reducible repeat (first | apply Kd.R_alloc | apply Kd.R_drewN | apply Kd.R_drew)); exact HO_5.out⟩, ⟨by (with_reducible repeat (first | apply Kd.R_alloc | apply Kd.R_drewN | apply Kd.R_drew)); exact HO_7.out⟩, ⟨by repeat (first | (with_reducible first | exact HB.out | apply below_alloc | apply pw_below_drewN | apply below_drew1) | exact HB.out)⟩⟩
             case round =>
              clear H'
              try clear hji5
              try clear hji5w
              try clear hji15
              try clear hji15w
              try clear hji25
              try clear hji25w
              try clear c1
              try clear c2
              try clear p2
              try clear q2
              try clear hx2
              try clear c4
              try clear c4b0
              try clear c4b1
              try clear c6
              try clear c6b0
              try clear c6b1
              try clear p6
              try clear c7
              try clear c7b0
              try clear c7b1
              try clear c8
              try clear c8b0
              try clear c8b1
              try clear p9
              try clear q9
              try clear hx9
              try clear qi9
              try clear hf9
              try clear c14
              try clear c14b0
              try clear c16
              try clear c16b0
              try clear c16b1
              try clear c17
              try clear c17b0
              try clear c17b1
              try clear c21
              try clear c21b0
              try clear p22
              try clear q22
              try clear hx22
              try clear c23
              try clear c23b0
              try clear c23b1
              try clear c24
              try clear c24b0
              try clear c26
              try clear c26b0
              try clear p27
              try clear q27
              try clear hx27
              try clear c28
              try clear hx9_0
              try clear p2
              try clear p22
              try clear p27
              try clear p6
              try clear p9
              try clear q2
              try clear q22
              try clear q27
              try clear q9
              obtain ⟨x7_3, x8_3, x9_3, rfl, rfl, HA, HK3, HO_5, HO_7, HB⟩ := hrel
              cases gk with
              | zero => exact absurd HA.out (by simp [ambryref23_Match.l1])
              | succ k3 =>
               have H := HA.out
               clear HA
               simp only [ambryref23_Match.l1] at H
               by_cases c29 : x9_3 ≤ (a1.size : Int)
               ·rw [if_pos c29] at H
                have c29b0 : decide (x9_3 ≤ (a1.size : Int)) = true := decide_eq_true c29
                clear c29
                by_cases c30 : x8_3 = true
                ·subst c30
                 have H1 : (if 0 ≤ x9_3 then (if x9_3 < (x7_3.length : Int) then (ambryref23_Match.l1 k3 a0 a1 x5_1 (wrap64 (x6_1 + 1)) (x7_3.set (x9_3 : Int).toNat true) true (wrap64 (x9_3 + 1))) else (none)) else (none)) = some r := by rw [if_pos rfl] at H; exact H
                 clear H
                 have H := H1
                 clear H1
                 by_cases c31 : 0 ≤ x9_3
                 ·rw [if_pos c31] at H
                  have c31b0 : decide (0 ≤ x9_3) = true := decide_eq_true c31
                  clear c31
                  by_cases c32 : x9_3 < (x7_3.length : Int)
                  ·rw [if_pos c32] at H
                   have c32b0 : decide (x9_3 < (x7_3.length : Int)) = true := decide_eq_true c32
                   clear c32
                   obtain ⟨y258, hy258⟩ : ∃ y_ : List Bool, y_ = (x7_3.set (x9_3 : Int).toNat true) := ⟨_, rfl⟩
                   replace H : (ambryref23_Match.l1 k3 a0 a1 x5_1 (wrap64 (x6_1 + 1)) y258 true (wrap64 (x9_3 + 1))) = some r := by first | (rw [hy258]; with_reducible exact H) | (have H2_ := (Option.bind_some _ _).symm.trans H; rw [hy258]; with_reducible exact H2_) | (have H2_ := (Option.bind_some _ _).symm.trans H; with_reducible exact H2_) | with_reducible exact H | (rw [hy258]; exact H) | exact H
                   have Ny258 := Aside0.mk hy258
                   clear hy258
                   have H' := Aside0.mk H
                   clear H
                   have p33 : 0 ≤ (x9_3 : Int) := of_decide_eq_true (by first | (with_reducible assumption) | assumption)
                   have q33 : (x9_3 : Int) < ((x7_3.length : Int) : Int) := of_decide_eq_true (by first | (with_reducible assumption) | assumption)
                   obtain ⟨go33, co33, eo33, gb33, gl33, cl33, HG33⟩ := Kd.R_form HO_7.out (by omega)
                   (first | cases eo33 | (injection eo33 with ea_ en_ ec_; (first | subst ea_ | (injection ea_ with ea_; subst ea_)); subst ec_; clear en_))
                   have GB33 := Aside0.mk gb33
                   have GG33 := Aside0.mk HG33
                   clear gb33 gl33 HG33
                   obtain ⟨hx33_0, hf33_0⟩ := Kd.R_celln false HO_7.out (x9_3 : Int) p33 q33
                   replace p33 := eq_true p33
                   replace q33 := eq_true q33
                   have HP34 := Kd.R_putg HO_7.out (x9_3 : Int) true
                   go_wp2_with (first | ((with_reducible refine gate_store (t := 4) (p := 119) rfl ?_); (try (rw [drewN_self wr]; generalize hq_ : World.drewN wr _ = wr; have n0_ := Aside0.mk (Kd.R_at hq_ HO_5.out); have n1_ := Aside0.mk (Kd.R_at hq_ HO_7.out); have n2_ := Aside0.mk (below_at hq_ HB.out); clear hq_ HO_5 HO_7 HB; have HO_5 := n0_; have HO_7 := n1_; have HB := n2_; clear n0_ n1_ n2_; (try (have HP34 := Kd.R_putg HO_7.out (x9_3 : Int) true)))); refine store_event (t := 4) (p := 119) (v := ?vo_w35) (w1 := (wr.setCell ⟨go33, (x9_3 : Int).toNat, none⟩ (.bool true))) ?hg ?ho ?hn ?hr ?_; (case ho => rfl); (case hg => rfl); (case hn => rfl); (case hr => first | (go_simp; done) | (go_simp; rfl)); intro w35 hw; have hg : wr.grownBy w35 (some go33) := (by rw [hw]; exact HP34.2); have hp_ : Kd.R Kd.bool 4 w35 w.heap.size (fun k_ => some k_ ≠ (u5 : Value).ownBlock) (.slice (some ⟨go33, 0, none⟩) x7_3.length co33) y258 := (by rw [hw, Ny258.out]; exact HP34.1); clear HP34; have n0_ := Aside0.mk (Kd.R_after (v := (.slice (some ⟨go33, 0, none⟩) x7_3.length co33)) (v1 := (.slice (some ⟨go33, 0, none⟩) x7_3.length co33)) (ok := (fun _ => True)) (by (with_reducible repeat (first | apply Kd.R_alloc | apply Kd.R_drewN | apply Kd.R_drew)); exact Kd.R_mono HO_5.out (fun _ hk => ⟨trivial, hk⟩)) hg (.inl rfl)); have n1_ := Aside0.mk (hp_); have n2_ := Aside0.mk ((by rw [hw]; exact below_set (HB.out) GB33.out : Below w.heap.size w w35)); clear HO_5; clear HO_7; clear HB; have HO_5 := n0_; have HO_7 := n1_; have HB := n2_; clear n0_ n1_ n2_; clear hg hw hp_))
                   repeat (go_quiet (first | ((with_reducible refine gate_store (t := 4) (p := 119) rfl ?_); (try (rw [drewN_self wr]; generalize hq_ : World.drewN wr _ = wr; have n0_ := Aside0.mk (Kd.R_at hq_ HO_5.out); have n1_ := Aside0.mk (Kd.R_at hq_ HO_7.out); have n2_ := Aside0.mk (below_at hq_ HB.out); clear hq_ HO_5 HO_7 HB; have HO_5 := n0_; have HO_7 := n1_; have HB := n2_; clear n0_ n1_ n2_; (try (have HP34 := Kd.R_putg HO_7.out (x9_3 : Int) true)))); refine store_event (t := 4) (p := 119) (v := ?vo_w35) (w1 := (wr.setCell ⟨go33, (x9_3 : Int).toNat, none⟩ (.bool true))) ?hg ?ho ?hn ?hr ?_; (case ho => rfl); (case hg => rfl); (case hn => rfl); (case hr => first | (go_simp; done) | (go_simp; rfl)); intro w35 hw; have hg : wr.grownBy w35 (some go33) := (by rw [hw]; exact HP34.2); have hp_ : Kd.R Kd.bool 4 w35 w.heap.size (fun k_ => some k_ ≠ (u5 : Value).ownBlock) (.slice (some ⟨go33, 0, none⟩) x7_3.length co33) y258 := (by rw [hw, Ny258.out]; exact HP34.1); clear HP34; have n0_ := Aside0.mk (Kd.R_after (v := (.slice (some ⟨go33, 0, none⟩) x7_3.length co33)) (v1 := (.slice (some ⟨go33, 0, none⟩) x7_3.length co33)) (ok := (fun _ => True)) (by (with_reducible repeat (first | apply Kd.R_alloc | apply Kd.R_drewN | apply Kd.R_drew)); exact Kd.R_mono HO_5.out (fun _ hk => ⟨trivial, hk⟩)) hg (.inl rfl)); have n1_ := Aside0.mk (hp_); have n2_ := Aside0.mk ((by rw [hw]; exact below_set (HB.out) GB33.out : Below w.heap.size w w35)); clear HO_5; clear HO_7; clear HB; have HO_5 := n0_; have HO_7 := n1_; have HB := n2_; clear n0_ n1_ n2_; clear hg hw hp_)); try go_wp2_with (first | ((with_reducible refine gate_store (t := 4) (p := 119) rfl ?_); (try (rw [drewN_self wr]; generalize hq_ : World.drewN wr _ = wr; have n0_ := Aside0.mk (Kd.R_at hq_ HO_5.out); have n1_ := Aside0.mk (Kd.R_at hq_ HO_7.out); have n2_ := Aside0.mk (below_at hq_ HB.out); clear hq_ HO_5 HO_7 HB; have HO_5 := n0_; have HO_7 := n1_; have HB := n2_; clear n0_ n1_ n2_; (try (have HP34 := Kd.R_putg HO_7.out (x9_3 : Int) true)))); refine store_event (t := 4) (p := 119) (v := ?vo_w35) (w1 := (wr.setCell ⟨go33, (x9_3 : Int).toNat, none⟩ (.bool true))) ?hg ?ho ?hn ?hr ?_; (case ho => rfl); (case hg => rfl); (case hn => rfl); (case hr => first | (go_simp; done) | (go_simp; rfl)); intro w35 hw; have hg : wr.grownBy w35 (some go33) := (by rw [hw]; exact HP34.2); have hp_ : Kd.R Kd.bool 4 w35 w.heap.size (fun k_ => some k_ ≠ (u5 : Value).ownBlock) (.slice (some ⟨go33, 0, none⟩) x7_3.length co33) y258 := (by rw [hw, Ny258.out]; exact HP34.1); clear HP34; have n0_ := Aside0.mk (Kd.R_after (v := (.slice (some ⟨go33, 0, none⟩) x7_3.length co33)) (v1 := (.slice (some ⟨go33, 0, none⟩) x7_3.length co33)) (ok := (fun _ => True)) (by (with_reducible repeat (first | apply Kd.R_alloc | apply Kd.R_drewN | apply Kd.R_drew)); exact Kd.R_mono HO_5.out (fun _ hk => ⟨trivial, hk⟩)) hg (.inl rfl)); have n1_ := Aside0.mk (hp_); have n2_ := Aside0.mk ((by rw [hw]; exact below_set (HB.out) GB33.out : Below w.heap.size w w35)); clear HO_5; clear HO_7; clear HB; have HO_5 := n0_; have HO_7 := n1_; have HB := n2_; clear n0_ n1_ n2_; clear hg hw hp_)))
                   go_roundg k3
                   case measure => have := HK1.out; have := HJ17.out; have := HK3.out; omega
                   case rel => exact ⟨(y258), (true), (wrap64 (x9_3 + 1)), (by first | rfl | (simp; done) | (simp [*]; done)), (by first | rfl | (simp; done) | (simp [*]; done)), H', ⟨by have := HK1.out; have := HJ17.out; have := HK3.out; omega⟩, ⟨by (with_reducible repeat (first | apply Kd.R_alloc | apply Kd.R_drewN | apply Kd.R_drew)); exact Kd.R_mono HO_5.out (fun _ hk => hk.2)⟩, ⟨by (with_reducible repeat (first | apply Kd.R_alloc | apply Kd.R_drewN | apply Kd.R_drew)); exact HO_7.out⟩, ⟨by repeat (first | (with_reducible first | exact HB.out | apply below_alloc | apply pw_below_drewN | apply below_drew1) | exact HB.out)⟩⟩
                  ·rw [if_neg c32] at H
                   exact absurd H (by simp)
                 ·rw [if_neg c31] at H
                  exact absurd H (by simp)
                ·replace c30 := Bool.eq_false_iff.mpr c30
                 subst c30
                 have H1 : (if 0 ≤ x9_3 then (if x9_3 < (x5_1.length : Int) then (if x9_3 < (x7_3.length : Int) then (ambryref23_Match.l1 k3 a0 a1 x5_1 (wrap64 (x6_1 + 1)) (x7_3.set (x9_3 : Int).toNat (rdOf false x5_1 x9_3)) (rdOf false x5_1 x9_3) (wrap64 (x9_3 + 1))) else (none)) else (none)) else (none)) = some r := by rw [if_neg (show ¬ (false = true) by decide)] at H; exact H
                 clear H
                 have H := H1
                 clear H1
                 by_cases c36 : 0 ≤ x9_3
                 ·rw [if_pos c36] at H
                  have c36b0 : decide (0 ≤ x9_3) = true := decide_eq_true c36
                  clear c36
                  by_cases c37 : x9_3 < (x5_1.length : Int)
                  ·rw [if_pos c37] at H
                   have c37b0 : decide (x9_3 < (x5_1.length : Int)) = true := decide_eq_true c37
                   clear c37
                   by_cases c38 : x9_3 < (x7_3.length : Int)
                   ·rw [if_pos c38] at H
                    have c38b0 : decide (x9_3 < (x7_3.length : Int)) = true := decide_eq_true c38
                    clear c38
                    obtain ⟨y260, hy260⟩ : ∃ y_ : List Bool, y_ = (x7_3.set (x9_3 : Int).toNat (rdOf false x5_1 x9_3)) := ⟨_, rfl⟩
                    replace H : (ambryref23_Match.l1 k3 a0 a1 x5_1 (wrap64 (x6_1 + 1)) y260 (rdOf false x5_1 x9_3) (wrap64 (x9_3 + 1))) = some r := by first | (rw [hy260]; with_reducible exact H) | (have H2_ := (Option.bind_some _ _).symm.trans H; rw [hy260]; with_reducible exact H2_) | (have H2_ := (Option.bind_some _ _).symm.trans H; with_reducible exact H2_) | with_reducible exact H | (rw [hy260]; exact H) | exact H
                    have Ny260 := Aside0.mk hy260
                    clear hy260
                    have H' := Aside0.mk H
                    clear H
                    obtain ⟨Ao40, co40, eo40⟩ := Kd.R_slice HO_5.out
                    subst eo40
                    have p259 : 0 ≤ (x9_3 : Int) := of_decide_eq_true (by first | (with_reducible assumption) | assumption)
                    have q259 : x9_3 < (x5_1.length : Int) := of_decide_eq_true (by first | (with_reducible assumption) | assumption)
                    obtain ⟨ad259, e259, hx259_0⟩ := Kd.at_bool (Kd.R_reads' HO_5.out).2.2 x9_3 p259 q259
                    cases e259
                    replace p259 := eq_true p259
                    replace q259 := eq_true q259
                    have p39 : 0 ≤ (x9_3 : Int) := of_decide_eq_true (by first | (with_reducible assumption) | assumption)
                    have q39 : (x9_3 : Int) < ((x7_3.length : Int) : Int) := of_decide_eq_true (by first | (with_reducible assumption) | assumption)
                    obtain ⟨go39, co39, eo39, gb39, gl39, cl39, HG39⟩ := Kd.R_form HO_7.out (by omega)
                    (first | cases eo39 | (injection eo39 with ea_ en_ ec_; (first | subst ea_ | (injection ea_ with ea_; subst ea_)); subst ec_; clear en_))
                    have GB39 := Aside0.mk gb39
                    have GG39 := Aside0.mk HG39
                    clear gb39 gl39 HG39
                    obtain ⟨hx39_0, hf39_0⟩ := Kd.R_celln false HO_7.out (x9_3 : Int) p39 q39
                    replace p39 := eq_true p39
                    replace q39 := eq_true q39
                    have HP41 := Kd.R_putg HO_7.out (x9_3 : Int) (rdOf false x5_1 x9_3)
                    go_wp2_with (first | ((with_reducible refine gate_store (t := 4) (p := 119) rfl ?_); (try (rw [drewN_self wr]; generalize hq_ : World.drewN wr _ = wr; have n0_ := Aside0.mk (Kd.R_at hq_ HO_5.out); have n1_ := Aside0.mk (Kd.R_at hq_ HO_7.out); have n2_ := Aside0.mk (below_at hq_ HB.out); clear hq_ HO_5 HO_7 HB; have HO_5 := n0_; have HO_7 := n1_; have HB := n2_; clear n0_ n1_ n2_; (try (have HP41 := Kd.R_putg HO_7.out (x9_3 : Int) (rdOf false x5_1 x9_3))))); refine store_event (t := 4) (p := 119) (v := ?vo_w42) (w1 := (wr.setCell ⟨go39, (x9_3 : Int).toNat, none⟩ (.bool (rdOf false x5_1 x9_3)))) ?hg ?ho ?hn ?hr ?_; (case ho => rfl); (case hg => rfl); (case hn => rfl); (case hr => first | (go_simp; done) | (go_simp; rfl)); intro w42 hw; have hg : wr.grownBy w42 (some go39) := (by rw [hw]; exact HP41.2); have hp_ : Kd.R Kd.bool 4 w42 w.heap.size (fun k_ => some k_ ≠ (.slice (some ad259) x5_1.length co40 : Value).ownBlock) (.slice (some ⟨go39, 0, none⟩) x7_3.length co39) y260 := (by rw [hw, Ny260.out]; exact HP41.1); clear HP41; have n0_ := Aside0.mk (Kd.R_after (v := (.slice (some ⟨go39, 0, none⟩) x7_3.length co39)) (v1 := (.slice (some ⟨go39, 0, none⟩) x7_3.length co39)) (ok := (fun _ => True)) (by (with_reducible repeat (first | apply Kd.R_alloc | apply Kd.R_drewN | apply Kd.R_drew)); exact Kd.R_mono HO_5.out (fun _ hk => ⟨trivial, hk⟩)) hg (.inl rfl)); have n1_ := Aside0.mk (hp_); have n2_ := Aside0.mk ((by rw [hw]; exact below_set (HB.out) GB39.out : Below w.heap.size w w42)); clear HO_5; clear HO_7; clear HB; have HO_5 := n0_; have HO_7 := n1_; have HB := n2_; clear n0_ n1_ n2_; clear hg hw hp_))
                    repeat (go_quiet (first | ((with_reducible refine gate_store (t := 4) (p := 119) rfl ?_); (try (rw [drewN_self wr]; generalize hq_ : World.drewN wr _ = wr; have n0_ := Aside0.mk (Kd.R_at hq_ HO_5.out); have n1_ := Aside0.mk (Kd.R_at hq_ HO_7.out); have n2_ := Aside0.mk (below_at hq_ HB.out); clear hq_ HO_5 HO_7 HB; have HO_5 := n0_; have HO_7 := n1_; have HB := n2_; clear n0_ n1_ n2_; (try (have HP41 := Kd.R_putg HO_7.out (x9_3 : Int) (rdOf false x5_1 x9_3))))); refine store_event (t := 4) (p := 119) (v := ?vo_w42) (w1 := (wr.setCell ⟨go39, (x9_3 : Int).toNat, none⟩ (.bool (rdOf false x5_1 x9_3)))) ?hg ?ho ?hn ?hr ?_; (case ho => rfl); (case hg => rfl); (case hn => rfl); (case hr => first | (go_simp; done) | (go_simp; rfl)); intro w42 hw; have hg : wr.grownBy w42 (some go39) := (by rw [hw]; exact HP41.2); have hp_ : Kd.R Kd.bool 4 w42 w.heap.size (fun k_ => some k_ ≠ (.slice (some ad259) x5_1.length co40 : Value).ownBlock) (.slice (some ⟨go39, 0, none⟩) x7_3.length co39) y260 := (by rw [hw, Ny260.out]; exact HP41.1); clear HP41; have n0_ := Aside0.mk (Kd.R_after (v := (.slice (some ⟨go39, 0, none⟩) x7_3.length co39)) (v1 := (.slice (some ⟨go39, 0, none⟩) x7_3.length co39)) (ok := (fun _ => True)) (by (with_reducible repeat (first | apply Kd.R_alloc | apply Kd.R_drewN | apply Kd.R_drew)); exact Kd.R_mono HO_5.out (fun _ hk => ⟨trivial, hk⟩)) hg (.inl rfl)); have n1_ := Aside0.mk (hp_); have n2_ := Aside0.mk ((by rw [hw]; exact below_set (HB.out) GB39.out : Below w.heap.size w w42)); clear HO_5; clear HO_7; clear HB; have HO_5 := n0_; have HO_7 := n1_; have HB := n2_; clear n0_ n1_ n2_; clear hg hw hp_)); try go_wp2_with (first | ((with_reducible refine gate_store (t := 4) (p := 119) rfl ?_); (try (rw [drewN_self wr]; generalize hq_ : World.drewN wr _ = wr; have n0_ := Aside0.mk (Kd.R_at hq_ HO_5.out); have n1_ := Aside0.mk (Kd.R_at hq_ HO_7.out); have n2_ := Aside0.mk (below_at hq_ HB.out); clear hq_ HO_5 HO_7 HB; have HO_5 := n0_; have HO_7 := n1_; have HB := n2_; clear n0_ n1_ n2_; (try (have HP41 := Kd.R_putg HO_7.out (x9_3 : Int) (rdOf false x5_1 x9_3))))); refine store_event (t := 4) (p := 119) (v := ?vo_w42) (w1 := (wr.setCell ⟨go39, (x9_3 : Int).toNat, none⟩ (.bool (rdOf false x5_1 x9_3)))) ?hg ?ho ?hn ?hr ?_; (case ho => rfl); (case hg => rfl); (case hn => rfl); (case hr => first | (go_simp; done) | (go_simp; rfl)); intro w42 hw; have hg : wr.grownBy w42 (some go39) := (by rw [hw]; exact HP41.2); have hp_ : Kd.R Kd.bool 4 w42 w.heap.size (fun k_ => some k_ ≠ (.slice (some ad259) x5_1.length co40 : Value).ownBlock) (.slice (some ⟨go39, 0, none⟩) x7_3.length co39) y260 := (by rw [hw, Ny260.out]; exact HP41.1); clear HP41; have n0_ := Aside0.mk (Kd.R_after (v := (.slice (some ⟨go39, 0, none⟩) x7_3.length co39)) (v1 := (.slice (some ⟨go39, 0, none⟩) x7_3.length co39)) (ok := (fun _ => True)) (by (with_reducible repeat (first | apply Kd.R_alloc | apply Kd.R_drewN | apply Kd.R_drew)); exact Kd.R_mono HO_5.out (fun _ hk => ⟨trivial, hk⟩)) hg (.inl rfl)); have n1_ := Aside0.mk (hp_); have n2_ := Aside0.mk ((by rw [hw]; exact below_set (HB.out) GB39.out : Below w.heap.size w w42)); clear HO_5; clear HO_7; clear HB; have HO_5 := n0_; have HO_7 := n1_; have HB := n2_; clear n0_ n1_ n2_; clear hg hw hp_)))
                    go_roundg k3
                    case measure => have := HK1.out; have := HJ17.out; have := HK3.out; omega
                    case rel => exact ⟨(y260), (rdOf false x5_1 x9_3), (wrap64 (x9_3 + 1)), (by first | rfl | (simp; done) | (simp [*]; done)), (by first | rfl | (simp; done) | (simp [*]; done)), H', ⟨by have := HK1.out; have := HJ17.out; have := HK3.out; omega⟩, ⟨by (with_reducible repeat (first | apply Kd.R_alloc | apply Kd.R_drewN | apply Kd.R_drew)); exact Kd.R_mono HO_5.out (fun _ hk => hk.2)⟩, ⟨by (with_reducible repeat (first | apply Kd.R_alloc | apply Kd.R_drewN | apply Kd.R_drew)); exact HO_7.out⟩, ⟨by repeat (first | (with_reducible first | exact HB.out | apply below_alloc | apply pw_below_drewN | apply below_drew1) | exact HB.out)⟩⟩
                   ·rw [if_neg c38] at H
                    exact absurd H (by simp)
                  ·rw [if_neg c37] at H
                   exact absurd H (by simp)
                 ·rw [if_neg c36] at H
                  exact absurd H (by simp)
               ·rw [if_neg c29] at H
                have c29b0 : decide (x9_3 ≤ (a1.size : Int)) = false := decide_eq_false c29
                clear c29
                have H' := Aside0.mk H
                clear H
                go_wp2
                repeat (go_quiet (fail); try go_wp2)
                go_roundg k3
                case measure => have := HK1.out; have := HJ17.out; have := HK3.out; omega
                case rel => exact ⟨(x7_3), (wrap64 ((wrap64 (x6_1 + 1)) + 1)), (by first | rfl | (simp; done) | (simp [*]; done)), H', ⟨by have := HK1.out; have := HJ17.out; have := HK3.out; omega⟩, ⟨by (with_reducible repeat (first | apply Kd.R_alloc | apply Kd.R_drewN | apply Kd.R_drew)); exact Kd.R_mono HO_7.out (fun _ hk => trivial)⟩, ⟨by repeat (first | (with_reducible first | exact HB.out | apply below_alloc | apply pw_below_drewN | apply below_drew1) | exact HB.out)⟩⟩
            ·replace c28 := Bool.eq_false_iff.mpr c28
             subst c28
             have H1 : (if 0 ≤ x6_1 then (if x6_1 < (a0.size : Int) then (if (bt a0 x6_1) = 42 then (ambryref23_Match.l2 kj17 a0 a1 x5_1 x6_1 y255 false 0) else (if (bt a0 x6_1) = 92 then (if 0 ≤ (wrap64 (x6_1 + 1)) then (if (wrap64 (x6_1 + 1)) < (a0.size : Int) then (ambryref23_Match.j4 kj17 a0 a1 x5_1 (wrap64 (x6_1 + 1)) y255 (bt a0 (wrap64 (x6_1 + 1))) ((bt a0 x6_1) == 63)) else (none)) else (none)) else (ambryref23_Match.j4 kj17 a0 a1 x5_1 x6_1 y255 (bt a0 x6_1) ((bt a0 x6_1) == 63)))) else (none)) else (none)) = some r := by rw [if_neg (show ¬ (false = true) by decide)] at H; exact H
             clear H
             have H := H1
             clear H1
             by_cases c43 : 0 ≤ x6_1
             ·rw [if_pos c43] at H
              have c43b0 : decide (0 ≤ x6_1) = true := decide_eq_true c43
              clear c43
              by_cases c44 : x6_1 < (a0.size : Int)
              ·rw [if_pos c44] at H
               have c44b0 : decide (x6_1 < (a0.size : Int)) = true := decide_eq_true c44
               clear c44
               by_cases c46 : (bt a0 x6_1) = 42
               ·rw [if_pos c46] at H
                have c46b0 : ((bt a0 x6_1) == 42) = true := beq_iff_eq.mpr c46
                have c46b1 : ((bt a0 x6_1) != 42) = false := bne_eq_false_iff_eq.mpr c46
                clear c46
                have H' := Aside0.mk H
                clear H
                have p45 : 0 ≤ (x6_1 : Int) := of_decide_eq_true (by first | (with_reducible assumption) | assumption)
                have q45 : x6_1 < (a0.size : Int) := of_decide_eq_true (by first | (with_reducible assumption) | assumption)
                have hx45 := bt_at a0 x6_1
                replace p45 := eq_true p45
                replace q45 := eq_true q45
                go_wp2
                repeat (go_quiet (fail); try go_wp2)
                go_loopg [10, 11] kj17 (fun kq v10 v11 w' => ∃ (x7_3 : List Bool) (x10_3 : Bool) (x11_3 : Int), v10 = .bool x10_3 ∧ v11 = .int .i64 x11_3 ∧ Aside0 (ambryref23_Match.l2 kq a0 a1 x5_1 x6_1 x7_3 x10_3 x11_3 = some r) ∧ Aside0 (kq ≤ kj17) ∧ Aside0 (Kd.R Kd.bool 4 w' w.heap.size (fun k_ => some k_ ≠ (v256 : Value).ownBlock) u5 x5_1) ∧ Aside0 (Kd.R Kd.bool 4 w' w.heap.size (fun k_ => some k_ ≠ (u5 : Value).ownBlock) v256 x7_3) ∧ Aside0 (Below w.heap.size w w'))
                case atStart => exact ⟨(y255), (false), (0), (by first | rfl | (simp; done) | (simp [*]; done)), (by first | rfl | (simp; done) | (simp [*]; done)), H', ⟨Nat.le_refl _⟩, ⟨by (with_reducible repeat (first | apply Kd.R_alloc | apply Kd.R_drewN | apply Kd.R_drew)); exact HO_5.out⟩, ⟨by (with_reducible repeat (first | apply Kd.R_alloc | apply Kd.R_drewN | apply Kd.R_drew)); exact HO_7.out⟩, ⟨by repeat (first | (with_reducible first | exact HB.out | apply below_alloc | apply pw_below_drewN | apply below_drew1) | exact HB.out)⟩⟩
                case round =>
                 clear H'
                 try clear hji5
                 try clear hji5w
                 try clear hji15
                 try clear hji15w
                 try clear hji25
                 try clear hji25w
                 try clear c1
                 try clear c2
                 try clear p2
                 try clear q2
                 try clear hx2
                 try clear c3
                 try clear p3
                 try clear q3
                 try clear hx3
                 try clear hf3
                 try clear c4
                 try clear c4b0
                 try clear c4b1
                 try clear p4
                 try clear q4
                 try clear hx4
                 try clear c6
                 try clear c6b0
                 try clear c6b1
                 try clear p6
                 try clear c7
                 try clear c7b0
                 try clear c7b1
                 try clear c8
                 try clear c8b0
                 try clear c8b1
                 try clear p9
                 try clear q9
                 try clear hx9
                 try clear qi9
                 try clear hf9
                 try clear c14
                 try clear c14b0
                 try clear c16
                 try clear c16b0
                 try clear c16b1
                 try clear c17
                 try clear c17b0
                 try clear c17b1
                 try clear c21
                 try clear c21b0
                 try clear p22
                 try clear q22
                 try clear hx22
                 try clear c23
                 try clear c23b0
                 try clear c23b1
                 try clear c24
                 try clear c24b0
                 try clear p25
                 try clear q25
                 try clear hx25
                 try clear c26
                 try clear c26b0
                 try clear p27
                 try clear q27
                 try clear hx27
                 try clear c28
                 try clear c29
                 try clear c29b0
                 try clear c30
                 try clear c31
                 try clear c31b0
                 try clear c32
                 try clear c32b0
                 try clear p33
                 try clear q33
                 try clear hx33
                 try clear hf33
                 try clear c36
                 try clear c36b0
                 try clear c37
                 try clear c37b0
                 try clear c38
                 try clear c38b0
                 try clear p39
                 try clear q39
                 try clear hx39
                 try clear hf39
                 try clear c43
                 try clear c43b0
                 try clear c44
                 try clear c44b0
                 try clear p45
                 try clear q45
                 try clear hx45
                 try clear c46
                 try clear c46b0
                 try clear c46b1
                 try clear hx259_0
                 try clear hx33_0
                 try clear hx39_0
                 try clear hx9_0
                 try clear p2
                 try clear p22
                 try clear p259
                 try clear p27
                 try clear p33
                 try clear p39
                 try clear p45
                 try clear p6
                 try clear p9
                 try clear q2
                 try clear q22
                 try clear q259
                 try clear q27
                 try clear q33
                 try clear q39
                 try clear q45
                 try clear q9
                 obtain ⟨x7_3, x10_3, x11_3, rfl, rfl, HA, HK3, HO_5, HO_7, HB⟩ := hrel
                 cases gk with
                 | zero => exact absurd HA.out (by simp [ambryref23_Match.l2])
                 | succ k3 =>
                  have H := HA.out
                  clear HA
                  simp only [ambryref23_Match.l2] at H
                  by_cases c47 : x11_3 ≤ (a1.size : Int)
                  ·rw [if_pos c47] at H
                   have c47b0 : decide (x11_3 ≤ (a1.size : Int)) = true := decide_eq_true c47
                   clear c47
                   by_cases c48 : x11_3 > 0
                   ·rw [if_pos c48] at H
                    have c48b0 : decide (0 < x11_3) = true := decide_eq_true c48
                    clear c48
                    obtain ⟨ji49, hji49⟩ : ∃ j_ : Int, (wrap64 (x11_3 - 1)) = j_ := ⟨_, rfl⟩
                    replace H : (if 0 ≤ (ji49) then (if (ji49) < (a1.size : Int) then (if (bt a1 (ji49)) = 47 then (if 0 ≤ x11_3 then (if x11_3 < (x5_1.length : Int) then (if x11_3 < (x7_3.length : Int) then (ambryref23_Match.l2 k3 a0 a1 x5_1 x6_1 (x7_3.set (x11_3 : Int).toNat (rdOf false x5_1 x11_3)) (rdOf false x5_1 x11_3) (wrap64 (x11_3 + 1))) else (none)) else (none)) else (none)) else (if x10_3 = true then (if 0 ≤ x11_3 then (if x11_3 < (x7_3.length : Int) then (ambryref23_Match.l2 k3 a0 a1 x5_1 x6_1 (x7_3.set (x11_3 : Int).toNat true) true (wrap64 (x11_3 + 1))) else (none)) else (none)) else (if 0 ≤ x11_3 then (if x11_3 < (x5_1.length : Int) then (if x11_3 < (x7_3.length : Int) then (ambryref23_Match.l2 k3 a0 a1 x5_1 x6_1 (x7_3.set (x11_3 : Int).toNat (rdOf false x5_1 x11_3)) (rdOf false x5_1 x11_3) (wrap64 (x11_3 + 1))) else (none)) else (none)) else (none)))) else (none)) else (none)) = some r := by first | (rw [hji49] at H; exact H) | (simp only [hji49] at H ⊢; exact H)
                    have hji49w : (IntKind.i64.wrap (x11_3 - 1)) = ji49 := (i64_w _).trans hji49
                    by_cases c50 : 0 ≤ (ji49)
                    ·rw [if_pos c50] at H
                     have c50b0 : decide (0 ≤ (ji49)) = true := decide_eq_true c50
                     clear c50
                     by_cases c51 : (ji49) < (a1.size : Int)
                     ·rw [if_pos c51] at H
                      have c51b0 : decide ((ji49) < (a1.size : Int)) = true := decide_eq_true c51
                      clear c51
                      by_cases c53 : (bt a1 (ji49)) = 47
                      ·rw [if_pos c53] at H
                       have c53b0 : ((bt a1 (ji49)) == 47) = true := beq_iff_eq.mpr c53
                       have c53b1 : ((bt a1 (ji49)) != 47) = false := bne_eq_false_iff_eq.mpr c53
                       clear c53
                       by_cases c54 : 0 ≤ x11_3
                       ·rw [if_pos c54] at H
                        have c54b0 : decide (0 ≤ x11_3) = true := decide_eq_true c54
                        clear c54
                        by_cases c55 : x11_3 < (x5_1.length : Int)
                        ·rw [if_pos c55] at H
                         have c55b0 : decide (x11_3 < (x5_1.length : Int)) = true := decide_eq_true c55
                         clear c55
                         by_cases c56 : x11_3 < (x7_3.length : Int)
                         ·rw [if_pos c56] at H
                          have c56b0 : decide (x11_3 < (x7_3.length : Int)) = true := decide_eq_true c56
                          clear c56
                          obtain ⟨y262, hy262⟩ : ∃ y_ : List Bool, y_ = (x7_3.set (x11_3 : Int).toNat (rdOf false x5_1 x11_3)) := ⟨_, rfl⟩
                          replace H : (ambryref23_Match.l2 k3 a0 a1 x5_1 x6_1 y262 (rdOf false x5_1 x11_3) (wrap64 (x11_3 + 1))) = some r := by first | (rw [hy262]; with_reducible exact H) | (have H2_ := (Option.bind_some _ _).symm.trans H; rw [hy262]; with_reducible exact H2_) | (have H2_ := (Option.bind_some _ _).symm.trans H; with_reducible exact H2_) | with_reducible exact H | (rw [hy262]; exact H) | exact H
                          have Ny262 := Aside0.mk hy262
                          clear hy262
                          have H' := Aside0.mk H
                          clear H
                          have p52 : 0 ≤ ((ji49) : Int) := of_decide_eq_true (by first | (with_reducible assumption) | assumption)
                          have q52 : (ji49) < (a1.size : Int) := of_decide_eq_true (by first | (with_reducible assumption) | assumption)
                          have hx52 := bt_at a1 (ji49)
                          replace p52 := eq_true p52
                          replace q52 := eq_true q52
                          obtain ⟨Ao58, co58, eo58⟩ := Kd.R_slice HO_5.out
                          subst eo58
                          have p261 : 0 ≤ (x11_3 : Int) := of_decide_eq_true (by first | (with_reducible assumption) | assumption)
                          have q261 : x11_3 < (x5_1.length : Int) := of_decide_eq_true (by first | (with_reducible assumption) | assumption)
                          obtain ⟨ad261, e261, hx261_0⟩ := Kd.at_bool (Kd.R_reads' HO_5.out).2.2 x11_3 p261 q261
                          cases e261
                          replace p261 := eq_true p261
                          replace q261 := eq_true q261
                          have p57 : 0 ≤ (x11_3 : Int) := of_decide_eq_true (by first | (with_reducible assumption) | assumption)
                          have q57 : (x11_3 : Int) < ((x7_3.length : Int) : Int) := of_decide_eq_true (by first | (with_reducible assumption) | assumption)
                          obtain ⟨go57, co57, eo57, gb57, gl57, cl57, HG57⟩ := Kd.R_form HO_7.out (by omega)
                          (first | cases eo57 | (injection eo57 with ea_ en_ ec_; (first | subst ea_ | (injection ea_ with ea_; subst ea_)); subst ec_; clear en_))
                          have GB57 := Aside0.mk gb57
                          have GG57 := Aside0.mk HG57
                          clear gb57 gl57 HG57
                          obtain ⟨hx57_0, hf57_0⟩ := Kd.R_celln false HO_7.out (x11_3 : Int) p57 q57
                          replace p57 := eq_true p57
                          replace q57 := eq_true q57
                          have HP59 := Kd.R_putg HO_7.out (x11_3 : Int) (rdOf false x5_1 x11_3)
                          go_wp2_with (first | ((with_reducible refine gate_store (t := 4) (p := 150) rfl ?_); (try (rw [drewN_self wr]; generalize hq_ : World.drewN wr _ = wr; have n0_ := Aside0.mk (Kd.R_at hq_ HO_5.out); have n1_ := Aside0.mk (Kd.R_at hq_ HO_7.out); have n2_ := Aside0.mk (below_at hq_ HB.out); clear hq_ HO_5 HO_7 HB; have HO_5 := n0_; have HO_7 := n1_; have HB := n2_; clear n0_ n1_ n2_; (try (have HP59 := Kd.R_putg HO_7.out (x11_3 : Int) (rdOf false x5_1 x11_3))))); refine store_event (t := 4) (p := 150) (v := ?vo_w60) (w1 := (wr.setCell ⟨go57, (x11_3 : Int).toNat, none⟩ (.bool (rdOf false x5_1 x11_3)))) ?hg ?ho ?hn ?hr ?_; (case ho => rfl); (case hg => rfl); (case hn => rfl); (case hr => first | (go_simp; done) | (go_simp; rfl)); intro w60 hw; have hg : wr.grownBy w60 (some go57) := (by rw [hw]; exact HP59.2); have hp_ : Kd.R Kd.bool 4 w60 w.heap.size (fun k_ => some k_ ≠ (.slice (some ad261) x5_1.length co58 : Value).ownBlock) (.slice (some ⟨go57, 0, none⟩) x7_3.length co57) y262 := (by rw [hw, Ny262.out]; exact HP59.1); clear HP59; have n0_ := Aside0.mk (Kd.R_after (v := (.slice (some ⟨go57, 0, none⟩) x7_3.length co57)) (v1 := (.slice (some ⟨go57, 0, none⟩) x7_3.length co57)) (ok := (fun _ => True)) (by (with_reducible repeat (first | apply Kd.R_alloc | apply Kd.R_drewN | apply Kd.R_drew)); exact Kd.R_mono HO_5.out (fun _ hk => ⟨trivial, hk⟩)) hg (.inl rfl)); have n1_ := Aside0.mk (hp_); have n2_ := Aside0.mk ((by rw [hw]; exact below_set (HB.out) GB57.out : Below w.heap.size w w60)); clear HO_5; clear HO_7; clear HB; have HO_5 := n0_; have HO_7 := n1_; have HB := n2_; clear n0_ n1_ n2_; clear hg hw hp_))
                          repeat (go_quiet (first | ((with_reducible refine gate_store (t := 4) (p := 150) rfl ?_); (try (rw [drewN_self wr]; generalize hq_ : World.drewN wr _ = wr; have n0_ := Aside0.mk (Kd.R_at hq_ HO_5.out); have n1_ := Aside0.mk (Kd.R_at hq_ HO_7.out); have n2_ := Aside0.mk (below_at hq_ HB.out); clear hq_ HO_5 HO_7 HB; have HO_5 := n0_; have HO_7 := n1_; have HB := n2_; clear n0_ n1_ n2_; (try (have HP59 := Kd.R_putg HO_7.out (x11_3 : Int) (rdOf false x5_1 x11_3))))); refine store_event (t := 4) (p := 150) (v := ?vo_w60) (w1 := (wr.setCell ⟨go57, (x11_3 : Int).toNat, none⟩ (.bool (rdOf false x5_1 x11_3)))) ?hg ?ho ?hn ?hr ?_; (case ho => rfl); (case hg => rfl); (case hn => rfl); (case hr => first | (go_simp; done) | (go_simp; rfl)); intro w60 hw; have hg : wr.grownBy w60 (some go57) := (by rw [hw]; exact HP59.2); have hp_ : Kd.R Kd.bool 4 w60 w.heap.size (fun k_ => some k_ ≠ (.slice (some ad261) x5_1.length co58 : Value).ownBlock) (.slice (some ⟨go57, 0, none⟩) x7_3.length co57) y262 := (by rw [hw, Ny262.out]; exact HP59.1); clear HP59; have n0_ := Aside0.mk (Kd.R_after (v := (.slice (some ⟨go57, 0, none⟩) x7_3.length co57)) (v1 := (.slice (some ⟨go57, 0, none⟩) x7_3.length co57)) (ok := (fun _ => True)) (by (with_reducible repeat (first | apply Kd.R_alloc | apply Kd.R_drewN | apply Kd.R_drew)); exact Kd.R_mono HO_5.out (fun _ hk => ⟨trivial, hk⟩)) hg (.inl rfl)); have n1_ := Aside0.mk (hp_); have n2_ := Aside0.mk ((by rw [hw]; exact below_set (HB.out) GB57.out : Below w.heap.size w w60)); clear HO_5; clear HO_7; clear HB; have HO_5 := n0_; have HO_7 := n1_; have HB := n2_; clear n0_ n1_ n2_; clear hg hw hp_)); try go_wp2_with (first | ((with_reducible refine gate_store (t := 4) (p := 150) rfl ?_); (try (rw [drewN_self wr]; generalize hq_ : World.drewN wr _ = wr; have n0_ := Aside0.mk (Kd.R_at hq_ HO_5.out); have n1_ := Aside0.mk (Kd.R_at hq_ HO_7.out); have n2_ := Aside0.mk (below_at hq_ HB.out); clear hq_ HO_5 HO_7 HB; have HO_5 := n0_; have HO_7 := n1_; have HB := n2_; clear n0_ n1_ n2_; (try (have HP59 := Kd.R_putg HO_7.out (x11_3 : Int) (rdOf false x5_1 x11_3))))); refine store_event (t := 4) (p := 150) (v := ?vo_w60) (w1 := (wr.setCell ⟨go57, (x11_3 : Int).toNat, none⟩ (.bool (rdOf false x5_1 x11_3)))) ?hg ?ho ?hn ?hr ?_; (case ho => rfl); (case hg => rfl); (case hn => rfl); (case hr => first | (go_simp; done) | (go_simp; rfl)); intro w60 hw; have hg : wr.grownBy w60 (some go57) := (by rw [hw]; exact HP59.2); have hp_ : Kd.R Kd.bool 4 w60 w.heap.size (fun k_ => some k_ ≠ (.slice (some ad261) x5_1.length co58 : Value).ownBlock) (.slice (some ⟨go57, 0, none⟩) x7_3.length co57) y262 := (by rw [hw, Ny262.out]; exact HP59.1); clear HP59; have n0_ := Aside0.mk (Kd.R_after (v := (.slice (some ⟨go57, 0, none⟩) x7_3.length co57)) (v1 := (.slice (some ⟨go57, 0, none⟩) x7_3.length co57)) (ok := (fun _ => True)) (by (with_reducible repeat (first | apply Kd.R_alloc | apply Kd.R_drewN | apply Kd.R_drew)); exact Kd.R_mono HO_5.out (fun _ hk => ⟨trivial, hk⟩)) hg (.inl rfl)); have n1_ := Aside0.mk (hp_); have n2_ := Aside0.mk ((by rw [hw]; exact below_set (HB.out) GB57.out : Below w.heap.size w w60)); clear HO_5; clear HO_7; clear HB; have HO_5 := n0_; have HO_7 := n1_; have HB := n2_; clear n0_ n1_ n2_; clear hg hw hp_)))
                          go_roundg k3
                          case measure => have := HK1.out; have := HJ17.out; have := HK3.out; omega
                          case rel => exact ⟨(y262), (rdOf false x5_1 x11_3), (wrap64 (x11_3 + 1)), (by first | rfl | (simp; done) | (simp [*]; done)), (by first | rfl | (simp; done) | (simp [*]; done)), H', ⟨by have := HK1.out; have := HJ17.out; have := HK3.out; omega⟩, ⟨by (with_reducible repeat (first | apply Kd.R_alloc | apply Kd.R_drewN | apply Kd.R_drew)); exact Kd.R_mono HO_5.out (fun _ hk => hk.2)⟩, ⟨by (with_reducible repeat (first | apply Kd.R_alloc | apply Kd.R_drewN | apply Kd.R_drew)); exact HO_7.out⟩, ⟨by repeat (first | (with_reducible first | exact HB.out | apply below_alloc | apply pw_below_drewN | apply below_drew1) | exact HB.out)⟩⟩
                         ·rw [if_neg c56] at H
                          exact absurd H (by simp)
                        ·rw [if_neg c55] at H
                         exact absurd H (by simp)
                       ·rw [if_neg c54] at H
                        exact absurd H (by simp)
                      ·rw [if_neg c53] at H
                       have c53b0 : ((bt a1 (ji49)) == 47) = false := beq_eq_false_iff_ne.mpr c53
                       have c53b1 : ((bt a1 (ji49)) != 47) = true := bne_iff_ne.mpr c53
                       by_cases c61 : x10_3 = true
                       ·subst c61
                        have H1 : (if 0 ≤ x11_3 then (if x11_3 < (x7_3.length : Int) then (ambryref23_Match.l2 k3 a0 a1 x5_1 x6_1 (x7_3.set (x11_3 : Int).toNat true) true (wrap64 (x11_3 + 1))) else (none)) else (none)) = some r := by rw [if_pos rfl] at H; exact H
                        clear H
                        have H := H1
                        clear H1
                        by_cases c62 : 0 ≤ x11_3
                        ·rw [if_pos c62] at H
                         have c62b0 : decide (0 ≤ x11_3) = true := decide_eq_true c62
                         clear c62
                         by_cases c63 : x11_3 < (x7_3.length : Int)
                         ·rw [if_pos c63] at H
                          have c63b0 : decide (x11_3 < (x7_3.length : Int)) = true := decide_eq_true c63
                          clear c63
                          obtain ⟨y263, hy263⟩ : ∃ y_ : List Bool, y_ = (x7_3.set (x11_3 : Int).toNat true) := ⟨_, rfl⟩
                          replace H : (ambryref23_Match.l2 k3 a0 a1 x5_1 x6_1 y263 true (wrap64 (x11_3 + 1))) = some r := by first | (rw [hy263]; with_reducible exact H) | (have H2_ := (Option.bind_some _ _).symm.trans H; rw [hy263]; with_reducible exact H2_) | (have H2_ := (Option.bind_some _ _).symm.trans H; with_reducible exact H2_) | with_reducible exact H | (rw [hy263]; exact H) | exact H
                          have Ny263 := Aside0.mk hy263
                          clear hy263
                          have H' := Aside0.mk H
                          clear H
                          have p52 : 0 ≤ ((ji49) : Int) := of_decide_eq_true (by first | (with_reducible assumption) | assumption)
                          have q52 : (ji49) < (a1.size : Int) := of_decide_eq_true (by first | (with_reducible assumption) | assumption)
                          have hx52 := bt_at a1 (ji49)
                          replace p52 := eq_true p52
                          replace q52 := eq_true q52
                          have p64 : 0 ≤ (x11_3 : Int) := of_decide_eq_true (by first | (with_reducible assumption) | assumption)
                          have q64 : (x11_3 : Int) < ((x7_3.length : Int) : Int) := of_decide_eq_true (by first | (with_reducible assumption) | assumption)
                          obtain ⟨go64, co64, eo64, gb64, gl64, cl64, HG64⟩ := Kd.R_form HO_7.out (by omega)
                          (first | cases eo64 | (injection eo64 with ea_ en_ ec_; (first | subst ea_ | (injection ea_ with ea_; subst ea_)); subst ec_; clear en_))
                          have GB64 := Aside0.mk gb64
                          have GG64 := Aside0.mk HG64
                          clear gb64 gl64 HG64
                          obtain ⟨hx64_0, hf64_0⟩ := Kd.R_celln false HO_7.out (x11_3 : Int) p64 q64
                          replace p64 := eq_true p64
                          replace q64 := eq_true q64
                          have HP65 := Kd.R_putg HO_7.out (x11_3 : Int) true
                          go_wp2_with (first | ((with_reducible refine gate_store (t := 4) (p := 150) rfl ?_); (try (rw [drewN_self wr]; generalize hq_ : World.drewN wr _ = wr; have n0_ := Aside0.mk (Kd.R_at hq_ HO_5.out); have n1_ := Aside0.mk (Kd.R_at hq_ HO_7.out); have n2_ := Aside0.mk (below_at hq_ HB.out); clear hq_ HO_5 HO_7 HB; have HO_5 := n0_; have HO_7 := n1_; have HB := n2_; clear n0_ n1_ n2_; (try (have HP65 := Kd.R_putg HO_7.out (x11_3 : Int) true)))); refine store_event (t := 4) (p := 150) (v := ?vo_w66) (w1 := (wr.setCell ⟨go64, (x11_3 : Int).toNat, none⟩ (.bool true))) ?hg ?ho ?hn ?hr ?_; (case ho => rfl); (case hg => rfl); (case hn => rfl); (case hr => first | (go_simp; done) | (go_simp; rfl)); intro w66 hw; have hg : wr.grownBy w66 (some go64) := (by rw [hw]; exact HP65.2); have hp_ : Kd.R Kd.bool 4 w66 w.heap.size (fun k_ => some k_ ≠ (u5 : Value).ownBlock) (.slice (some ⟨go64, 0, none⟩) x7_3.length co64) y263 := (by rw [hw, Ny263.out]; exact HP65.1); clear HP65; have n0_ := Aside0.mk (Kd.R_after (v := (.slice (some ⟨go64, 0, none⟩) x7_3.length co64)) (v1 := (.slice (some ⟨go64, 0, none⟩) x7_3.length co64)) (ok := (fun _ => True)) (by (with_reducible repeat (first | apply Kd.R_alloc | apply Kd.R_drewN | apply Kd.R_drew)); exact Kd.R_mono HO_5.out (fun _ hk => ⟨trivial, hk⟩)) hg (.inl rfl)); have n1_ := Aside0.mk (hp_); have n2_ := Aside0.mk ((by rw [hw]; exact below_set (HB.out) GB64.out : Below w.heap.size w w66)); clear HO_5; clear HO_7; clear HB; have HO_5 := n0_; have HO_7 := n1_; have HB := n2_; clear n0_ n1_ n2_; clear hg hw hp_))
                          repeat (go_quiet (first | ((with_reducible refine gate_store (t := 4) (p := 150) rfl ?_); (try (rw [drewN_self wr]; generalize hq_ : World.drewN wr _ = wr; have n0_ := Aside0.mk (Kd.R_at hq_ HO_5.out); have n1_ := Aside0.mk (Kd.R_at hq_ HO_7.out); have n2_ := Aside0.mk (below_at hq_ HB.out); clear hq_ HO_5 HO_7 HB; have HO_5 := n0_; have HO_7 := n1_; have HB := n2_; clear n0_ n1_ n2_; (try (have HP65 := Kd.R_putg HO_7.out (x11_3 : Int) true)))); refine store_event (t := 4) (p := 150) (v := ?vo_w66) (w1 := (wr.setCell ⟨go64, (x11_3 : Int).toNat, none⟩ (.bool true))) ?hg ?ho ?hn ?hr ?_; (case ho => rfl); (case hg => rfl); (case hn => rfl); (case hr => first | (go_simp; done) | (go_simp; rfl)); intro w66 hw; have hg : wr.grownBy w66 (some go64) := (by rw [hw]; exact HP65.2); have hp_ : Kd.R Kd.bool 4 w66 w.heap.size (fun k_ => some k_ ≠ (u5 : Value).ownBlock) (.slice (some ⟨go64, 0, none⟩) x7_3.length co64) y263 := (by rw [hw, Ny263.out]; exact HP65.1); clear HP65; have n0_ := Aside0.mk (Kd.R_after (v := (.slice (some ⟨go64, 0, none⟩) x7_3.length co64)) (v1 := (.slice (some ⟨go64, 0, none⟩) x7_3.length co64)) (ok := (fun _ => True)) (by (with_reducible repeat (first | apply Kd.R_alloc | apply Kd.R_drewN | apply Kd.R_drew)); exact Kd.R_mono HO_5.out (fun _ hk => ⟨trivial, hk⟩)) hg (.inl rfl)); have n1_ := Aside0.mk (hp_); have n2_ := Aside0.mk ((by rw [hw]; exact below_set (HB.out) GB64.out : Below w.heap.size w w66)); clear HO_5; clear HO_7; clear HB; have HO_5 := n0_; have HO_7 := n1_; have HB := n2_; clear n0_ n1_ n2_; clear hg hw hp_)); try go_wp2_with (first | ((with_reducible refine gate_store (t := 4) (p := 150) rfl ?_); (try (rw [drewN_self wr]; generalize hq_ : World.drewN wr _ = wr; have n0_ := Aside0.mk (Kd.R_at hq_ HO_5.out); have n1_ := Aside0.mk (Kd.R_at hq_ HO_7.out); have n2_ := Aside0.mk (below_at hq_ HB.out); clear hq_ HO_5 HO_7 HB; have HO_5 := n0_; have HO_7 := n1_; have HB := n2_; clear n0_ n1_ n2_; (try (have HP65 := Kd.R_putg HO_7.out (x11_3 : Int) true)))); refine store_event (t := 4) (p := 150) (v := ?vo_w66) (w1 := (wr.setCell ⟨go64, (x11_3 : Int).toNat, none⟩ (.bool true))) ?hg ?ho ?hn ?hr ?_; (case ho => rfl); (case hg => rfl); (case hn => rfl); (case hr => first | (go_simp; done) | (go_simp; rfl)); intro w66 hw; have hg : wr.grownBy w66 (some go64) := (by rw [hw]; exact HP65.2); have hp_ : Kd.R Kd.bool 4 w66 w.heap.size (fun k_ => some k_ ≠ (u5 : Value).ownBlock) (.slice (some ⟨go64, 0, none⟩) x7_3.length co64) y263 := (by rw [hw, Ny263.out]; exact HP65.1); clear HP65; have n0_ := Aside0.mk (Kd.R_after (v := (.slice (some ⟨go64, 0, none⟩) x7_3.length co64)) (v1 := (.slice (some ⟨go64, 0, none⟩) x7_3.length co64)) (ok := (fun _ => True)) (by (with_reducible repeat (first | apply Kd.R_alloc | apply Kd.R_drewN | apply Kd.R_drew)); exact Kd.R_mono HO_5.out (fun _ hk => ⟨trivial, hk⟩)) hg (.inl rfl)); have n1_ := Aside0.mk (hp_); have n2_ := Aside0.mk ((by rw [hw]; exact below_set (HB.out) GB64.out : Below w.heap.size w w66)); clear HO_5; clear HO_7; clear HB; have HO_5 := n0_; have HO_7 := n1_; have HB := n2_; clear n0_ n1_ n2_; clear hg hw hp_)))
                          go_roundg k3
                          case measure => have := HK1.out; have := HJ17.out; have := HK3.out; omega
                          case rel => exact ⟨(y263), (true), (wrap64 (x11_3 + 1)), (by first | rfl | (simp; done) | (simp [*]; done)), (by first | rfl | (simp; done) | (simp [*]; done)), H', ⟨by have := HK1.out; have := HJ17.out; have := HK3.out; omega⟩, ⟨by (with_reducible repeat (first | apply Kd.R_alloc | apply Kd.R_drewN | apply Kd.R_drew)); exact Kd.R_mono HO_5.out (fun _ hk => hk.2)⟩, ⟨by (with_reducible repeat (first | apply Kd.R_alloc | apply Kd.R_drewN | apply Kd.R_drew)); exact HO_7.out⟩, ⟨by repeat (first | (with_reducible first | exact HB.out | apply below_alloc | apply pw_below_drewN | apply below_drew1) | exact HB.out)⟩⟩
                         ·rw [if_neg c63] at H
                          exact absurd H (by simp)
                        ·rw [if_neg c62] at H
                         exact absurd H (by simp)
                       ·replace c61 := Bool.eq_false_iff.mpr c61
                        subst c61
                        have H1 : (if 0 ≤ x11_3 then (if x11_3 < (x5_1.length : Int) then (if x11_3 < (x7_3.length : Int) then (ambryref23_Match.l2 k3 a0 a1 x5_1 x6_1 (x7_3.set (x11_3 : Int).toNat (rdOf false x5_1 x11_3)) (rdOf false x5_1 x11_3) (wrap64 (x11_3 + 1))) else (none)) else (none)) else (none)) = some r := by rw [if_neg (show ¬ (false = true) by decide)] at H; exact H
                        clear H
                        have H := H1
                        clear H1
                        by_cases c67 : 0 ≤ x11_3
                        ·rw [if_pos c67] at H
                         have c67b0 : decide (0 ≤ x11_3) = true := decide_eq_true c67
                         clear c67
                         by_cases c68 : x11_3 < (x5_1.length : Int)
                         ·rw [if_pos c68] at H
                          have c68b0 : decide (x11_3 < (x5_1.length : Int)) = true := decide_eq_true c68
                          clear c68
                          by_cases c69 : x11_3 < (x7_3.length : Int)
                          ·rw [if_pos c69] at H
                           have c69b0 : decide (x11_3 < (x7_3.length : Int)) = true := decide_eq_true c69
                           clear c69
                           obtain ⟨y265, hy265⟩ : ∃ y_ : List Bool, y_ = (x7_3.set (x11_3 : Int).toNat (rdOf false x5_1 x11_3)) := ⟨_, rfl⟩
                           replace H : (ambryref23_Match.l2 k3 a0 a1 x5_1 x6_1 y265 (rdOf false x5_1 x11_3) (wrap64 (x11_3 + 1))) = some r := by first | (rw [hy265]; with_reducible exact H) | (have H2_ := (Option.bind_some _ _).symm.trans H; rw [hy265]; with_reducible exact H2_) | (have H2_ := (Option.bind_some _ _).symm.trans H; with_reducible exact H2_) | with_reducible exact H | (rw [hy265]; exact H) | exact H
                           have Ny265 := Aside0.mk hy265
                           clear hy265
                           have H' := Aside0.mk H
                           clear H
                           have p52 : 0 ≤ ((ji49) : Int) := of_decide_eq_true (by first | (with_reducible assumption) | assumption)
                           have q52 : (ji49) < (a1.size : Int) := of_decide_eq_true (by first | (with_reducible assumption) | assumption)
                           have hx52 := bt_at a1 (ji49)
                           replace p52 := eq_true p52
                           replace q52 := eq_true q52
                           obtain ⟨Ao71, co71, eo71⟩ := Kd.R_slice HO_5.out
                           subst eo71
                           have p264 : 0 ≤ (x11_3 : Int) := of_decide_eq_true (by first | (with_reducible assumption) | assumption)
                           have q264 : x11_3 < (x5_1.length : Int) := of_decide_eq_true (by first | (with_reducible assumption) | assumption)
                           obtain ⟨ad264, e264, hx264_0⟩ := Kd.at_bool (Kd.R_reads' HO_5.out).2.2 x11_3 p264 q264
                           cases e264
                           replace p264 := eq_true p264
                           replace q264 := eq_true q264
                           have p70 : 0 ≤ (x11_3 : Int) := of_decide_eq_true (by first | (with_reducible assumption) | assumption)
                           have q70 : (x11_3 : Int) < ((x7_3.length : Int) : Int) := of_decide_eq_true (by first | (with_reducible assumption) | assumption)
                           obtain ⟨go70, co70, eo70, gb70, gl70, cl70, HG70⟩ := Kd.R_form HO_7.out (by omega)
                           (first | cases eo70 | (injection eo70 with ea_ en_ ec_; (first | subst ea_ | (injection ea_ with ea_; subst ea_)); subst ec_; clear en_))
                           have GB70 := Aside0.mk gb70
                           have GG70 := Aside0.mk HG70
                           clear gb70 gl70 HG70
                           obtain ⟨hx70_0, hf70_0⟩ := Kd.R_celln false HO_7.out (x11_3 : Int) p70 q70
                           replace p70 := eq_true p70
                           replace q70 := eq_true q70
                           have HP72 := Kd.R_putg HO_7.out (x11_3 : Int) (rdOf false x5_1 x11_3)
                           go_wp2_with (first | ((with_reducible refine gate_store (t := 4) (p := 150) rfl ?_); (try (rw [drewN_self wr]; generalize hq_ : World.drewN wr _ = wr; have n0_ := Aside0.mk (Kd.R_at hq_ HO_5.out); have n1_ := Aside0.mk (Kd.R_at hq_ HO_7.out); have n2_ := Aside0.mk (below_at hq_ HB.out); clear hq_ HO_5 HO_7 HB; have HO_5 := n0_; have HO_7 := n1_; have HB := n2_; clear n0_ n1_ n2_; (try (have HP72 := Kd.R_putg HO_7.out (x11_3 : Int) (rdOf false x5_1 x11_3))))); refine store_event (t := 4) (p := 150) (v := ?vo_w73) (w1 := (wr.setCell ⟨go70, (x11_3 : Int).toNat, none⟩ (.bool (rdOf false x5_1 x11_3)))) ?hg ?ho ?hn ?hr ?_; (case ho => rfl); (case hg => rfl); (case hn => rfl); (case hr => first | (go_simp; done) | (go_simp; rfl)); intro w73 hw; have hg : wr.grownBy w73 (some go70) := (by rw [hw]; exact HP72.2); have hp_ : Kd.R Kd.bool 4 w73 w.heap.size (fun k_ => some k_ ≠ (.slice (some ad264) x5_1.length co71 : Value).ownBlock) (.slice (some ⟨go70, 0, none⟩) x7_3.length co70) y265 := (by rw [hw, Ny265.out]; exact HP72.1); clear HP72; have n0_ := Aside0.mk (Kd.R_after (v := (.slice (some ⟨go70, 0, none⟩) x7_3.length co70)) (v1 := (.slice (some ⟨go70, 0, none⟩) x7_3.length co70)) (ok := (fun _ => True)) (by (with_reducible repeat (first | apply Kd.R_alloc | apply Kd.R_drewN | apply Kd.R_drew)); exact Kd.R_mono HO_5.out (fun _ hk => ⟨trivial, hk⟩)) hg (.inl rfl)); have n1_ := Aside0.mk (hp_); have n2_ := Aside0.mk ((by rw [hw]; exact below_set (HB.out) GB70.out : Below w.heap.size w w73)); clear HO_5; clear HO_7; clear HB; have HO_5 := n0_; have HO_7 := n1_; have HB := n2_; clear n0_ n1_ n2_; clear hg hw hp_))
                           repeat (go_quiet (first | ((with_reducible refine gate_store (t := 4) (p := 150) rfl ?_); (try (rw [drewN_self wr]; generalize hq_ : World.drewN wr _ = wr; have n0_ := Aside0.mk (Kd.R_at hq_ HO_5.out); have n1_ := Aside0.mk (Kd.R_at hq_ HO_7.out); have n2_ := Aside0.mk (below_at hq_ HB.out); clear hq_ HO_5 HO_7 HB; have HO_5 := n0_; have HO_7 := n1_; have HB := n2_; clear n0_ n1_ n2_; (try (have HP72 := Kd.R_putg HO_7.out (x11_3 : Int) (rdOf false x5_1 x11_3))))); refine store_event (t := 4) (p := 150) (v := ?vo_w73) (w1 := (wr.setCell ⟨go70, (x11_3 : Int).toNat, none⟩ (.bool (rdOf false x5_1 x11_3)))) ?hg ?ho ?hn ?hr ?_; (case ho => rfl); (case hg => rfl); (case hn => rfl); (case hr => first | (go_simp; done) | (go_simp; rfl)); intro w73 hw; have hg : wr.grownBy w73 (some go70) := (by rw [hw]; exact HP72.2); have hp_ : Kd.R Kd.bool 4 w73 w.heap.size (fun k_ => some k_ ≠ (.slice (some ad264) x5_1.length co71 : Value).ownBlock) (.slice (some ⟨go70, 0, none⟩) x7_3.length co70) y265 := (by rw [hw, Ny265.out]; exact HP72.1); clear HP72; have n0_ := Aside0.mk (Kd.R_after (v := (.slice (some ⟨go70, 0, none⟩) x7_3.length co70)) (v1 := (.slice (some ⟨go70, 0, none⟩) x7_3.length co70)) (ok := (fun _ => True)) (by (with_reducible repeat (first | apply Kd.R_alloc | apply Kd.R_drewN | apply Kd.R_drew)); exact Kd.R_mono HO_5.out (fun _ hk => ⟨trivial, hk⟩)) hg (.inl rfl)); have n1_ := Aside0.mk (hp_); have n2_ := Aside0.mk ((by rw [hw]; exact below_set (HB.out) GB70.out : Below w.heap.size w w73)); clear HO_5; clear HO_7; clear HB; have HO_5 := n0_; have HO_7 := n1_; have HB := n2_; clear n0_ n1_ n2_; clear hg hw hp_)); try go_wp2_with (first | ((with_reducible refine gate_store (t := 4) (p := 150) rfl ?_); (try (rw [drewN_self wr]; generalize hq_ : World.drewN wr _ = wr; have n0_ := Aside0.mk (Kd.R_at hq_ HO_5.out); have n1_ := Aside0.mk (Kd.R_at hq_ HO_7.out); have n2_ := Aside0.mk (below_at hq_ HB.out); clear hq_ HO_5 HO_7 HB; have HO_5 := n0_; have HO_7 := n1_; have HB := n2_; clear n0_ n1_ n2_; (try (have HP72 := Kd.R_putg HO_7.out (x11_3 : Int) (rdOf false x5_1 x11_3))))); refine store_event (t := 4) (p := 150) (v := ?vo_w73) (w1 := (wr.setCell ⟨go70, (x11_3 : Int).toNat, none⟩ (.bool (rdOf false x5_1 x11_3)))) ?hg ?ho ?hn ?hr ?_; (case ho => rfl); (case hg => rfl); (case hn => rfl); (case hr => first | (go_simp; done) | (go_simp; rfl)); intro w73 hw; have hg : wr.grownBy w73 (some go70) := (by rw [hw]; exact HP72.2); have hp_ : Kd.R Kd.bool 4 w73 w.heap.size (fun k_ => some k_ ≠ (.slice (some ad264) x5_1.length co71 : Value).ownBlock) (.slice (some ⟨go70, 0, none⟩) x7_3.length co70) y265 := (by rw [hw, Ny265.out]; exact HP72.1); clear HP72; have n0_ := Aside0.mk (Kd.R_after (v := (.slice (some ⟨go70, 0, none⟩) x7_3.length co70)) (v1 := (.slice (some ⟨go70, 0, none⟩) x7_3.length co70)) (ok := (fun _ => True)) (by (with_reducible repeat (first | apply Kd.R_alloc | apply Kd.R_drewN | apply Kd.R_drew)); exact Kd.R_mono HO_5.out (fun _ hk => ⟨trivial, hk⟩)) hg (.inl rfl)); have n1_ := Aside0.mk (hp_); have n2_ := Aside0.mk ((by rw [hw]; exact below_set (HB.out) GB70.out : Below w.heap.size w w73)); clear HO_5; clear HO_7; clear HB; have HO_5 := n0_; have HO_7 := n1_; have HB := n2_; clear n0_ n1_ n2_; clear hg hw hp_)))
                           go_roundg k3
                           case measure => have := HK1.out; have := HJ17.out; have := HK3.out; omega
                           case rel => exact ⟨(y265), (rdOf false x5_1 x11_3), (wrap64 (x11_3 + 1)), (by first | rfl | (simp; done) | (simp [*]; done)), (by first | rfl | (simp; done) | (simp [*]; done)), H', ⟨by have := HK1.out; have := HJ17.out; have := HK3.out; omega⟩, ⟨by (with_reducible repeat (first | apply Kd.R_alloc | apply Kd.R_drewN | apply Kd.R_drew)); exact Kd.R_mono HO_5.out (fun _ hk => hk.2)⟩, ⟨by (with_reducible repeat (first | apply Kd.R_alloc | apply Kd.R_drewN | apply Kd.R_drew)); exact HO_7.out⟩, ⟨by repeat (first | (with_reducible first | exact HB.out | apply below_alloc | apply pw_below_drewN | apply below_drew1) | exact HB.out)⟩⟩
                          ·rw [if_neg c69] at H
                           exact absurd H (by simp)
                         ·rw [if_neg c68] at H
                          exact absurd H (by simp)
                        ·rw [if_neg c67] at H
                         exact absurd H (by simp)
                     ·rw [if_neg c51] at H
                      exact absurd H (by simp)
                    ·rw [if_neg c50] at H
                     exact absurd H (by simp)
                   ·rw [if_neg c48] at H
                    have c48b0 : decide (0 < x11_3) = false := decide_eq_false c48
                    clear c48
                    by_cases c74 : x10_3 = true
                    ·subst c74
                     have H1 : (if 0 ≤ x11_3 then (if x11_3 < (x7_3.length : Int) then (ambryref23_Match.l2 k3 a0 a1 x5_1 x6_1 (x7_3.set (x11_3 : Int).toNat true) true (wrap64 (x11_3 + 1))) else (none)) else (none)) = some r := by rw [if_pos rfl] at H; exact H
                     clear H
                     have H := H1
                     clear H1
                     by_cases c75 : 0 ≤ x11_3
                     ·rw [if_pos c75] at H
                      have c75b0 : decide (0 ≤ x11_3) = true := decide_eq_true c75
                      clear c75
                      by_cases c76 : x11_3 < (x7_3.length : Int)
                      ·rw [if_pos c76] at H
                       have c76b0 : decide (x11_3 < (x7_3.length : Int)) = true := decide_eq_true c76
                       clear c76
                       obtain ⟨y266, hy266⟩ : ∃ y_ : List Bool, y_ = (x7_3.set (x11_3 : Int).toNat true) := ⟨_, rfl⟩
                       replace H : (ambryref23_Match.l2 k3 a0 a1 x5_1 x6_1 y266 true (wrap64 (x11_3 + 1))) = some r := by first | (rw [hy266]; with_reducible exact H) | (have H2_ := (Option.bind_some _ _).symm.trans H; rw [hy266]; with_reducible exact H2_) | (have H2_ := (Option.bind_some _ _).symm.trans H; with_reducible exact H2_) | with_reducible exact H | (rw [hy266]; exact H) | exact H
                       have Ny266 := Aside0.mk hy266
                       clear hy266
                       have H' := Aside0.mk H
                       clear H
                       have p77 : 0 ≤ (x11_3 : Int) := of_decide_eq_true (by first | (with_reducible assumption) | assumption)
                       have q77 : (x11_3 : Int) < ((x7_3.length : Int) : Int) := of_decide_eq_true (by first | (with_reducible assumption) | assumption)
                       obtain ⟨go77, co77, eo77, gb77, gl77, cl77, HG77⟩ := Kd.R_form HO_7.out (by omega)
                       (first | cases eo77 | (injection eo77 with ea_ en_ ec_; (first | subst ea_ | (injection ea_ with ea_; subst ea_)); subst ec_; clear en_))
                       have GB77 := Aside0.mk gb77
                       have GG77 := Aside0.mk HG77
                       clear gb77 gl77 HG77
                       obtain ⟨hx77_0, hf77_0⟩ := Kd.R_celln false HO_7.out (x11_3 : Int) p77 q77
                       replace p77 := eq_true p77
                       replace q77 := eq_true q77
                       have HP78 := Kd.R_putg HO_7.out (x11_3 : Int) true
                       go_wp2_with (first | ((with_reducible refine gate_store (t := 4) (p := 150) rfl ?_); (try (rw [drewN_self wr]; generalize hq_ : World.drewN wr _ = wr; have n0_ := Aside0.mk (Kd.R_at hq_ HO_5.out); have n1_ := Aside0.mk (Kd.R_at hq_ HO_7.out); have n2_ := Aside0.mk (below_at hq_ HB.out); clear hq_ HO_5 HO_7 HB; have HO_5 := n0_; have HO_7 := n1_; have HB := n2_; clear n0_ n1_ n2_; (try (have HP78 := Kd.R_putg HO_7.out (x11_3 : Int) true)))); refine store_event (t := 4) (p := 150) (v := ?vo_w79) (w1 := (wr.setCell ⟨go77, (x11_3 : Int).toNat, none⟩ (.bool true))) ?hg ?ho ?hn ?hr ?_; (case ho => rfl); (case hg => rfl); (case hn => rfl); (case hr => first | (go_simp; done) | (go_simp; rfl)); intro w79 hw; have hg : wr.grownBy w79 (some go77) := (by rw [hw]; exact HP78.2); have hp_ : Kd.R Kd.bool 4 w79 w.heap.size (fun k_ => some k_ ≠ (u5 : Value).ownBlock) (.slice (some ⟨go77, 0, none⟩) x7_3.length co77) y266 := (by rw [hw, Ny266.out]; exact HP78.1); clear HP78; have n0_ := Aside0.mk (Kd.R_after (v := (.slice (some ⟨go77, 0, none⟩) x7_3.length co77)) (v1 := (.slice (some ⟨go77, 0, none⟩) x7_3.length co77)) (ok := (fun _ => True)) (by (with_reducible repeat (first | apply Kd.R_alloc | apply Kd.R_drewN | apply Kd.R_drew)); exact Kd.R_mono HO_5.out (fun _ hk => ⟨trivial, hk⟩)) hg (.inl rfl)); have n1_ := Aside0.mk (hp_); have n2_ := Aside0.mk ((by rw [hw]; exact below_set (HB.out) GB77.out : Below w.heap.size w w79)); clear HO_5; clear HO_7; clear HB; have HO_5 := n0_; have HO_7 := n1_; have HB := n2_; clear n0_ n1_ n2_; clear hg hw hp_))
                       repeat (go_quiet (first | ((with_reducible refine gate_store (t := 4) (p := 150) rfl ?_); (try (rw [drewN_self wr]; generalize hq_ : World.drewN wr _ = wr; have n0_ := Aside0.mk (Kd.R_at hq_ HO_5.out); have n1_ := Aside0.mk (Kd.R_at hq_ HO_7.out); have n2_ := Aside0.mk (below_at hq_ HB.out); clear hq_ HO_5 HO_7 HB; have HO_5 := n0_; have HO_7 := n1_; have HB := n2_; clear n0_ n1_ n2_; (try (have HP78 := Kd.R_putg HO_7.out (x11_3 : Int) true)))); refine store_event (t := 4) (p := 150) (v := ?vo_w79) (w1 := (wr.setCell ⟨go77, (x11_3 : Int).toNat, none⟩ (.bool true))) ?hg ?ho ?hn ?hr ?_; (case ho => rfl); (case hg => rfl); (case hn => rfl); (case hr => first | (go_simp; done) | (go_simp; rfl)); intro w79 hw; have hg : wr.grownBy w79 (some go77) := (by rw [hw]; exact HP78.2); have hp_ : Kd.R Kd.bool 4 w79 w.heap.size (fun k_ => some k_ ≠ (u5 : Value).ownBlock) (.slice (some ⟨go77, 0, none⟩) x7_3.length co77) y266 := (by rw [hw, Ny266.out]; exact HP78.1); clear HP78; have n0_ := Aside0.mk (Kd.R_after (v := (.slice (some ⟨go77, 0, none⟩) x7_3.length co77)) (v1 := (.slice (some ⟨go77, 0, none⟩) x7_3.length co77)) (ok := (fun _ => True)) (by (with_reducible repeat (first | apply Kd.R_alloc | apply Kd.R_drewN | apply Kd.R_drew)); exact Kd.R_mono HO_5.out (fun _ hk => ⟨trivial, hk⟩)) hg (.inl rfl)); have n1_ := Aside0.mk (hp_); have n2_ := Aside0.mk ((by rw [hw]; exact below_set (HB.out) GB77.out : Below w.heap.size w w79)); clear HO_5; clear HO_7; clear HB; have HO_5 := n0_; have HO_7 := n1_; have HB := n2_; clear n0_ n1_ n2_; clear hg hw hp_)); try go_wp2_with (first | ((with_reducible refine gate_store (t := 4) (p := 150) rfl ?_); (try (rw [drewN_self wr]; generalize hq_ : World.drewN wr _ = wr; have n0_ := Aside0.mk (Kd.R_at hq_ HO_5.out); have n1_ := Aside0.mk (Kd.R_at hq_ HO_7.out); have n2_ := Aside0.mk (below_at hq_ HB.out); clear hq_ HO_5 HO_7 HB; have HO_5 := n0_; have HO_7 := n1_; have HB := n2_; clear n0_ n1_ n2_; (try (have HP78 := Kd.R_putg HO_7.out (x11_3 : Int) true)))); refine store_event (t := 4) (p := 150) (v := ?vo_w79) (w1 := (wr.setCell ⟨go77, (x11_3 : Int).toNat, none⟩ (.bool true))) ?hg ?ho ?hn ?hr ?_; (case ho => rfl); (case hg => rfl); (case hn => rfl); (case hr => first | (go_simp; done) | (go_simp; rfl)); intro w79 hw; have hg : wr.grownBy w79 (some go77) := (by rw [hw]; exact HP78.2); have hp_ : Kd.R Kd.bool 4 w79 w.heap.size (fun k_ => some k_ ≠ (u5 : Value).ownBlock) (.slice (some ⟨go77, 0, none⟩) x7_3.length co77) y266 := (by rw [hw, Ny266.out]; exact HP78.1); clear HP78; have n0_ := Aside0.mk (Kd.R_after (v := (.slice (some ⟨go77, 0, none⟩) x7_3.length co77)) (v1 := (.slice (some ⟨go77, 0, none⟩) x7_3.length co77)) (ok := (fun _ => True)) (by (with_reducible repeat (first | apply Kd.R_alloc | apply Kd.R_drewN | apply Kd.R_drew)); exact Kd.R_mono HO_5.out (fun _ hk => ⟨trivial, hk⟩)) hg (.inl rfl)); have n1_ := Aside0.mk (hp_); have n2_ := Aside0.mk ((by rw [hw]; exact below_set (HB.out) GB77.out : Below w.heap.size w w79)); clear HO_5; clear HO_7; clear HB; have HO_5 := n0_; have HO_7 := n1_; have HB := n2_; clear n0_ n1_ n2_; clear hg hw hp_)))
                       go_roundg k3
                       case measure => have := HK1.out; have := HJ17.out; have := HK3.out; omega
                       case rel => exact ⟨(y266), (true), (wrap64 (x11_3 + 1)), (by first | rfl | (simp; done) | (simp [*]; done)), (by first | rfl | (simp; done) | (simp [*]; done)), H', ⟨by have := HK1.out; have := HJ17.out; have := HK3.out; omega⟩, ⟨by (with_reducible repeat (first | apply Kd.R_alloc | apply Kd.R_drewN | apply Kd.R_drew)); exact Kd.R_mono HO_5.out (fun _ hk => hk.2)⟩, ⟨by (with_reducible repeat (first | apply Kd.R_alloc | apply Kd.R_drewN | apply Kd.R_drew)); exact HO_7.out⟩, ⟨by repeat (first | (with_reducible first | exact HB.out | apply below_alloc | apply pw_below_drewN | apply below_drew1) | exact HB.out)⟩⟩
                      ·rw [if_neg c76] at H
                       exact absurd H (by simp)
                     ·rw [if_neg c75] at H
                      exact absurd H (by simp)
                    ·replace c74 := Bool.eq_false_iff.mpr c74
                     subst c74
                     have H1 : (if 0 ≤ x11_3 then (if x11_3 < (x5_1.length : Int) then (if x11_3 < (x7_3.length : Int) then (ambryref23_Match.l2 k3 a0 a1 x5_1 x6_1 (x7_3.set (x11_3 : Int).toNat (rdOf false x5_1 x11_3)) (rdOf false x5_1 x11_3) (wrap64 (x11_3 + 1))) else (none)) else (none)) else (none)) = some r := by rw [if_neg (show ¬ (false = true) by decide)] at H; exact H
                     clear H
                     have H := H1
                     clear H1
                     by_cases c80 : 0 ≤ x11_3
                     ·rw [if_pos c80] at H
                      have c80b0 : decide (0 ≤ x11_3) = true := decide_eq_true c80
                      clear c80
                      by_cases c81 : x11_3 < (x5_1.length : Int)
                      ·rw [if_pos c81] at H
                       have c81b0 : decide (x11_3 < (x5_1.length : Int)) = true := decide_eq_true c81
                       clear c81
                       by_cases c82 : x11_3 < (x7_3.length : Int)
                       ·rw [if_pos c82] at H
                        have c82b0 : decide (x11_3 < (x7_3.length : Int)) = true := decide_eq_true c82
                        clear c82
                        obtain ⟨y268, hy268⟩ : ∃ y_ : List Bool, y_ = (x7_3.set (x11_3 : Int).toNat (rdOf false x5_1 x11_3)) := ⟨_, rfl⟩
                        replace H : (ambryref23_Match.l2 k3 a0 a1 x5_1 x6_1 y268 (rdOf false x5_1 x11_3) (wrap64 (x11_3 + 1))) = some r := by first | (rw [hy268]; with_reducible exact H) | (have H2_ := (Option.bind_some _ _).symm.trans H; rw [hy268]; with_reducible exact H2_) | (have H2_ := (Option.bind_some _ _).symm.trans H; with_reducible exact H2_) | with_reducible exact H | (rw [hy268]; exact H) | exact H
                        have Ny268 := Aside0.mk hy268
                        clear hy268
                        have H' := Aside0.mk H
                        clear H
                        obtain ⟨Ao84, co84, eo84⟩ := Kd.R_slice HO_5.out
                        subst eo84
                        have p267 : 0 ≤ (x11_3 : Int) := of_decide_eq_true (by first | (with_reducible assumption) | assumption)
                        have q267 : x11_3 < (x5_1.length : Int) := of_decide_eq_true (by first | (with_reducible assumption) | assumption)
                        obtain ⟨ad267, e267, hx267_0⟩ := Kd.at_bool (Kd.R_reads' HO_5.out).2.2 x11_3 p267 q267
                        cases e267
                        replace p267 := eq_true p267
                        replace q267 := eq_true q267
                        have p83 : 0 ≤ (x11_3 : Int) := of_decide_eq_true (by first | (with_reducible assumption) | assumption)
                        have q83 : (x11_3 : Int) < ((x7_3.length : Int) : Int) := of_decide_eq_true (by first | (with_reducible assumption) | assumption)
                        obtain ⟨go83, co83, eo83, gb83, gl83, cl83, HG83⟩ := Kd.R_form HO_7.out (by omega)
                        (first | cases eo83 | (injection eo83 with ea_ en_ ec_; (first | subst ea_ | (injection ea_ with ea_; subst ea_)); subst ec_; clear en_))
                        have GB83 := Aside0.mk gb83
                        have GG83 := Aside0.mk HG83
                        clear gb83 gl83 HG83
                        obtain ⟨hx83_0, hf83_0⟩ := Kd.R_celln false HO_7.out (x11_3 : Int) p83 q83
                        replace p83 := eq_true p83
                        replace q83 := eq_true q83
                        have HP85 := Kd.R_putg HO_7.out (x11_3 : Int) (rdOf false x5_1 x11_3)
                        go_wp2_with (first | ((with_reducible refine gate_store (t := 4) (p := 150) rfl ?_); (try (rw [drewN_self wr]; generalize hq_ : World.drewN wr _ = wr; have n0_ := Aside0.mk (Kd.R_at hq_ HO_5.out); have n1_ := Aside0.mk (Kd.R_at hq_ HO_7.out); have n2_ := Aside0.mk (below_at hq_ HB.out); clear hq_ HO_5 HO_7 HB; have HO_5 := n0_; have HO_7 := n1_; have HB := n2_; clear n0_ n1_ n2_; (try (have HP85 := Kd.R_putg HO_7.out (x11_3 : Int) (rdOf false x5_1 x11_3))))); refine store_event (t := 4) (p := 150) (v := ?vo_w86) (w1 := (wr.setCell ⟨go83, (x11_3 : Int).toNat, none⟩ (.bool (rdOf false x5_1 x11_3)))) ?hg ?ho ?hn ?hr ?_; (case ho => rfl); (case hg => rfl); (case hn => rfl); (case hr => first | (go_simp; done) | (go_simp; rfl)); intro w86 hw; have hg : wr.grownBy w86 (some go83) := (by rw [hw]; exact HP85.2); have hp_ : Kd.R Kd.bool 4 w86 w.heap.size (fun k_ => some k_ ≠ (.slice (some ad267) x5_1.length co84 : Value).ownBlock) (.slice (some ⟨go83, 0, none⟩) x7_3.length co83) y268 := (by rw [hw, Ny268.out]; exact HP85.1); clear HP85; have n0_ := Aside0.mk (Kd.R_after (v := (.slice (some ⟨go83, 0, none⟩) x7_3.length co83)) (v1 := (.slice (some ⟨go83, 0, none⟩) x7_3.length co83)) (ok := (fun _ => True)) (by (with_reducible repeat (first | apply Kd.R_alloc | apply Kd.R_drewN | apply Kd.R_drew)); exact Kd.R_mono HO_5.out (fun _ hk => ⟨trivial, hk⟩)) hg (.inl rfl)); have n1_ := Aside0.mk (hp_); have n2_ := Aside0.mk ((by rw [hw]; exact below_set (HB.out) GB83.out : Below w.heap.size w w86)); clear HO_5; clear HO_7; clear HB; have HO_5 := n0_; have HO_7 := n1_; have HB := n2_; clear n0_ n1_ n2_; clear hg hw hp_))
                        repeat (go_quiet (first | ((with_reducible refine gate_store (t := 4) (p := 150) rfl ?_); (try (rw [drewN_self wr]; generalize hq_ : World.drewN wr _ = wr; have n0_ := Aside0.mk (Kd.R_at hq_ HO_5.out); have n1_ := Aside0.mk (Kd.R_at hq_ HO_7.out); have n2_ := Aside0.mk (below_at hq_ HB.out); clear hq_ HO_5 HO_7 HB; have HO_5 := n0_; have HO_7 := n1_; have HB := n2_; clear n0_ n1_ n2_; (try (have HP85 := Kd.R_putg HO_7.out (x11_3 : Int) (rdOf false x5_1 x11_3))))); refine store_event (t := 4) (p := 150) (v := ?vo_w86) (w1 := (wr.setCell ⟨go83, (x11_3 : Int).toNat, none⟩ (.bool (rdOf false x5_1 x11_3)))) ?hg ?ho ?hn ?hr ?_; (case ho => rfl); (case hg => rfl); (case hn => rfl); (case hr => first | (go_simp; done) | (go_simp; rfl)); intro w86 hw; have hg : wr.grownBy w86 (some go83) := (by rw [hw]; exact HP85.2); have hp_ : Kd.R Kd.bool 4 w86 w.heap.size (fun k_ => some k_ ≠ (.slice (some ad267) x5_1.length co84 : Value).ownBlock) (.slice (some ⟨go83, 0, none⟩) x7_3.length co83) y268 := (by rw [hw, Ny268.out]; exact HP85.1); clear HP85; have n0_ := Aside0.mk (Kd.R_after (v := (.slice (some ⟨go83, 0, none⟩) x7_3.length co83)) (v1 := (.slice (some ⟨go83, 0, none⟩) x7_3.length co83)) (ok := (fun _ => True)) (by (with_reducible repeat (first | apply Kd.R_alloc | apply Kd.R_drewN | apply Kd.R_drew)); exact Kd.R_mono HO_5.out (fun _ hk => ⟨trivial, hk⟩)) hg (.inl rfl)); have n1_ := Aside0.mk (hp_); have n2_ := Aside0.mk ((by rw [hw]; exact below_set (HB.out) GB83.out : Below w.heap.size w w86)); clear HO_5; clear HO_7; clear HB; have HO_5 := n0_; have HO_7 := n1_; have HB := n2_; clear n0_ n1_ n2_; clear hg hw hp_)); try go_wp2_with (first | ((with_reducible refine gate_store (t := 4) (p := 150) rfl ?_); (try (rw [drewN_self wr]; generalize hq_ : World.drewN wr _ = wr; have n0_ := Aside0.mk (Kd.R_at hq_ HO_5.out); have n1_ := Aside0.mk (Kd.R_at hq_ HO_7.out); have n2_ := Aside0.mk (below_at hq_ HB.out); clear hq_ HO_5 HO_7 HB; have HO_5 := n0_; have HO_7 := n1_; have HB := n2_; clear n0_ n1_ n2_; (try (have HP85 := Kd.R_putg HO_7.out (x11_3 : Int) (rdOf false x5_1 x11_3))))); refine store_event (t := 4) (p := 150) (v := ?vo_w86) (w1 := (wr.setCell ⟨go83, (x11_3 : Int).toNat, none⟩ (.bool (rdOf false x5_1 x11_3)))) ?hg ?ho ?hn ?hr ?_; (case ho => rfl); (case hg => rfl); (case hn => rfl); (case hr => first | (go_simp; done) | (go_simp; rfl)); intro w86 hw; have hg : wr.grownBy w86 (some go83) := (by rw [hw]; exact HP85.2); have hp_ : Kd.R Kd.bool 4 w86 w.heap.size (fun k_ => some k_ ≠ (.slice (some ad267) x5_1.length co84 : Value).ownBlock) (.slice (some ⟨go83, 0, none⟩) x7_3.length co83) y268 := (by rw [hw, Ny268.out]; exact HP85.1); clear HP85; have n0_ := Aside0.mk (Kd.R_after (v := (.slice (some ⟨go83, 0, none⟩) x7_3.length co83)) (v1 := (.slice (some ⟨go83, 0, none⟩) x7_3.length co83)) (ok := (fun _ => True)) (by (with_reducible repeat (first | apply Kd.R_alloc | apply Kd.R_drewN | apply Kd.R_drew)); exact Kd.R_mono HO_5.out (fun _ hk => ⟨trivial, hk⟩)) hg (.inl rfl)); have n1_ := Aside0.mk (hp_); have n2_ := Aside0.mk ((by rw [hw]; exact below_set (HB.out) GB83.out : Below w.heap.size w w86)); clear HO_5; clear HO_7; clear HB; have HO_5 := n0_; have HO_7 := n1_; have HB := n2_; clear n0_ n1_ n2_; clear hg hw hp_)))
                        go_roundg k3
                        case measure => have := HK1.out; have := HJ17.out; have := HK3.out; omega
                        case rel => exact ⟨(y268), (rdOf false x5_1 x11_3), (wrap64 (x11_3 + 1)), (by first | rfl | (simp; done) | (simp [*]; done)), (by first | rfl | (simp; done) | (simp [*]; done)), H', ⟨by have := HK1.out; have := HJ17.out; have := HK3.out; omega⟩, ⟨by (with_reducible repeat (first | apply Kd.R_alloc | apply Kd.R_drewN | apply Kd.R_drew)); exact Kd.R_mono HO_5.out (fun _ hk => hk.2)⟩, ⟨by (with_reducible repeat (first | apply Kd.R_alloc | apply Kd.R_drewN | apply Kd.R_drew)); exact HO_7.out⟩, ⟨by repeat (first | (with_reducible first | exact HB.out | apply below_alloc | apply pw_below_drewN | apply below_drew1) | exact HB.out)⟩⟩
                       ·rw [if_neg c82] at H
                        exact absurd H (by simp)
                      ·rw [if_neg c81] at H
                       exact absurd H (by simp)
                     ·rw [if_neg c80] at H
                      exact absurd H (by simp)
                  ·rw [if_neg c47] at H
                   have c47b0 : decide (x11_3 ≤ (a1.size : Int)) = false := decide_eq_false c47
                   clear c47
                   have H' := Aside0.mk H
                   clear H
                   go_wp2
                   repeat (go_quiet (fail); try go_wp2)
                   go_roundg k3
                   case measure => have := HK1.out; have := HJ17.out; have := HK3.out; omega
                   case rel => exact ⟨(x7_3), (wrap64 (x6_1 + 1)), (by first | rfl | (simp; done) | (simp [*]; done)), H', ⟨by have := HK1.out; have := HJ17.out; have := HK3.out; omega⟩, ⟨by (with_reducible repeat (first | apply Kd.R_alloc | apply Kd.R_drewN | apply Kd.R_drew)); exact Kd.R_mono HO_7.out (fun _ hk => trivial)⟩, ⟨by repeat (first | (with_reducible first | exact HB.out | apply below_alloc | apply pw_below_drewN | apply below_drew1) | exact HB.out)⟩⟩
               ·rw [if_neg c46] at H
                have c46b0 : ((bt a0 x6_1) == 42) = false := beq_eq_false_iff_ne.mpr c46
                have c46b1 : ((bt a0 x6_1) != 42) = true := bne_iff_ne.mpr c46
                have HC89 := Aside0.mk H
                clear H
                have p45 : 0 ≤ (x6_1 : Int) := of_decide_eq_true (by first | (with_reducible assumption) | assumption)
                have q45 : x6_1 < (a0.size : Int) := of_decide_eq_true (by first | (with_reducible assumption) | assumption)
                have hx45 := bt_at a0 x6_1
                replace p45 := eq_true p45
                replace q45 := eq_true q45
                have p87 : 0 ≤ (x6_1 : Int) := of_decide_eq_true (by first | (with_reducible assumption) | assumption)
                have q87 : x6_1 < (a0.size : Int) := of_decide_eq_true (by first | (with_reducible assumption) | assumption)
                have hx87 := bt_at a0 x6_1
                replace p87 := eq_true p87
                replace q87 := eq_true q87
                have p88 : 0 ≤ (x6_1 : Int) := of_decide_eq_true (by first | (with_reducible assumption) | assumption)
                have q88 : x6_1 < (a0.size : Int) := of_decide_eq_true (by first | (with_reducible assumption) | assumption)
                have hx88 := bt_at a0 x6_1
                replace p88 := eq_true p88
                replace q88 := eq_true q88
                go_upto_if 42 with (fail)
                repeat (go_quiet (fail); go_upto_if 42 with (fail))
                go_cut [6, 12] (fun v6 v12 wc => ∃ (kq : Nat) (x6_88 : Int) (x12_88 : Int), v6 = .int .i64 x6_88 ∧ v12 = .int .u8 x12_88 ∧ Aside0 (ambryref23_Match.j4 kq a0 a1 x5_1 x6_88 y255 x12_88 ((bt a0 x6_1) == 63) = some r) ∧ Aside0 (kq ≤ kj17) ∧ Aside0 (Kd.R Kd.bool 4 wc w.heap.size (fun k_ => some k_ ≠ (v256 : Value).ownBlock) u5 x5_1) ∧ Aside0 (Kd.R Kd.bool 4 wc w.heap.size (fun k_ => some k_ ≠ (u5 : Value).ownBlock) v256 y255) ∧ Aside0 (Below w.heap.size w wc))
                case first =>
                 have H := HC89.out
                 clear HC89
                 by_cases c90 : (bt a0 x6_1) = 92
                 ·rw [if_pos c90] at H
                  have c90b0 : ((bt a0 x6_1) == 92) = true := beq_iff_eq.mpr c90
                  have c90b1 : ((bt a0 x6_1) != 92) = false := bne_eq_false_iff_eq.mpr c90
                  clear c90
                  (first | rw [c90b0] | (simp only [i64_w, i32_w]; rw [c90b0]) | skip)
                  obtain ⟨ji91, hji91⟩ : ∃ j_ : Int, (wrap64 (x6_1 + 1)) = j_ := ⟨_, rfl⟩
                  replace H : (if 0 ≤ (ji91) then (if (ji91) < (a0.size : Int) then (ambryref23_Match.j4 kj17 a0 a1 x5_1 ji91 y255 (bt a0 (ji91)) ((bt a0 x6_1) == 63)) else (none)) else (none)) = some r := by first | (rw [hji91] at H; exact H) | (simp only [hji91] at H ⊢; exact H)
                  have hji91w : (IntKind.i64.wrap (x6_1 + 1)) = ji91 := (i64_w _).trans hji91
                  by_cases c92 : 0 ≤ (ji91)
                  ·rw [if_pos c92] at H
                   have c92b0 : decide (0 ≤ (ji91)) = true := decide_eq_true c92
                   clear c92
                   by_cases c93 : (ji91) < (a0.size : Int)
                   ·rw [if_pos c93] at H
                    have c93b0 : decide ((ji91) < (a0.size : Int)) = true := decide_eq_true c93
                    clear c93
                    have H' := Aside0.mk H
                    clear H
                    have p94 : 0 ≤ ((ji91) : Int) := of_decide_eq_true (by first | (with_reducible assumption) | assumption)
                    have q94 : (ji91) < (a0.size : Int) := of_decide_eq_true (by first | (with_reducible assumption) | assumption)
                    have hx94 := bt_at a0 (ji91)
                    replace p94 := eq_true p94
                    replace q94 := eq_true q94
                    go_wp2
                    repeat (go_quiet (fail); try go_wp2)
                    go_meet
                    case rel => exact ⟨_, (ji91), (bt a0 (ji91)), (by first | rfl | (simp; done) | (simp only [← hji91] <;> (first | rfl | simp)) | (simp [*]; done)), (by first | rfl | (simp; done) | (simp only [← hji91] <;> (first | rfl | simp)) | (simp [*]; done)), H', ⟨by have := HK1.out; have := HJ17.out; first | omega | exact Nat.le_refl _⟩, ⟨by (with_reducible repeat (first | apply Kd.R_alloc | apply Kd.R_drewN | apply Kd.R_drew)); exact HO_5.out⟩, ⟨by (with_reducible repeat (first | apply Kd.R_alloc | apply Kd.R_drewN | apply Kd.R_drew)); exact HO_7.out⟩, ⟨by repeat (first | (with_reducible first | exact HB.out | apply below_alloc | apply pw_below_drewN | apply below_drew1) | exact HB.out)⟩⟩
                   ·rw [if_neg c93] at H
                    exact absurd H (by simp)
                  ·rw [if_neg c92] at H
                   exact absurd H (by simp)
                 ·rw [if_neg c90] at H
                  have c90b0 : ((bt a0 x6_1) == 92) = false := beq_eq_false_iff_ne.mpr c90
                  have c90b1 : ((bt a0 x6_1) != 92) = true := bne_iff_ne.mpr c90
                  (first | rw [c90b0] | (simp only [i64_w, i32_w]; rw [c90b0]) | skip)
                  have H' := Aside0.mk H
                  clear H
                  go_wp2
                  repeat (go_quiet (fail); try go_wp2)
                  go_meet
                  case rel => exact ⟨_, (x6_1), (bt a0 x6_1), (by first | rfl | (simp; done) | (simp [*]; done)), (by first | rfl | (simp; done) | (simp [*]; done)), H', ⟨by have := HK1.out; have := HJ17.out; first | omega | exact Nat.le_refl _⟩, ⟨by (with_reducible repeat (first | apply Kd.R_alloc | apply Kd.R_drewN | apply Kd.R_drew)); exact HO_5.out⟩, ⟨by (with_reducible repeat (first | apply Kd.R_alloc | apply Kd.R_drewN | apply Kd.R_drew)); exact HO_7.out⟩, ⟨by repeat (first | (with_reducible first | exact HB.out | apply below_alloc | apply pw_below_drewN | apply below_drew1) | exact HB.out)⟩⟩
                case rest =>
                 clear HC89
                 try clear c1
                 try clear c2
                 try clear p2
                 try clear q2
                 try clear hx2
                 try clear c3
                 try clear p3
                 try clear q3
                 try clear hx3
                 try clear hf3
                 try clear c4
                 try clear c4b0
                 try clear c4b1
                 try clear p4
                 try clear q4
                 try clear hx4
                 try clear c5
                 try clear p5
                 try clear q5
                 try clear hx5
                 try clear hf5
                 try clear c6
                 try clear c6b0
                 try clear c6b1
                 try clear p6
                 try clear q6
                 try clear hx6
                 try clear hf6
                 try clear c7
                 try clear c7b0
                 try clear c7b1
                 try clear p7
                 try clear q7
                 try clear hx7
                 try clear hf7
                 try clear c8
                 try clear c8b0
                 try clear c8b1
                 try clear p8
                 try clear q8
                 try clear hx8
                 try clear hf8
                 try clear c9
                 try clear p9
                 try clear q9
                 try clear hx9
                 try clear qi9
                 try clear hf9
                 try clear c14
                 try clear c14b0
                 try clear c16
                 try clear c16b0
                 try clear c16b1
                 try clear c17
                 try clear c17b0
                 try clear c17b1
                 try clear c21
                 try clear c21b0
                 try clear p22
                 try clear q22
                 try clear hx22
                 try clear c23
                 try clear c23b0
                 try clear c23b1
                 try clear c24
                 try clear c24b0
                 try clear p25
                 try clear q25
                 try clear hx25
                 try clear c26
                 try clear c26b0
                 try clear p26
                 try clear q26
                 try clear hx26
                 try clear p27
                 try clear q27
                 try clear hx27
                 try clear c28
                 try clear c29
                 try clear c29b0
                 try clear c30
                 try clear c31
                 try clear c31b0
                 try clear c32
                 try clear c32b0
                 try clear p33
                 try clear q33
                 try clear hx33
                 try clear hf33
                 try clear c36
                 try clear c36b0
                 try clear c37
                 try clear c37b0
                 try clear c38
                 try clear c38b0
                 try clear p39
                 try clear q39
                 try clear hx39
                 try clear hf39
                 try clear c43
                 try clear c43b0
                 try clear c44
                 try clear c44b0
                 try clear p45
                 try clear q45
                 try clear hx45
                 try clear c46
                 try clear c46b0
                 try clear c46b1
                 try clear c47
                 try clear c47b0
                 try clear c48
                 try clear c48b0
                 try clear c50
                 try clear c50b0
                 try clear c51
                 try clear c51b0
                 try clear p52
                 try clear q52
                 try clear hx52
                 try clear c53
                 try clear c53b0
                 try clear c53b1
                 try clear c54
                 try clear c54b0
                 try clear c55
                 try clear c55b0
                 try clear c56
                 try clear c56b0
                 try clear p57
                 try clear q57
                 try clear hx57
                 try clear hf57
                 try clear c61
                 try clear c62
                 try clear c62b0
                 try clear c63
                 try clear c63b0
                 try clear p64
                 try clear q64
                 try clear hx64
                 try clear hf64
                 try clear c67
                 try clear c67b0
                 try clear c68
                 try clear c68b0
                 try clear c69
                 try clear c69b0
                 try clear p70
                 try clear q70
                 try clear hx70
                 try clear hf70
                 try clear c74
                 try clear c75
                 try clear c75b0
                 try clear c76
                 try clear c76b0
                 try clear p77
                 try clear q77
                 try clear hx77
                 try clear hf77
                 try clear c80
                 try clear c80b0
                 try clear c81
                 try clear c81b0
                 try clear c82
                 try clear c82b0
                 try clear p83
                 try clear q83
                 try clear hx83
                 try clear hf83
                 try clear p87
                 try clear q87
                 try clear hx87
                 try clear p88
                 try clear q88
                 try clear hx88
                 try clear c90
                 try clear c90b0
                 try clear c90b1
                 try clear c92
                 try clear c92b0
                 try clear c93
                 try clear c93b0
                 try clear p94
                 try clear q94
                 try clear hx94
                 try clear hx259_0
                 try clear hx261_0
                 try clear hx264_0
                 try clear hx267_0
                 try clear hx33_0
                 try clear hx39_0
                 try clear hx57_0
                 try clear hx64_0
                 try clear hx70_0
                 try clear hx77_0
                 try clear hx83_0
                 try clear hx9_0
                 try clear p2
                 try clear p22
                 try clear p25
                 try clear p259
                 try clear p261
                 try clear p264
                 try clear p267
                 try clear p27
                 try clear p3
                 try clear p33
                 try clear p39
                 try clear p4
                 try clear p45
                 try clear p52
                 try clear p57
                 try clear p6
                 try clear p64
                 try clear p70
                 try clear p77
                 try clear p83
                 try clear p87
                 try clear p88
                 try clear p9
                 try clear p94
                 try clear q2
                 try clear q22
                 try clear q25
                 try clear q259
                 try clear q261
                 try clear q264
                 try clear q267
                 try clear q27
                 try clear q3
                 try clear q33
                 try clear q39
                 try clear q4
                 try clear q45
                 try clear q52
                 try clear q57
                 try clear q64
                 try clear q70
                 try clear q77
                 try clear q83
                 try clear q87
                 try clear q88
                 try clear q9
                 try clear q94
                 obtain ⟨kq, x6_88, x12_88, rfl, rfl, HA, HJ88, HO_5, HO_7, HB⟩ := hcut
                 cases kq with
                 | zero => exact absurd HA.out (by simp [ambryref23_Match.j4])
                 | succ kj88 =>
                  have H := HA.out
                  clear HA
                  simp only [ambryref23_Match.j4] at H
                  have H' := Aside0.mk H
                  clear H
                  go_wp2
                  repeat (go_quiet (fail); try go_wp2)
                  obtain ⟨bq1, hbq1⟩ : ∃ b_ : Bool, ((bt a0 x6_1) == 63) = b_ := ⟨_, rfl⟩
                  replace H' := Aside0.mk (by have h_ := H'.out; rw [hbq1] at h_; exact h_)
                  rw [hbq1]
                  clear hbq1
                  go_loopg [14] kj88 (fun kq v14 w' => ∃ (x7_4 : List Bool) (x14_4 : Int), v14 = .int .i64 x14_4 ∧ Aside0 (ambryref23_Match.l3 kq a0 a1 x5_1 x6_88 x7_4 x12_88 bq1 x14_4 = some r) ∧ Aside0 (kq ≤ kj88) ∧ Aside0 (Kd.R Kd.bool 4 w' w.heap.size (fun k_ => some k_ ≠ (v256 : Value).ownBlock) u5 x5_1) ∧ Aside0 (Kd.R Kd.bool 4 w' w.heap.size (fun k_ => some k_ ≠ (u5 : Value).ownBlock) v256 x7_4) ∧ Aside0 (Below w.heap.size w w'))
                  case atStart => exact ⟨(y255), (0), (by first | rfl | (simp; done) | (simp [*]; done)), H', ⟨Nat.le_refl _⟩, ⟨by (with_reducible repeat (first | apply Kd.R_alloc | apply Kd.R_drewN | apply Kd.R_drew)); exact HO_5.out⟩, ⟨by (with_reducible repeat (first | apply Kd.R_alloc | apply Kd.R_drewN | apply Kd.R_drew)); exact HO_7.out⟩, ⟨by repeat (first | (with_reducible first | exact HB.out | apply below_alloc | apply pw_below_drewN | apply below_drew1) | exact HB.out)⟩⟩
                  case round =>
                   clear H'
                   try clear hji5
                   try clear hji5w
                   try clear hji15
                   try clear hji15w
                   try clear hji25
                   try clear hji25w
                   try clear hji49
                   try clear hji49w
                   try clear hji91
                   try clear hji91w
                   try clear c1
                   try clear c2
                   try clear p2
                   try clear q2
                   try clear hx2
                   try clear c3
                   try clear p3
                   try clear q3
                   try clear hx3
                   try clear hf3
                   try clear c4
                   try clear c4b0
                   try clear c4b1
                   try clear p4
                   try clear q4
                   try clear hx4
                   try clear c5
                   try clear p5
                   try clear q5
                   try clear hx5
                   try clear hf5
                   try clear c6
                   try clear c6b0
                   try clear c6b1
                   try clear p6
                   try clear q6
                   try clear hx6
                   try clear hf6
                   try clear c7
                   try clear c7b0
                   try clear c7b1
                   try clear p7
                   try clear q7
                   try clear hx7
                   try clear hf7
                   try clear c8
                   try clear c8b0
                   try clear c8b1
                   try clear p8
                   try clear q8
                   try clear hx8
                   try clear hf8
                   try clear c9
                   try clear p9
                   try clear q9
                   try clear hx9
                   try clear qi9
                   try clear hf9
                   try clear c14
                   try clear c14b0
                   try clear c16
                   try clear c16b0
                   try clear c16b1
                   try clear c17
                   try clear c17b0
                   try clear c17b1
                   try clear c21
                   try clear c21b0
                   try clear p22
                   try clear q22
                   try clear hx22
                   try clear c23
                   try clear c23b0
                   try clear c23b1
                   try clear c24
                   try clear c24b0
                   try clear p25
                   try clear q25
                   try clear hx25
                   try clear c26
                   try clear c26b0
                   try clear p26
                   try clear q26
                   try clear hx26
                   try clear p27
                   try clear q27
                   try clear hx27
                   try clear c28
                   try clear c29
                   try clear c29b0
                   try clear c30
                   try clear c31
                   try clear c31b0
                   try clear c32
                   try clear c32b0
                   try clear p33
                   try clear q33
                   try clear hx33
                   try clear hf33
                   try clear c36
                   try clear c36b0
                   try clear c37
                   try clear c37b0
                   try clear c38
                   try clear c38b0
                   try clear p39
                   try clear q39
                   try clear hx39
                   try clear hf39
                   try clear c43
                   try clear c43b0
                   try clear c44
                   try clear c44b0
                   try clear p45
                   try clear q45
                   try clear hx45
                   try clear c46
                   try clear c46b0
                   try clear c46b1
                   try clear c47
                   try clear c47b0
                   try clear c48
                   try clear c48b0
                   try clear c50
                   try clear c50b0
                   try clear c51
                   try clear c51b0
                   try clear p52
                   try clear q52
                   try clear hx52
                   try clear c53
                   try clear c53b0
                   try clear c53b1
                   try clear c54
                   try clear c54b0
                   try clear c55
                   try clear c55b0
                   try clear c56
                   try clear c56b0
                   try clear p57
                   try clear q57
                   try clear hx57
                   try clear hf57
                   try clear c61
                   try clear c62
                   try clear c62b0
                   try clear c63
                   try clear c63b0
                   try clear p64
                   try clear q64
                   try clear hx64
                   try clear hf64
                   try clear c67
                   try clear c67b0
                   try clear c68
                   try clear c68b0
                   try clear c69
                   try clear c69b0
                   try clear p70
                   try clear q70
                   try clear hx70
                   try clear hf70
                   try clear c74
                   try clear c75
                   try clear c75b0
                   try clear c76
                   try clear c76b0
                   try clear p77
                   try clear q77
                   try clear hx77
                   try clear hf77
                   try clear c80
                   try clear c80b0
                   try clear c81
                   try clear c81b0
                   try clear c82
                   try clear c82b0
                   try clear p83
                   try clear q83
                   try clear hx83
                   try clear hf83
                   try clear p87
                   try clear q87
                   try clear hx87
                   try clear p88
                   try clear q88
                   try clear hx88
                   try clear c90
                   try clear c90b0
                   try clear c90b1
                   try clear c92
                   try clear c92b0
                   try clear c93
                   try clear c93b0
                   try clear p94
                   try clear q94
                   try clear hx94
                   try clear hx259_0
                   try clear hx261_0
                   try clear hx264_0
                   try clear hx267_0
                   try clear hx33_0
                   try clear hx39_0
                   try clear hx57_0
                   try clear hx64_0
                   try clear hx70_0
                   try clear hx77_0
                   try clear hx83_0
                   try clear hx9_0
                   try clear p2
                   try clear p22
                   try clear p25
                   try clear p259
                   try clear p26
                   try clear p261
                   try clear p264
                   try clear p267
                   try clear p27
                   try clear p3
                   try clear p33
                   try clear p39
                   try clear p4
                   try clear p45
                   try clear p5
                   try clear p52
                   try clear p57
                   try clear p6
                   try clear p64
                   try clear p7
                   try clear p70
                   try clear p77
                   try clear p8
                   try clear p83
                   try clear p87
                   try clear p88
                   try clear p9
                   try clear p94
                   try clear q2
                   try clear q22
                   try clear q25
                   try clear q259
                   try clear q26
                   try clear q261
                   try clear q264
                   try clear q267
                   try clear q27
                   try clear q3
                   try clear q33
                   try clear q39
                   try clear q4
                   try clear q45
                   try clear q5
                   try clear q52
                   try clear q57
                   try clear q6
                   try clear q64
                   try clear q7
                   try clear q70
                   try clear q77
                   try clear q8
                   try clear q83
                   try clear q87
                   try clear q88
                   try clear q9
                   try clear q94
                   obtain ⟨x7_4, x14_4, rfl, HA, HK4, HO_5, HO_7, HB⟩ := hrel
                   cases gk with
                   | zero => exact absurd HA.out (by simp [ambryref23_Match.l3])
                   | succ k4 =>
                    have H := HA.out
                    clear HA
                    simp only [ambryref23_Match.l3] at H
                    by_cases c95 : x14_4 < (a1.size : Int)
                    ·rw [if_pos c95] at H
                     have c95b0 : decide (x14_4 < (a1.size : Int)) = true := decide_eq_true c95
                     clear c95
                     by_cases c96 : 0 ≤ x14_4
                     ·rw [if_pos c96] at H
                      have c96b0 : decide (0 ≤ x14_4) = true := decide_eq_true c96
                      clear c96
                      by_cases c97 : x14_4 < (x5_1.length : Int)
                      ·rw [if_pos c97] at H
                       have c97b0 : decide (x14_4 < (x5_1.length : Int)) = true := decide_eq_true c97
                       clear c97
                       obtain ⟨bq98, hbq98⟩ : ∃ b_ : Bool, b_ = (rdOf false x5_1 x14_4) := ⟨_, rfl⟩
                       replace H : (if bq98 = true then (if bq1 = true then (if (bt a1 x14_4) = 47 then (if 0 ≤ (wrap64 (x14_4 + 1)) then (if (wrap64 (x14_4 + 1)) < (x7_4.length : Int) then (ambryref23_Match.l3 k4 a0 a1 x5_1 x6_88 (x7_4.set ((wrap64 (x14_4 + 1)) : Int).toNat false) x12_88 bq1 (wrap64 (x14_4 + 1))) else (none)) else (none)) else (if 0 ≤ (wrap64 (x14_4 + 1)) then (if (wrap64 (x14_4 + 1)) < (x7_4.length : Int) then (ambryref23_Match.l3 k4 a0 a1 x5_1 x6_88 (x7_4.set ((wrap64 (x14_4 + 1)) : Int).toNat true) x12_88 bq1 (wrap64 (x14_4 + 1))) else (none)) else (none))) else (if 0 ≤ (wrap64 (x14_4 + 1)) then (if (wrap64 (x14_4 + 1)) < (x7_4.length : Int) then (ambryref23_Match.l3 k4 a0 a1 x5_1 x6_88 (x7_4.set ((wrap64 (x14_4 + 1)) : Int).toNat ((bt a1 x14_4) == x12_88)) x12_88 bq1 (wrap64 (x14_4 + 1))) else (none)) else (none))) else (if 0 ≤ (wrap64 (x14_4 + 1)) then (if (wrap64 (x14_4 + 1)) < (x7_4.length : Int) then (ambryref23_Match.l3 k4 a0 a1 x5_1 x6_88 (x7_4.set ((wrap64 (x14_4 + 1)) : Int).toNat false) x12_88 bq1 (wrap64 (x14_4 + 1))) else (none)) else (none))) = some r := by rw [← hbq98] at H; exact H
                       have Nbq98 := Aside0.mk hbq98
                       clear hbq98
                       by_cases c99 : bq98 = true
                       ·subst c99
                        have H1 : (if bq1 = true then (if (bt a1 x14_4) = 47 then (if 0 ≤ (wrap64 (x14_4 + 1)) then (if (wrap64 (x14_4 + 1)) < (x7_4.length : Int) then (ambryref23_Match.l3 k4 a0 a1 x5_1 x6_88 (x7_4.set ((wrap64 (x14_4 + 1)) : Int).toNat false) x12_88 bq1 (wrap64 (x14_4 + 1))) else (none)) else (none)) else (if 0 ≤ (wrap64 (x14_4 + 1)) then (if (wrap64 (x14_4 + 1)) < (x7_4.length : Int) then (ambryref23_Match.l3 k4 a0 a1 x5_1 x6_88 (x7_4.set ((wrap64 (x14_4 + 1)) : Int).toNat true) x12_88 bq1 (wrap64 (x14_4 + 1))) else (none)) else (none))) else (if 0 ≤ (wrap64 (x14_4 + 1)) then (if (wrap64 (x14_4 + 1)) < (x7_4.length : Int) then (ambryref23_Match.l3 k4 a0 a1 x5_1 x6_88 (x7_4.set ((wrap64 (x14_4 + 1)) : Int).toNat ((bt a1 x14_4) == x12_88)) x12_88 bq1 (wrap64 (x14_4 + 1))) else (none)) else (none))) = some r := by rw [if_pos rfl] at H; exact H
                        clear H
                        have H := H1
                        clear H1
                        by_cases c100 : bq1 = true
                        ·rw [if_pos c100] at H
                         subst c100



                         try clear c100
                         by_cases c102 : (bt a1 x14_4) = 47
                         ·rw [if_pos c102] at H
                          have c102b0 : ((bt a1 x14_4) == 47) = true := beq_iff_eq.mpr c102
                          have c102b1 : ((bt a1 x14_4) != 47) = false := bne_eq_false_iff_eq.mpr c102
                          clear c102
                          obtain ⟨ji103, hji103⟩ : ∃ j_ : Int, (wrap64 (x14_4 + 1)) = j_ := ⟨_, rfl⟩
                          replace H : (if 0 ≤ (ji103) then (if (ji103) < (x7_4.length : Int) then (ambryref23_Match.l3 k4 a0 a1 x5_1 x6_88 (x7_4.set ((ji103) : Int).toNat false) x12_88 true ji103) else (none)) else (none)) = some r := by first | (rw [hji103] at H; exact H) | (simp only [hji103] at H ⊢; exact H)
                          have hji103w : (IntKind.i64.wrap (x14_4 + 1)) = ji103 := (i64_w _).trans hji103
                          by_cases c104 : 0 ≤ (ji103)
                          ·rw [if_pos c104] at H
                           have c104b0 : decide (0 ≤ (ji103)) = true := decide_eq_true c104
                           clear c104
                           by_cases c105 : (ji103) < (x7_4.length : Int)
                           ·rw [if_pos c105] at H
                            have c105b0 : decide ((ji103) < (x7_4.length : Int)) = true := decide_eq_true c105
                            clear c105
                            obtain ⟨y270, hy270⟩ : ∃ y_ : List Bool, y_ = (x7_4.set ((ji103) : Int).toNat false) := ⟨_, rfl⟩
                            replace H : (ambryref23_Match.l3 k4 a0 a1 x5_1 x6_88 y270 x12_88 true ji103) = some r := by first | (rw [hy270]; with_reducible exact H) | (have H2_ := (Option.bind_some _ _).symm.trans H; rw [hy270]; with_reducible exact H2_) | (have H2_ := (Option.bind_some _ _).symm.trans H; with_reducible exact H2_) | with_reducible exact H | (rw [hy270]; exact H) | exact H
                            have Ny270 := Aside0.mk hy270
                            clear hy270
                            have H' := Aside0.mk H
                            clear H
                            obtain ⟨Ao107, co107, eo107⟩ := Kd.R_slice HO_5.out
                            subst eo107
                            have p269 : 0 ≤ (x14_4 : Int) := of_decide_eq_true (by first | (with_reducible assumption) | assumption)
                            have q269 : x14_4 < (x5_1.length : Int) := of_decide_eq_true (by first | (with_reducible assumption) | assumption)
                            obtain ⟨ad269, e269, hx269_0⟩ := Kd.at_bool (Kd.R_reads' HO_5.out).2.2 x14_4 p269 q269
                            (try rw [← Nbq98.out] at hx269_0)
                            cases e269
                            replace p269 := eq_true p269
                            replace q269 := eq_true q269
                            have p101 : 0 ≤ (x14_4 : Int) := of_decide_eq_true (by first | (with_reducible assumption) | assumption)
                            have q101 : x14_4 < (a1.size : Int) := of_decide_eq_true (by first | (with_reducible assumption) | assumption)
                            have hx101 := bt_at a1 x14_4
                            replace p101 := eq_true p101
                            replace q101 := eq_true q101
                            have p106 : 0 ≤ ((ji103) : Int) := of_decide_eq_true (by first | (with_reducible assumption) | assumption)
                            have q106 : ((ji103) : Int) < ((x7_4.length : Int) : Int) := of_decide_eq_true (by first | (with_reducible assumption) | assumption)
                            obtain ⟨go106, co106, eo106, gb106, gl106, cl106, HG106⟩ := Kd.R_form HO_7.out (by omega)
                            (first | cases eo106 | (injection eo106 with ea_ en_ ec_; (first | subst ea_ | (injection ea_ with ea_; subst ea_)); subst ec_; clear en_))
                            have GB106 := Aside0.mk gb106
                            have GG106 := Aside0.mk HG106
                            clear gb106 gl106 HG106
                            obtain ⟨hx106_0, hf106_0⟩ := Kd.R_celln false HO_7.out ((ji103) : Int) p106 q106
                            replace p106 := eq_true p106
                            replace q106 := eq_true q106
                            have HP108 := Kd.R_putg HO_7.out ((ji103) : Int) false
                            go_wp2_with (first | ((with_reducible refine gate_store (t := 4) (p := 81) rfl ?_); (try (rw [drewN_self wr]; generalize hq_ : World.drewN wr _ = wr; have n0_ := Aside0.mk (Kd.R_at hq_ HO_5.out); have n1_ := Aside0.mk (Kd.R_at hq_ HO_7.out); have n2_ := Aside0.mk (below_at hq_ HB.out); clear hq_ HO_5 HO_7 HB; have HO_5 := n0_; have HO_7 := n1_; have HB := n2_; clear n0_ n1_ n2_; (try (have HP108 := Kd.R_putg HO_7.out ((ji103) : Int) false)))); refine store_event (t := 4) (p := 81) (v := ?vo_w109) (w1 := (wr.setCell ⟨go106, ((ji103) : Int).toNat, none⟩ (.bool false))) ?hg ?ho ?hn ?hr ?_; (case ho => rfl); (case hg => rfl); (case hn => rfl); (case hr => first | (go_simp; done) | (go_simp; rfl)); intro w109 hw; have hg : wr.grownBy w109 (some go106) := (by rw [hw]; exact HP108.2); have hp_ : Kd.R Kd.bool 4 w109 w.heap.size (fun k_ => some k_ ≠ (.slice (some ad269) x5_1.length co107 : Value).ownBlock) (.slice (some ⟨go106, 0, none⟩) x7_4.length co106) y270 := (by rw [hw, Ny270.out]; exact HP108.1); clear HP108; have n0_ := Aside0.mk (Kd.R_after (v := (.slice (some ⟨go106, 0, none⟩) x7_4.length co106)) (v1 := (.slice (some ⟨go106, 0, none⟩) x7_4.length co106)) (ok := (fun _ => True)) (by (with_reducible repeat (first | apply Kd.R_alloc | apply Kd.R_drewN | apply Kd.R_drew)); exact Kd.R_mono HO_5.out (fun _ hk => ⟨trivial, hk⟩)) hg (.inl rfl)); have n1_ := Aside0.mk (hp_); have n2_ := Aside0.mk ((by rw [hw]; exact below_set (HB.out) GB106.out : Below w.heap.size w w109)); clear HO_5; clear HO_7; clear HB; have HO_5 := n0_; have HO_7 := n1_; have HB := n2_; clear n0_ n1_ n2_; clear hg hw hp_))
                            repeat (go_quiet (first | ((with_reducible refine gate_store (t := 4) (p := 81) rfl ?_); (try (rw [drewN_self wr]; generalize hq_ : World.drewN wr _ = wr; have n0_ := Aside0.mk (Kd.R_at hq_ HO_5.out); have n1_ := Aside0.mk (Kd.R_at hq_ HO_7.out); have n2_ := Aside0.mk (below_at hq_ HB.out); clear hq_ HO_5 HO_7 HB; have HO_5 := n0_; have HO_7 := n1_; have HB := n2_; clear n0_ n1_ n2_; (try (have HP108 := Kd.R_putg HO_7.out ((ji103) : Int) false)))); refine store_event (t := 4) (p := 81) (v := ?vo_w109) (w1 := (wr.setCell ⟨go106, ((ji103) : Int).toNat, none⟩ (.bool false))) ?hg ?ho ?hn ?hr ?_; (case ho => rfl); (case hg => rfl); (case hn => rfl); (case hr => first | (go_simp; done) | (go_simp; rfl)); intro w109 hw; have hg : wr.grownBy w109 (some go106) := (by rw [hw]; exact HP108.2); have hp_ : Kd.R Kd.bool 4 w109 w.heap.size (fun k_ => some k_ ≠ (.slice (some ad269) x5_1.length co107 : Value).ownBlock) (.slice (some ⟨go106, 0, none⟩) x7_4.length co106) y270 := (by rw [hw, Ny270.out]; exact HP108.1); clear HP108; have n0_ := Aside0.mk (Kd.R_after (v := (.slice (some ⟨go106, 0, none⟩) x7_4.length co106)) (v1 := (.slice (some ⟨go106, 0, none⟩) x7_4.length co106)) (ok := (fun _ => True)) (by (with_reducible repeat (first | apply Kd.R_alloc | apply Kd.R_drewN | apply Kd.R_drew)); exact Kd.R_mono HO_5.out (fun _ hk => ⟨trivial, hk⟩)) hg (.inl rfl)); have n1_ := Aside0.mk (hp_); have n2_ := Aside0.mk ((by rw [hw]; exact below_set (HB.out) GB106.out : Below w.heap.size w w109)); clear HO_5; clear HO_7; clear HB; have HO_5 := n0_; have HO_7 := n1_; have HB := n2_; clear n0_ n1_ n2_; clear hg hw hp_)); try go_wp2_with (first | ((with_reducible refine gate_store (t := 4) (p := 81) rfl ?_); (try (rw [drewN_self wr]; generalize hq_ : World.drewN wr _ = wr; have n0_ := Aside0.mk (Kd.R_at hq_ HO_5.out); have n1_ := Aside0.mk (Kd.R_at hq_ HO_7.out); have n2_ := Aside0.mk (below_at hq_ HB.out); clear hq_ HO_5 HO_7 HB; have HO_5 := n0_; have HO_7 := n1_; have HB := n2_; clear n0_ n1_ n2_; (try (have HP108 := Kd.R_putg HO_7.out ((ji103) : Int) false)))); refine store_event (t := 4) (p := 81) (v := ?vo_w109) (w1 := (wr.setCell ⟨go106, ((ji103) : Int).toNat, none⟩ (.bool false))) ?hg ?ho ?hn ?hr ?_; (case ho => rfl); (case hg => rfl); (case hn => rfl); (case hr => first | (go_simp; done) | (go_simp; rfl)); intro w109 hw; have hg : wr.grownBy w109 (some go106) := (by rw [hw]; exact HP108.2); have hp_ : Kd.R Kd.bool 4 w109 w.heap.size (fun k_ => some k_ ≠ (.slice (some ad269) x5_1.length co107 : Value).ownBlock) (.slice (some ⟨go106, 0, none⟩) x7_4.length co106) y270 := (by rw [hw, Ny270.out]; exact HP108.1); clear HP108; have n0_ := Aside0.mk (Kd.R_after (v := (.slice (some ⟨go106, 0, none⟩) x7_4.length co106)) (v1 := (.slice (some ⟨go106, 0, none⟩) x7_4.length co106)) (ok := (fun _ => True)) (by (with_reducible repeat (first | apply Kd.R_alloc | apply Kd.R_drewN | apply Kd.R_drew)); exact Kd.R_mono HO_5.out (fun _ hk => ⟨trivial, hk⟩)) hg (.inl rfl)); have n1_ := Aside0.mk (hp_); have n2_ := Aside0.mk ((by rw [hw]; exact below_set (HB.out) GB106.out : Below w.heap.size w w109)); clear HO_5; clear HO_7; clear HB; have HO_5 := n0_; have HO_7 := n1_; have HB := n2_; clear n0_ n1_ n2_; clear hg hw hp_)))
                            go_roundg k4
                            case measure => have := HK1.out; have := HJ17.out; have := HJ88.out; have := HK4.out; omega
                            case rel => exact ⟨(y270), (ji103), (by first | rfl | (simp; done) | (simp only [← hji103] <;> (first | rfl | simp)) | (simp [*]; done)), H', ⟨by have := HK1.out; have := HJ17.out; have := HJ88.out; have := HK4.out; omega⟩, ⟨by (with_reducible repeat (first | apply Kd.R_alloc | apply Kd.R_drewN | apply Kd.R_drew)); exact Kd.R_mono HO_5.out (fun _ hk => hk.2)⟩, ⟨by (with_reducible repeat (first | apply Kd.R_alloc | apply Kd.R_drewN | apply Kd.R_drew)); exact HO_7.out⟩, ⟨by repeat (first | (with_reducible first | exact HB.out | apply below_alloc | apply pw_below_drewN | apply below_drew1) | exact HB.out)⟩⟩
                           ·rw [if_neg c105] at H
                            exact absurd H (by simp)
                          ·rw [if_neg c104] at H
                           exact absurd H (by simp)
                         ·rw [if_neg c102] at H
                          have c102b0 : ((bt a1 x14_4) == 47) = false := beq_eq_false_iff_ne.mpr c102
                          have c102b1 : ((bt a1 x14_4) != 47) = true := bne_iff_ne.mpr c102
                          obtain ⟨ji110, hji110⟩ : ∃ j_ : Int, (wrap64 (x14_4 + 1)) = j_ := ⟨_, rfl⟩
                          replace H : (if 0 ≤ (ji110) then (if (ji110) < (x7_4.length : Int) then (ambryref23_Match.l3 k4 a0 a1 x5_1 x6_88 (x7_4.set ((ji110) : Int).toNat true) x12_88 true ji110) else (none)) else (none)) = some r := by first | (rw [hji110] at H; exact H) | (simp only [hji110] at H ⊢; exact H)
                          have hji110w : (IntKind.i64.wrap (x14_4 + 1)) = ji110 := (i64_w _).trans hji110
                          by_cases c111 : 0 ≤ (ji110)
                          ·rw [if_pos c111] at H
                           have c111b0 : decide (0 ≤ (ji110)) = true := decide_eq_true c111
                           clear c111
                           by_cases c112 : (ji110) < (x7_4.length : Int)
                           ·rw [if_pos c112] at H
                            have c112b0 : decide ((ji110) < (x7_4.length : Int)) = true := decide_eq_true c112
                            clear c112
                            obtain ⟨y271, hy271⟩ : ∃ y_ : List Bool, y_ = (x7_4.set ((ji110) : Int).toNat true) := ⟨_, rfl⟩
                            replace H : (ambryref23_Match.l3 k4 a0 a1 x5_1 x6_88 y271 x12_88 true ji110) = some r := by first | (rw [hy271]; with_reducible exact H) | (have H2_ := (Option.bind_some _ _).symm.trans H; rw [hy271]; with_reducible exact H2_) | (have H2_ := (Option.bind_some _ _).symm.trans H; with_reducible exact H2_) | with_reducible exact H | (rw [hy271]; exact H) | exact H
                            have Ny271 := Aside0.mk hy271
                            clear hy271
                            have H' := Aside0.mk H
                            clear H
                            obtain ⟨Ao114, co114, eo114⟩ := Kd.R_slice HO_5.out
                            subst eo114
                            have p269 : 0 ≤ (x14_4 : Int) := of_decide_eq_true (by first | (with_reducible assumption) | assumption)
                            have q269 : x14_4 < (x5_1.length : Int) := of_decide_eq_true (by first | (with_reducible assumption) | assumption)
                            obtain ⟨ad269, e269, hx269_0⟩ := Kd.at_bool (Kd.R_reads' HO_5.out).2.2 x14_4 p269 q269
                            (try rw [← Nbq98.out] at hx269_0)
                            cases e269
                            replace p269 := eq_true p269
                            replace q269 := eq_true q269
                            have p101 : 0 ≤ (x14_4 : Int) := of_decide_eq_true (by first | (with_reducible assumption) | assumption)
                            have q101 : x14_4 < (a1.size : Int) := of_decide_eq_true (by first | (with_reducible assumption) | assumption)
                            have hx101 := bt_at a1 x14_4
                            replace p101 := eq_true p101
                            replace q101 := eq_true q101
                            have p113 : 0 ≤ ((ji110) : Int) := of_decide_eq_true (by first | (with_reducible assumption) | assumption)
                            have q113 : ((ji110) : Int) < ((x7_4.length : Int) : Int) := of_decide_eq_true (by first | (with_reducible assumption) | assumption)
                            obtain ⟨go113, co113, eo113, gb113, gl113, cl113, HG113⟩ := Kd.R_form HO_7.out (by omega)
                            (first | cases eo113 | (injection eo113 with ea_ en_ ec_; (first | subst ea_ | (injection ea_ with ea_; subst ea_)); subst ec_; clear en_))
                            have GB113 := Aside0.mk gb113
                            have GG113 := Aside0.mk HG113
                            clear gb113 gl113 HG113
                            obtain ⟨hx113_0, hf113_0⟩ := Kd.R_celln false HO_7.out ((ji110) : Int) p113 q113
                            replace p113 := eq_true p113
                            replace q113 := eq_true q113
                            have HP115 := Kd.R_putg HO_7.out ((ji110) : Int) true
                            go_wp2_with (first | ((with_reducible refine gate_store (t := 4) (p := 81) rfl ?_); (try (rw [drewN_self wr]; generalize hq_ : World.drewN wr _ = wr; have n0_ := Aside0.mk (Kd.R_at hq_ HO_5.out); have n1_ := Aside0.mk (Kd.R_at hq_ HO_7.out); have n2_ := Aside0.mk (below_at hq_ HB.out); clear hq_ HO_5 HO_7 HB; have HO_5 := n0_; have HO_7 := n1_; have HB := n2_; clear n0_ n1_ n2_; (try (have HP115 := Kd.R_putg HO_7.out ((ji110) : Int) true)))); refine store_event (t := 4) (p := 81) (v := ?vo_w116) (w1 := (wr.setCell ⟨go113, ((ji110) : Int).toNat, none⟩ (.bool true))) ?hg ?ho ?hn ?hr ?_; (case ho => rfl); (case hg => rfl); (case hn => rfl); (case hr => first | (go_simp; done) | (go_simp; rfl)); intro w116 hw; have hg : wr.grownBy w116 (some go113) := (by rw [hw]; exact HP115.2); have hp_ : Kd.R Kd.bool 4 w116 w.heap.size (fun k_ => some k_ ≠ (.slice (some ad269) x5_1.length co114 : Value).ownBlock) (.slice (some ⟨go113, 0, none⟩) x7_4.length co113) y271 := (by rw [hw, Ny271.out]; exact HP115.1); clear HP115; have n0_ := Aside0.mk (Kd.R_after (v := (.slice (some ⟨go113, 0, none⟩) x7_4.length co113)) (v1 := (.slice (some ⟨go113, 0, none⟩) x7_4.length co113)) (ok := (fun _ => True)) (by (with_reducible repeat (first | apply Kd.R_alloc | apply Kd.R_drewN | apply Kd.R_drew)); exact Kd.R_mono HO_5.out (fun _ hk => ⟨trivial, hk⟩)) hg (.inl rfl)); have n1_ := Aside0.mk (hp_); have n2_ := Aside0.mk ((by rw [hw]; exact below_set (HB.out) GB113.out : Below w.heap.size w w116)); clear HO_5; clear HO_7; clear HB; have HO_5 := n0_; have HO_7 := n1_; have HB := n2_; clear n0_ n1_ n2_; clear hg hw hp_))
                            repeat (go_quiet (first | ((with_reducible refine gate_store (t := 4) (p := 81) rfl ?_); (try (rw [drewN_self wr]; generalize hq_ : World.drewN wr _ = wr; have n0_ := Aside0.mk (Kd.R_at hq_ HO_5.out); have n1_ := Aside0.mk (Kd.R_at hq_ HO_7.out); have n2_ := Aside0.mk (below_at hq_ HB.out); clear hq_ HO_5 HO_7 HB; have HO_5 := n0_; have HO_7 := n1_; have HB := n2_; clear n0_ n1_ n2_; (try (have HP115 := Kd.R_putg HO_7.out ((ji110) : Int) true)))); refine store_event (t := 4) (p := 81) (v := ?vo_w116) (w1 := (wr.setCell ⟨go113, ((ji110) : Int).toNat, none⟩ (.bool true))) ?hg ?ho ?hn ?hr ?_; (case ho => rfl); (case hg => rfl); (case hn => rfl); (case hr => first | (go_simp; done) | (go_simp; rfl)); intro w116 hw; have hg : wr.grownBy w116 (some go113) := (by rw [hw]; exact HP115.2); have hp_ : Kd.R Kd.bool 4 w116 w.heap.size (fun k_ => some k_ ≠ (.slice (some ad269) x5_1.length co114 : Value).ownBlock) (.slice (some ⟨go113, 0, none⟩) x7_4.length co113) y271 := (by rw [hw, Ny271.out]; exact HP115.1); clear HP115; have n0_ := Aside0.mk (Kd.R_after (v := (.slice (some ⟨go113, 0, none⟩) x7_4.length co113)) (v1 := (.slice (some ⟨go113, 0, none⟩) x7_4.length co113)) (ok := (fun _ => True)) (by (with_reducible repeat (first | apply Kd.R_alloc | apply Kd.R_drewN | apply Kd.R_drew)); exact Kd.R_mono HO_5.out (fun _ hk => ⟨trivial, hk⟩)) hg (.inl rfl)); have n1_ := Aside0.mk (hp_); have n2_ := Aside0.mk ((by rw [hw]; exact below_set (HB.out) GB113.out : Below w.heap.size w w116)); clear HO_5; clear HO_7; clear HB; have HO_5 := n0_; have HO_7 := n1_; have HB := n2_; clear n0_ n1_ n2_; clear hg hw hp_)); try go_wp2_with (first | ((with_reducible refine gate_store (t := 4) (p := 81) rfl ?_); (try (rw [drewN_self wr]; generalize hq_ : World.drewN wr _ = wr; have n0_ := Aside0.mk (Kd.R_at hq_ HO_5.out); have n1_ := Aside0.mk (Kd.R_at hq_ HO_7.out); have n2_ := Aside0.mk (below_at hq_ HB.out); clear hq_ HO_5 HO_7 HB; have HO_5 := n0_; have HO_7 := n1_; have HB := n2_; clear n0_ n1_ n2_; (try (have HP115 := Kd.R_putg HO_7.out ((ji110) : Int) true)))); refine store_event (t := 4) (p := 81) (v := ?vo_w116) (w1 := (wr.setCell ⟨go113, ((ji110) : Int).toNat, none⟩ (.bool true))) ?hg ?ho ?hn ?hr ?_; (case ho => rfl); (case hg => rfl); (case hn => rfl); (case hr => first | (go_simp; done) | (go_simp; rfl)); intro w116 hw; have hg : wr.grownBy w116 (some go113) := (by rw [hw]; exact HP115.2); have hp_ : Kd.R Kd.bool 4 w116 w.heap.size (fun k_ => some k_ ≠ (.slice (some ad269) x5_1.length co114 : Value).ownBlock) (.slice (some ⟨go113, 0, none⟩) x7_4.length co113) y271 := (by rw [hw, Ny271.out]; exact HP115.1); clear HP115; have n0_ := Aside0.mk (Kd.R_after (v := (.slice (some ⟨go113, 0, none⟩) x7_4.length co113)) (v1 := (.slice (some ⟨go113, 0, none⟩) x7_4.length co113)) (ok := (fun _ => True)) (by (with_reducible repeat (first | apply Kd.R_alloc | apply Kd.R_drewN | apply Kd.R_drew)); exact Kd.R_mono HO_5.out (fun _ hk => ⟨trivial, hk⟩)) hg (.inl rfl)); have n1_ := Aside0.mk (hp_); have n2_ := Aside0.mk ((by rw [hw]; exact below_set (HB.out) GB113.out : Below w.heap.size w w116)); clear HO_5; clear HO_7; clear HB; have HO_5 := n0_; have HO_7 := n1_; have HB := n2_; clear n0_ n1_ n2_; clear hg hw hp_)))
                            go_roundg k4
                            case measure => have := HK1.out; have := HJ17.out; have := HJ88.out; have := HK4.out; omega
                            case rel => exact ⟨(y271), (ji110), (by first | rfl | (simp; done) | (simp only [← hji110] <;> (first | rfl | simp)) | (simp [*]; done)), H', ⟨by have := HK1.out; have := HJ17.out; have := HJ88.out; have := HK4.out; omega⟩, ⟨by (with_reducible repeat (first | apply Kd.R_alloc | apply Kd.R_drewN | apply Kd.R_drew)); exact Kd.R_mono HO_5.out (fun _ hk => hk.2)⟩, ⟨by (with_reducible repeat (first | apply Kd.R_alloc | apply Kd.R_drewN | apply Kd.R_drew)); exact HO_7.out⟩, ⟨by repeat (first | (with_reducible first | exact HB.out | apply below_alloc | apply pw_below_drewN | apply below_drew1) | exact HB.out)⟩⟩
                           ·rw [if_neg c112] at H
                            exact absurd H (by simp)
                          ·rw [if_neg c111] at H
                           exact absurd H (by simp)
                        ·rw [if_neg c100] at H
                         obtain rfl : bq1 = false := by simpa using c100




                         try clear c100
                         obtain ⟨ji118, hji118⟩ : ∃ j_ : Int, (wrap64 (x14_4 + 1)) = j_ := ⟨_, rfl⟩
                         replace H : (if 0 ≤ (ji118) then (if (ji118) < (x7_4.length : Int) then (ambryref23_Match.l3 k4 a0 a1 x5_1 x6_88 (x7_4.set ((ji118) : Int).toNat ((bt a1 x14_4) == x12_88)) x12_88 false ji118) else (none)) else (none)) = some r := by first | (rw [hji118] at H; exact H) | (simp only [hji118] at H ⊢; exact H)
                         have hji118w : (IntKind.i64.wrap (x14_4 + 1)) = ji118 := (i64_w _).trans hji118
                         by_cases c119 : 0 ≤ (ji118)
                         ·rw [if_pos c119] at H
                          have c119b0 : decide (0 ≤ (ji118)) = true := decide_eq_true c119
                          clear c119
                          by_cases c120 : (ji118) < (x7_4.length : Int)
                          ·rw [if_pos c120] at H
                           have c120b0 : decide ((ji118) < (x7_4.length : Int)) = true := decide_eq_true c120
                           clear c120
                           obtain ⟨y272, hy272⟩ : ∃ y_ : List Bool, y_ = (x7_4.set ((ji118) : Int).toNat ((bt a1 x14_4) == x12_88)) := ⟨_, rfl⟩
                           replace H : (ambryref23_Match.l3 k4 a0 a1 x5_1 x6_88 y272 x12_88 false ji118) = some r := by first | (rw [hy272]; with_reducible exact H) | (have H2_ := (Option.bind_some _ _).symm.trans H; rw [hy272]; with_reducible exact H2_) | (have H2_ := (Option.bind_some _ _).symm.trans H; with_reducible exact H2_) | with_reducible exact H | (rw [hy272]; exact H) | exact H
                           have Ny272 := Aside0.mk hy272
                           clear hy272
                           have H' := Aside0.mk H
                           clear H
                           obtain ⟨Ao122, co122, eo122⟩ := Kd.R_slice HO_5.out
                           subst eo122
                           have p269 : 0 ≤ (x14_4 : Int) := of_decide_eq_true (by first | (with_reducible assumption) | assumption)
                           have q269 : x14_4 < (x5_1.length : Int) := of_decide_eq_true (by first | (with_reducible assumption) | assumption)
                           obtain ⟨ad269, e269, hx269_0⟩ := Kd.at_bool (Kd.R_reads' HO_5.out).2.2 x14_4 p269 q269
                           (try rw [← Nbq98.out] at hx269_0)
                           cases e269
                           replace p269 := eq_true p269
                           replace q269 := eq_true q269
                           have p117 : 0 ≤ (x14_4 : Int) := of_decide_eq_true (by first | (with_reducible assumption) | assumption)
                           have q117 : x14_4 < (a1.size : Int) := of_decide_eq_true (by first | (with_reducible assumption) | assumption)
                           have hx117 := bt_at a1 x14_4
                           replace p117 := eq_true p117
                           replace q117 := eq_true q117
                           have p121 : 0 ≤ ((ji118) : Int) := of_decide_eq_true (by first | (with_reducible assumption) | assumption)
                           have q121 : ((ji118) : Int) < ((x7_4.length : Int) : Int) := of_decide_eq_true (by first | (with_reducible assumption) | assumption)
                           obtain ⟨go121, co121, eo121, gb121, gl121, cl121, HG121⟩ := Kd.R_form HO_7.out (by omega)
                           (first | cases eo121 | (injection eo121 with ea_ en_ ec_; (first | subst ea_ | (injection ea_ with ea_; subst ea_)); subst ec_; clear en_))
                           have GB121 := Aside0.mk gb121
                           have GG121 := Aside0.mk HG121
                           clear gb121 gl121 HG121
                           obtain ⟨hx121_0, hf121_0⟩ := Kd.R_celln false HO_7.out ((ji118) : Int) p121 q121
                           replace p121 := eq_true p121
                           replace q121 := eq_true q121
                           have HP123 := Kd.R_putg HO_7.out ((ji118) : Int) ((bt a1 x14_4) == x12_88)
                           go_wp2_with (first | ((with_reducible refine gate_store (t := 4) (p := 81) rfl ?_); (try (rw [drewN_self wr]; generalize hq_ : World.drewN wr _ = wr; have n0_ := Aside0.mk (Kd.R_at hq_ HO_5.out); have n1_ := Aside0.mk (Kd.R_at hq_ HO_7.out); have n2_ := Aside0.mk (below_at hq_ HB.out); clear hq_ HO_5 HO_7 HB; have HO_5 := n0_; have HO_7 := n1_; have HB := n2_; clear n0_ n1_ n2_; (try (have HP123 := Kd.R_putg HO_7.out ((ji118) : Int) ((bt a1 x14_4) == x12_88))))); refine store_event (t := 4) (p := 81) (v := ?vo_w124) (w1 := (wr.setCell ⟨go121, ((ji118) : Int).toNat, none⟩ (.bool ((bt a1 x14_4) == x12_88)))) ?hg ?ho ?hn ?hr ?_; (case ho => rfl); (case hg => rfl); (case hn => rfl); (case hr => first | (go_simp; done) | (go_simp; rfl)); intro w124 hw; have hg : wr.grownBy w124 (some go121) := (by rw [hw]; exact HP123.2); have hp_ : Kd.R Kd.bool 4 w124 w.heap.size (fun k_ => some k_ ≠ (.slice (some ad269) x5_1.length co122 : Value).ownBlock) (.slice (some ⟨go121, 0, none⟩) x7_4.length co121) y272 := (by rw [hw, Ny272.out]; exact HP123.1); clear HP123; have n0_ := Aside0.mk (Kd.R_after (v := (.slice (some ⟨go121, 0, none⟩) x7_4.length co121)) (v1 := (.slice (some ⟨go121, 0, none⟩) x7_4.length co121)) (ok := (fun _ => True)) (by (with_reducible repeat (first | apply Kd.R_alloc | apply Kd.R_drewN | apply Kd.R_drew)); exact Kd.R_mono HO_5.out (fun _ hk => ⟨trivial, hk⟩)) hg (.inl rfl)); have n1_ := Aside0.mk (hp_); have n2_ := Aside0.mk ((by rw [hw]; exact below_set (HB.out) GB121.out : Below w.heap.size w w124)); clear HO_5; clear HO_7; clear HB; have HO_5 := n0_; have HO_7 := n1_; have HB := n2_; clear n0_ n1_ n2_; clear hg hw hp_))
                           repeat (go_quiet (first | ((with_reducible refine gate_store (t := 4) (p := 81) rfl ?_); (try (rw [drewN_self wr]; generalize hq_ : World.drewN wr _ = wr; have n0_ := Aside0.mk (Kd.R_at hq_ HO_5.out); have n1_ := Aside0.mk (Kd.R_at hq_ HO_7.out); have n2_ := Aside0.mk (below_at hq_ HB.out); clear hq_ HO_5 HO_7 HB; have HO_5 := n0_; have HO_7 := n1_; have HB := n2_; clear n0_ n1_ n2_; (try (have HP123 := Kd.R_putg HO_7.out ((ji118) : Int) ((bt a1 x14_4) == x12_88))))); refine store_event (t := 4) (p := 81) (v := ?vo_w124) (w1 := (wr.setCell ⟨go121, ((ji118) : Int).toNat, none⟩ (.bool ((bt a1 x14_4) == x12_88)))) ?hg ?ho ?hn ?hr ?_; (case ho => rfl); (case hg => rfl); (case hn => rfl); (case hr => first | (go_simp; done) | (go_simp; rfl)); intro w124 hw; have hg : wr.grownBy w124 (some go121) := (by rw [hw]; exact HP123.2); have hp_ : Kd.R Kd.bool 4 w124 w.heap.size (fun k_ => some k_ ≠ (.slice (some ad269) x5_1.length co122 : Value).ownBlock) (.slice (some ⟨go121, 0, none⟩) x7_4.length co121) y272 := (by rw [hw, Ny272.out]; exact HP123.1); clear HP123; have n0_ := Aside0.mk (Kd.R_after (v := (.slice (some ⟨go121, 0, none⟩) x7_4.length co121)) (v1 := (.slice (some ⟨go121, 0, none⟩) x7_4.length co121)) (ok := (fun _ => True)) (by (with_reducible repeat (first | apply Kd.R_alloc | apply Kd.R_drewN | apply Kd.R_drew)); exact Kd.R_mono HO_5.out (fun _ hk => ⟨trivial, hk⟩)) hg (.inl rfl)); have n1_ := Aside0.mk (hp_); have n2_ := Aside0.mk ((by rw [hw]; exact below_set (HB.out) GB121.out : Below w.heap.size w w124)); clear HO_5; clear HO_7; clear HB; have HO_5 := n0_; have HO_7 := n1_; have HB := n2_; clear n0_ n1_ n2_; clear hg hw hp_)); try go_wp2_with (first | ((with_reducible refine gate_store (t := 4) (p := 81) rfl ?_); (try (rw [drewN_self wr]; generalize hq_ : World.drewN wr _ = wr; have n0_ := Aside0.mk (Kd.R_at hq_ HO_5.out); have n1_ := Aside0.mk (Kd.R_at hq_ HO_7.out); have n2_ := Aside0.mk (below_at hq_ HB.out); clear hq_ HO_5 HO_7 HB; have HO_5 := n0_; have HO_7 := n1_; have HB := n2_; clear n0_ n1_ n2_; (try (have HP123 := Kd.R_putg HO_7.out ((ji118) : Int) ((bt a1 x14_4) == x12_88))))); refine store_event (t := 4) (p := 81) (v := ?vo_w124) (w1 := (wr.setCell ⟨go121, ((ji118) : Int).toNat, none⟩ (.bool ((bt a1 x14_4) == x12_88)))) ?hg ?ho ?hn ?hr ?_; (case ho => rfl); (case hg => rfl); (case hn => rfl); (case hr => first | (go_simp; done) | (go_simp; rfl)); intro w124 hw; have hg : wr.grownBy w124 (some go121) := (by rw [hw]; exact HP123.2); have hp_ : Kd.R Kd.bool 4 w124 w.heap.size (fun k_ => some k_ ≠ (.slice (some ad269) x5_1.length co122 : Value).ownBlock) (.slice (some ⟨go121, 0, none⟩) x7_4.length co121) y272 := (by rw [hw, Ny272.out]; exact HP123.1); clear HP123; have n0_ := Aside0.mk (Kd.R_after (v := (.slice (some ⟨go121, 0, none⟩) x7_4.length co121)) (v1 := (.slice (some ⟨go121, 0, none⟩) x7_4.length co121)) (ok := (fun _ => True)) (by (with_reducible repeat (first | apply Kd.R_alloc | apply Kd.R_drewN | apply Kd.R_drew)); exact Kd.R_mono HO_5.out (fun _ hk => ⟨trivial, hk⟩)) hg (.inl rfl)); have n1_ := Aside0.mk (hp_); have n2_ := Aside0.mk ((by rw [hw]; exact below_set (HB.out) GB121.out : Below w.heap.size w w124)); clear HO_5; clear HO_7; clear HB; have HO_5 := n0_; have HO_7 := n1_; have HB := n2_; clear n0_ n1_ n2_; clear hg hw hp_)))
                           go_roundg k4
                           case measure => have := HK1.out; have := HJ17.out; have := HJ88.out; have := HK4.out; omega
                           case rel => exact ⟨(y272), (ji118), (by first | rfl | (simp; done) | (simp only [← hji118] <;> (first | rfl | simp)) | (simp [*]; done)), H', ⟨by have := HK1.out; have := HJ17.out; have := HJ88.out; have := HK4.out; omega⟩, ⟨by (with_reducible repeat (first | apply Kd.R_alloc | apply Kd.R_drewN | apply Kd.R_drew)); exact Kd.R_mono HO_5.out (fun _ hk => hk.2)⟩, ⟨by (with_reducible repeat (first | apply Kd.R_alloc | apply Kd.R_drewN | apply Kd.R_drew)); exact HO_7.out⟩, ⟨by repeat (first | (with_reducible first | exact HB.out | apply below_alloc | apply pw_below_drewN | apply below_drew1) | exact HB.out)⟩⟩
                          ·rw [if_neg c120] at H
                           exact absurd H (by simp)
                         ·rw [if_neg c119] at H
                          exact absurd H (by simp)
                       ·replace c99 := Bool.eq_false_iff.mpr c99
                        subst c99
                        have H1 : (if 0 ≤ (wrap64 (x14_4 + 1)) then (if (wrap64 (x14_4 + 1)) < (x7_4.length : Int) then (ambryref23_Match.l3 k4 a0 a1 x5_1 x6_88 (x7_4.set ((wrap64 (x14_4 + 1)) : Int).toNat false) x12_88 bq1 (wrap64 (x14_4 + 1))) else (none)) else (none)) = some r := by rw [if_neg (show ¬ (false = true) by decide)] at H; exact H
                        clear H
                        have H := H1
                        clear H1
                        obtain ⟨ji125, hji125⟩ : ∃ j_ : Int, (wrap64 (x14_4 + 1)) = j_ := ⟨_, rfl⟩
                        replace H : (if 0 ≤ (ji125) then (if (ji125) < (x7_4.length : Int) then (ambryref23_Match.l3 k4 a0 a1 x5_1 x6_88 (x7_4.set ((ji125) : Int).toNat false) x12_88 bq1 ji125) else (none)) else (none)) = some r := by first | (rw [hji125] at H; exact H) | (simp only [hji125] at H ⊢; exact H)
                        have hji125w : (IntKind.i64.wrap (x14_4 + 1)) = ji125 := (i64_w _).trans hji125
                        by_cases c126 : 0 ≤ (ji125)
                        ·rw [if_pos c126] at H
                         have c126b0 : decide (0 ≤ (ji125)) = true := decide_eq_true c126
                         clear c126
                         by_cases c127 : (ji125) < (x7_4.length : Int)
                         ·rw [if_pos c127] at H
                          have c127b0 : decide ((ji125) < (x7_4.length : Int)) = true := decide_eq_true c127
                          clear c127
                          obtain ⟨y273, hy273⟩ : ∃ y_ : List Bool, y_ = (x7_4.set ((ji125) : Int).toNat false) := ⟨_, rfl⟩
                          replace H : (ambryref23_Match.l3 k4 a0 a1 x5_1 x6_88 y273 x12_88 bq1 ji125) = some r := by first | (rw [hy273]; with_reducible exact H) | (have H2_ := (Option.bind_some _ _).symm.trans H; rw [hy273]; with_reducible exact H2_) | (have H2_ := (Option.bind_some _ _).symm.trans H; with_reducible exact H2_) | with_reducible exact H | (rw [hy273]; exact H) | exact H
                          have Ny273 := Aside0.mk hy273
                          clear hy273
                          have H' := Aside0.mk H
                          clear H
                          obtain ⟨Ao129, co129, eo129⟩ := Kd.R_slice HO_5.out
                          subst eo129
                          have p269 : 0 ≤ (x14_4 : Int) := of_decide_eq_true (by first | (with_reducible assumption) | assumption)
                          have q269 : x14_4 < (x5_1.length : Int) := of_decide_eq_true (by first | (with_reducible assumption) | assumption)
                          obtain ⟨ad269, e269, hx269_0⟩ := Kd.at_bool (Kd.R_reads' HO_5.out).2.2 x14_4 p269 q269
                          (try rw [← Nbq98.out] at hx269_0)
                          cases e269
                          replace p269 := eq_true p269
                          replace q269 := eq_true q269
                          have p128 : 0 ≤ ((ji125) : Int) := of_decide_eq_true (by first | (with_reducible assumption) | assumption)
                          have q128 : ((ji125) : Int) < ((x7_4.length : Int) : Int) := of_decide_eq_true (by first | (with_reducible assumption) | assumption)
                          obtain ⟨go128, co128, eo128, gb128, gl128, cl128, HG128⟩ := Kd.R_form HO_7.out (by omega)
                          (first | cases eo128 | (injection eo128 with ea_ en_ ec_; (first | subst ea_ | (injection ea_ with ea_; subst ea_)); subst ec_; clear en_))
                          have GB128 := Aside0.mk gb128
                          have GG128 := Aside0.mk HG128
                          clear gb128 gl128 HG128
                          obtain ⟨hx128_0, hf128_0⟩ := Kd.R_celln false HO_7.out ((ji125) : Int) p128 q128
                          replace p128 := eq_true p128
                          replace q128 := eq_true q128
                          have HP130 := Kd.R_putg HO_7.out ((ji125) : Int) false
                          go_wp2_with (first | ((with_reducible refine gate_store (t := 4) (p := 81) rfl ?_); (try (rw [drewN_self wr]; generalize hq_ : World.drewN wr _ = wr; have n0_ := Aside0.mk (Kd.R_at hq_ HO_5.out); have n1_ := Aside0.mk (Kd.R_at hq_ HO_7.out); have n2_ := Aside0.mk (below_at hq_ HB.out); clear hq_ HO_5 HO_7 HB; have HO_5 := n0_; have HO_7 := n1_; have HB := n2_; clear n0_ n1_ n2_; (try (have HP130 := Kd.R_putg HO_7.out ((ji125) : Int) false)))); refine store_event (t := 4) (p := 81) (v := ?vo_w131) (w1 := (wr.setCell ⟨go128, ((ji125) : Int).toNat, none⟩ (.bool false))) ?hg ?ho ?hn ?hr ?_; (case ho => rfl); (case hg => rfl); (case hn => rfl); (case hr => first | (go_simp; done) | (go_simp; rfl)); intro w131 hw; have hg : wr.grownBy w131 (some go128) := (by rw [hw]; exact HP130.2); have hp_ : Kd.R Kd.bool 4 w131 w.heap.size (fun k_ => some k_ ≠ (.slice (some ad269) x5_1.length co129 : Value).ownBlock) (.slice (some ⟨go128, 0, none⟩) x7_4.length co128) y273 := (by rw [hw, Ny273.out]; exact HP130.1); clear HP130; have n0_ := Aside0.mk (Kd.R_after (v := (.slice (some ⟨go128, 0, none⟩) x7_4.length co128)) (v1 := (.slice (some ⟨go128, 0, none⟩) x7_4.length co128)) (ok := (fun _ => True)) (by (with_reducible repeat (first | apply Kd.R_alloc | apply Kd.R_drewN | apply Kd.R_drew)); exact Kd.R_mono HO_5.out (fun _ hk => ⟨trivial, hk⟩)) hg (.inl rfl)); have n1_ := Aside0.mk (hp_); have n2_ := Aside0.mk ((by rw [hw]; exact below_set (HB.out) GB128.out : Below w.heap.size w w131)); clear HO_5; clear HO_7; clear HB; have HO_5 := n0_; have HO_7 := n1_; have HB := n2_; clear n0_ n1_ n2_; clear hg hw hp_))
                          repeat (go_quiet (first | ((with_reducible refine gate_store (t := 4) (p := 81) rfl ?_); (try (rw [drewN_self wr]; generalize hq_ : World.drewN wr _ = wr; have n0_ := Aside0.mk (Kd.R_at hq_ HO_5.out); have n1_ := Aside0.mk (Kd.R_at hq_ HO_7.out); have n2_ := Aside0.mk (below_at hq_ HB.out); clear hq_ HO_5 HO_7 HB; have HO_5 := n0_; have HO_7 := n1_; have HB := n2_; clear n0_ n1_ n2_; (try (have HP130 := Kd.R_putg HO_7.out ((ji125) : Int) false)))); refine store_event (t := 4) (p := 81) (v := ?vo_w131) (w1 := (wr.setCell ⟨go128, ((ji125) : Int).toNat, none⟩ (.bool false))) ?hg ?ho ?hn ?hr ?_; (case ho => rfl); (case hg => rfl); (case hn => rfl); (case hr => first | (go_simp; done) | (go_simp; rfl)); intro w131 hw; have hg : wr.grownBy w131 (some go128) := (by rw [hw]; exact HP130.2); have hp_ : Kd.R Kd.bool 4 w131 w.heap.size (fun k_ => some k_ ≠ (.slice (some ad269) x5_1.length co129 : Value).ownBlock) (.slice (some ⟨go128, 0, none⟩) x7_4.length co128) y273 := (by rw [hw, Ny273.out]; exact HP130.1); clear HP130; have n0_ := Aside0.mk (Kd.R_after (v := (.slice (some ⟨go128, 0, none⟩) x7_4.length co128)) (v1 := (.slice (some ⟨go128, 0, none⟩) x7_4.length co128)) (ok := (fun _ => True)) (by (with_reducible repeat (first | apply Kd.R_alloc | apply Kd.R_drewN | apply Kd.R_drew)); exact Kd.R_mono HO_5.out (fun _ hk => ⟨trivial, hk⟩)) hg (.inl rfl)); have n1_ := Aside0.mk (hp_); have n2_ := Aside0.mk ((by rw [hw]; exact below_set (HB.out) GB128.out : Below w.heap.size w w131)); clear HO_5; clear HO_7; clear HB; have HO_5 := n0_; have HO_7 := n1_; have HB := n2_; clear n0_ n1_ n2_; clear hg hw hp_)); try go_wp2_with (first | ((with_reducible refine gate_store (t := 4) (p := 81) rfl ?_); (try (rw [drewN_self wr]; generalize hq_ : World.drewN wr _ = wr; have n0_ := Aside0.mk (Kd.R_at hq_ HO_5.out); have n1_ := Aside0.mk (Kd.R_at hq_ HO_7.out); have n2_ := Aside0.mk (below_at hq_ HB.out); clear hq_ HO_5 HO_7 HB; have HO_5 := n0_; have HO_7 := n1_; have HB := n2_; clear n0_ n1_ n2_; (try (have HP130 := Kd.R_putg HO_7.out ((ji125) : Int) false)))); refine store_event (t := 4) (p := 81) (v := ?vo_w131) (w1 := (wr.setCell ⟨go128, ((ji125) : Int).toNat, none⟩ (.bool false))) ?hg ?ho ?hn ?hr ?_; (case ho => rfl); (case hg => rfl); (case hn => rfl); (case hr => first | (go_simp; done) | (go_simp; rfl)); intro w131 hw; have hg : wr.grownBy w131 (some go128) := (by rw [hw]; exact HP130.2); have hp_ : Kd.R Kd.bool 4 w131 w.heap.size (fun k_ => some k_ ≠ (.slice (some ad269) x5_1.length co129 : Value).ownBlock) (.slice (some ⟨go128, 0, none⟩) x7_4.length co128) y273 := (by rw [hw, Ny273.out]; exact HP130.1); clear HP130; have n0_ := Aside0.mk (Kd.R_after (v := (.slice (some ⟨go128, 0, none⟩) x7_4.length co128)) (v1 := (.slice (some ⟨go128, 0, none⟩) x7_4.length co128)) (ok := (fun _ => True)) (by (with_reducible repeat (first | apply Kd.R_alloc | apply Kd.R_drewN | apply Kd.R_drew)); exact Kd.R_mono HO_5.out (fun _ hk => ⟨trivial, hk⟩)) hg (.inl rfl)); have n1_ := Aside0.mk (hp_); have n2_ := Aside0.mk ((by rw [hw]; exact below_set (HB.out) GB128.out : Below w.heap.size w w131)); clear HO_5; clear HO_7; clear HB; have HO_5 := n0_; have HO_7 := n1_; have HB := n2_; clear n0_ n1_ n2_; clear hg hw hp_)))
                          go_roundg k4
                          case measure => have := HK1.out; have := HJ17.out; have := HJ88.out; have := HK4.out; omega
                          case rel => exact ⟨(y273), (ji125), (by first | rfl | (simp; done) | (simp only [← hji125] <;> (first | rfl | simp)) | (simp [*]; done)), H', ⟨by have := HK1.out; have := HJ17.out; have := HJ88.out; have := HK4.out; omega⟩, ⟨by (with_reducible repeat (first | apply Kd.R_alloc | apply Kd.R_drewN | apply Kd.R_drew)); exact Kd.R_mono HO_5.out (fun _ hk => hk.2)⟩, ⟨by (with_reducible repeat (first | apply Kd.R_alloc | apply Kd.R_drewN | apply Kd.R_drew)); exact HO_7.out⟩, ⟨by repeat (first | (with_reducible first | exact HB.out | apply below_alloc | apply pw_below_drewN | apply below_drew1) | exact HB.out)⟩⟩
                         ·rw [if_neg c127] at H
                          exact absurd H (by simp)
                        ·rw [if_neg c126] at H
                         exact absurd H (by simp)
                      ·rw [if_neg c97] at H
                       exact absurd H (by simp)
                     ·rw [if_neg c96] at H
                      exact absurd H (by simp)
                    ·rw [if_neg c95] at H
                     have c95b0 : decide (x14_4 < (a1.size : Int)) = false := decide_eq_false c95
                     clear c95
                     have H' := Aside0.mk H
                     clear H
                     go_wp2
                     repeat (go_quiet (fail); try go_wp2)
                     go_roundg k4
                     case measure => have := HK1.out; have := HJ17.out; have := HJ88.out; have := HK4.out; omega
                     case rel => exact ⟨(x7_4), (wrap64 (x6_88 + 1)), (by first | rfl | (simp; done) | (simp [*]; done)), H', ⟨by have := HK1.out; have := HJ17.out; have := HJ88.out; have := HK4.out; omega⟩, ⟨by (with_reducible repeat (first | apply Kd.R_alloc | apply Kd.R_drewN | apply Kd.R_drew)); exact Kd.R_mono HO_7.out (fun _ hk => trivial)⟩, ⟨by repeat (first | (with_reducible first | exact HB.out | apply below_alloc | apply pw_below_drewN | apply below_drew1) | exact HB.out)⟩⟩
              ·rw [if_neg c44] at H
               exact absurd H (by simp)
             ·rw [if_neg c43] at H
              exact absurd H (by simp)
         ·rw [if_neg c17] at H
          exact absurd H (by simp)
        ·rw [if_neg c16] at H
         exact absurd H (by simp)
       ·rw [if_neg c14] at H
        have c14b0 : decide (x6_1 < (a0.size : Int)) = false := decide_eq_false c14
        clear c14
        by_cases c132 : 0 ≤ (a1.size : Int)
        ·rw [if_pos c132] at H
         have c132b0 : decide (0 ≤ (a1.size : Int)) = true := decide_eq_true c132
         have c132b1 : decide (0 ≤ a1.size) = true := decide_eq_true (by omega)
         clear c132
         by_cases c133 : (a1.size : Int) < (x5_1.length : Int)
         ·rw [if_pos c133] at H
          have c133b0 : decide ((a1.size : Int) < (x5_1.length : Int)) = true := decide_eq_true c133
          have c133b1 : decide (a1.size < x5_1.length) = true := decide_eq_true (Int.ofNat_lt.mp c133)
          clear c133
          obtain rfl := Option.some.inj H
          obtain ⟨Ao134, co134, eo134⟩ := Kd.R_slice HO_5.out
          subst eo134
          have p254 : 0 ≤ ((a1.size : Int) : Int) := of_decide_eq_true (by first | (with_reducible assumption) | assumption)
          have q254 : (a1.size : Int) < (x5_1.length : Int) := of_decide_eq_true (by first | (with_reducible assumption) | assumption)
          obtain ⟨ad254, e254, hx254_0⟩ := Kd.at_bool (Kd.R_reads' HO_5.out).2.2 (a1.size : Int) p254 q254
          (try (have hx254_0n := hx254_0; simp only [Int.toNat_natCast] at hx254_0n))
          cases e254
          replace p254 := eq_true p254
          replace q254 := eq_true q254
          go_wp2
          repeat (go_quiet (fail); try go_wp2)
          go_ret
          exact ⟨by first | rfl | (simp [errW_none, errW_some] <;> rfl) | (simp only [← hji5]; first | rfl | (simp [errW_none, errW_some] <;> rfl)) | (simp [*, errW_none, errW_some] <;> rfl), by repeat (first | (with_reducible first | exact HB.out | apply below_alloc | apply pw_below_drewN | apply below_drew1) | exact HB.out)⟩
         ·rw [if_neg c133] at H
          exact absurd H (by simp)
        ·rw [if_neg c132] at H
         exact absurd H (by simp)
    ·rw [if_neg c8] at H
     exact absurd H (by simp)
   ·rw [if_neg c7] at H
    exact absurd H (by simp)
  ·rw [if_neg c6] at H
   exact absurd H (by simp)
 ·rw [if_neg c4] at H
  have c4b0 : (t249 == 0) = false := beq_eq_false_iff_ne.mpr c4
  have c4b1 : (t249 != 0) = true := bne_iff_ne.mpr c4
  obtain rfl := Option.some.inj H
  go_enter Try.func29, Try.ntmps29
  go_wp2_with (first | (go_at_call 21; (with_reducible refine (ambryref23_Valid.calls k a0 t249 _ A3.out).mono ?_); rintro e w' ⟨rfl, ⟨nd, rfl⟩⟩; (try first | exact ⟨rfl, _, World.drewN_drewN _ _ _⟩ | exact ⟨rfl, _, Eq.trans (World.drewN_drewN _ _ _) (congrArg (World.drewN _) (Nat.add_assoc _ _ _))⟩)))
  repeat (go_quiet (first | (go_at_call 21; (with_reducible refine (ambryref23_Valid.calls k a0 t249 _ A3.out).mono ?_); rintro e w' ⟨rfl, ⟨nd, rfl⟩⟩; (try first | exact ⟨rfl, _, World.drewN_drewN _ _ _⟩ | exact ⟨rfl, _, Eq.trans (World.drewN_drewN _ _ _) (congrArg (World.drewN _) (Nat.add_assoc _ _ _))⟩))); try go_wp2_with (first | (go_at_call 21; (with_reducible refine (ambryref23_Valid.calls k a0 t249 _ A3.out).mono ?_); rintro e w' ⟨rfl, ⟨nd, rfl⟩⟩; (try first | exact ⟨rfl, _, World.drewN_drewN _ _ _⟩ | exact ⟨rfl, _, Eq.trans (World.drewN_drewN _ _ _) (congrArg (World.drewN _) (Nat.add_assoc _ _ _))⟩))))
  go_ret
  exact ⟨by first | rfl | (simp [errW_none, errW_some] <;> rfl) | (simp [*, errW_none, errW_some] <;> rfl), by repeat (first | (with_reducible first | exact HB.out | apply below_alloc | apply pw_below_drewN | apply below_drew1) | exact HB.out)⟩

end Go.Proofs.Ytjliebggdphmpaa.G
