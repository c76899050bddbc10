-- PRINTED by print.py (a twelfth state) out of the translation. Not trusted: Lean checks it.
import Derived.Test.YtbnilemmgmhbfaaHx0
import Derived.Test.YtbnilemmgmhbfaaHx2
import Derived.Test.YtbnilemmgmhbfaaHx4
import Derived.Test.YtbnilemmgmhbfaaHx5
namespace Go.Proofs.Ytbnilemmgmhbfaa.H
open Go.RowKit Go.Proofs.YtbnilemmgmhbfaaW.PrintWords Go.Proofs.YtbnilemmgmhbfaaW.PrintLast Go.Proofs.YtbnilemmgmhbfaaW.PrintMore
attribute [local go_sem] max2_int min2_int max_two min_two max_three min_three max_four min_four   -- for this text's walks alone
set_option linter.unusedVariables false
set_option linter.unusedSimpArgs false

/-! ### ambrylaw10_HeadBytes: function 7 -/
mutual
def ambrylaw10_HeadBytes.j0 : Nat → Int → ByteArray → List (S39) → List (S39) → List (S39) → Bool → Bool → Bool → Option (Bool)
  | 0, _, _, _, _, _, _, _, _ => none
  | k + 1, x0, x3, x4, x6, x8, x10, x11, x70 => if x70 = true then (some false) else (if x10 = true then (if (x4.length : Int) = 1 then (if 0 < (x4.length : Int) then (if 1 + x3.size ≤ 9223372036854775807 then (if ((⟨#[120]⟩ : ByteArray) ++ x3).size + 1 ≤ 9223372036854775807 then (if ((rd_T39 x4 0).f0).toList = (((⟨#[120]⟩ : ByteArray) ++ x3) ++ (⟨#[121]⟩ : ByteArray)).toList then (if x11 = true then (if (x6.length : Int) = 1 then (if 0 < (x6.length : Int) then (if ((⟨#[118]⟩ : ByteArray) ++ x3).size + 1 ≤ 9223372036854775807 then (ambrylaw10_HeadBytes.j1 k x0 x3 x8 x11 (((rd_T39 x6 0).f1).toList != (((⟨#[118]⟩ : ByteArray) ++ x3) ++ (⟨#[119]⟩ : ByteArray)).toList)) else (none)) else (none)) else (ambrylaw10_HeadBytes.j1 k x0 x3 x8 x11 true)) else (ambrylaw10_HeadBytes.j1 k x0 x3 x8 x11 false)) else (ambrylaw10_HeadBytes.j1 k x0 x3 x8 x11 true)) else (none)) else (none)) else (none)) else (ambrylaw10_HeadBytes.j1 k x0 x3 x8 x11 true)) else (if x11 = true then (if (x6.length : Int) = 1 then (if 0 < (x6.length : Int) then (if 1 + x3.size ≤ 9223372036854775807 then (if ((⟨#[118]⟩ : ByteArray) ++ x3).size + 1 ≤ 9223372036854775807 then (ambrylaw10_HeadBytes.j1 k x0 x3 x8 x11 (((rd_T39 x6 0).f1).toList != (((⟨#[118]⟩ : ByteArray) ++ x3) ++ (⟨#[119]⟩ : ByteArray)).toList)) else (none)) else (none)) else (none)) else (ambrylaw10_HeadBytes.j1 k x0 x3 x8 x11 true)) else (ambrylaw10_HeadBytes.j1 k x0 x3 x8 x11 false)))
def ambrylaw10_HeadBytes.j1 : Nat → Int → ByteArray → List (S39) → Bool → Bool → Option (Bool)
  | 0, _, _, _, _, _ => none
  | k + 1, x0, x3, x8, x11, x104 => if x104 = true then (some false) else (if x0 = 32 then (if (x8.length : Int) = 1 then (if 0 < (x8.length : Int) then (some (((rd_T39 x8 0).f1).toList == ([118] : List UInt8))) else (none)) else (some false)) else (if x0 = 9 then (if (x8.length : Int) = 1 then (if 0 < (x8.length : Int) then (some (((rd_T39 x8 0).f1).toList == ([118] : List UInt8))) else (none)) else (some false)) else (if x11 = true then (if (x8.length : Int) = 1 then (if 0 < (x8.length : Int) then (if x3.size + 1 ≤ 9223372036854775807 then (if (x3 ++ (⟨#[118]⟩ : ByteArray)).size + x3.size ≤ 9223372036854775807 then (some (((rd_T39 x8 0).f1).toList == ((x3 ++ (⟨#[118]⟩ : ByteArray)) ++ x3).toList)) else (none)) else (none)) else (none)) else (some false)) else (some true))))
end
def ambrylaw10_HeadBytes.f (k : Nat) (a0 : Int) : Option (Bool) := (ambrylaw10_known.f k).bind fun t254 => (if t254 = true then ((some (([a0] : List Int) : List Int)).bind fun y255 => (if 1 + (strOfNums y255).size ≤ 9223372036854775807 then (if ((⟨#[120]⟩ : ByteArray) ++ (strOfNums y255)).size + 4 ≤ 9223372036854775807 then ((head_Parse.f k (([((⟨#[120]⟩ : ByteArray) ++ (strOfNums y255)) ++ (⟨#[121, 58, 32, 118]⟩ : ByteArray)] : List ByteArray))).bind fun bt261 => (if 4 + (strOfNums y255).size ≤ 9223372036854775807 then (if ((⟨#[120, 58, 32, 118]⟩ : ByteArray) ++ (strOfNums y255)).size + 1 ≤ 9223372036854775807 then ((head_Parse.f k (([((⟨#[120, 58, 32, 118]⟩ : ByteArray) ++ (strOfNums y255)) ++ (⟨#[119]⟩ : ByteArray)] : List ByteArray))).bind fun bt268 => (if 2 + (strOfNums y255).size ≤ 9223372036854775807 then (if ((⟨#[120, 58]⟩ : ByteArray) ++ (strOfNums y255)).size + 1 ≤ 9223372036854775807 then (if (((⟨#[120, 58]⟩ : ByteArray) ++ (strOfNums y255)) ++ (⟨#[118]⟩ : ByteArray)).size + (strOfNums y255).size ≤ 9223372036854775807 then ((head_Parse.f k (([(((⟨#[120, 58]⟩ : ByteArray) ++ (strOfNums y255)) ++ (⟨#[118]⟩ : ByteArray)) ++ (strOfNums y255)] : List ByteArray))).bind fun bt275 => ((ambryref10_Token.f k (strOfNums y255)).bind fun t279 => ((ambryref10_Text.f k (strOfNums y255)).bind fun t280 => (if t279 = true then (if ((bt261.2 == 0) != true) = true then (if a0 = 58 then (if ((bt268.2 == 0) != t280) = true then (ambrylaw10_HeadBytes.j0 k a0 (strOfNums y255) bt261.1 bt268.1 bt275.1 t279 t280 true) else (ambrylaw10_HeadBytes.j0 k a0 (strOfNums y255) bt261.1 bt268.1 bt275.1 t279 t280 ((bt275.2 == 0) != t280))) else (ambrylaw10_HeadBytes.j0 k a0 (strOfNums y255) bt261.1 bt268.1 bt275.1 t279 t280 true)) else (if ((bt268.2 == 0) != t280) = true then (ambrylaw10_HeadBytes.j0 k a0 (strOfNums y255) bt261.1 bt268.1 bt275.1 t279 t280 true) else (ambrylaw10_HeadBytes.j0 k a0 (strOfNums y255) bt261.1 bt268.1 bt275.1 t279 t280 ((bt275.2 == 0) != t280)))) else (if ((bt261.2 == 0) != (a0 == 58)) = true then (if a0 = 58 then (if ((bt268.2 == 0) != t280) = true then (ambrylaw10_HeadBytes.j0 k a0 (strOfNums y255) bt261.1 bt268.1 bt275.1 t279 t280 true) else (ambrylaw10_HeadBytes.j0 k a0 (strOfNums y255) bt261.1 bt268.1 bt275.1 t279 t280 ((bt275.2 == 0) != t280))) else (ambrylaw10_HeadBytes.j0 k a0 (strOfNums y255) bt261.1 bt268.1 bt275.1 t279 t280 true)) else (if ((bt268.2 == 0) != t280) = true then (ambrylaw10_HeadBytes.j0 k a0 (strOfNums y255) bt261.1 bt268.1 bt275.1 t279 t280 true) else (ambrylaw10_HeadBytes.j0 k a0 (strOfNums y255) bt261.1 bt268.1 bt275.1 t279 t280 ((bt275.2 == 0) != t280)))))))) else (none)) else (none)) else (none))) else (none)) else (none))) else (none)) else (none))) else (some false))
theorem ambrylaw10_HeadBytes.mono_l : ∀ k, (∀ y0 y1 y2 y3 y4 y5 y6 y7, LeO (ambrylaw10_HeadBytes.j0 k y0 y1 y2 y3 y4 y5 y6 y7) (ambrylaw10_HeadBytes.j0 (k + 1) y0 y1 y2 y3 y4 y5 y6 y7)) ∧ (∀ y0 y1 y2 y3 y4, LeO (ambrylaw10_HeadBytes.j1 k y0 y1 y2 y3 y4) (ambrylaw10_HeadBytes.j1 (k + 1) y0 y1 y2 y3 y4))
  | 0 => ⟨fun _ _ _ _ _ _ _ _ r h => by simp [ambrylaw10_HeadBytes.j0] at h, fun _ _ _ _ _ r h => by simp [ambrylaw10_HeadBytes.j1] at h⟩
  | k + 1 => by
    obtain ⟨ih0, ih1⟩ := ambrylaw10_HeadBytes.mono_l k
    refine ⟨?_, ?_⟩
    · intro y0 y1 y2 y3 y4 y5 y6 y7
      unfold ambrylaw10_HeadBytes.j0
      repeat' first
      | (with_reducible exact ih0 _ _ _ _ _ _ _ _)
      | (with_reducible exact ih1 _ _ _ _ _)
      | (with_reducible exact ambrylaw10_known.mono _)
      | (with_reducible exact ambryref10_Text.mono _ _)
      | (with_reducible exact ambryref10_Token.mono _ _)
      | (with_reducible exact head_Parse.mono _ _)
      | (with_reducible exact LeO.refl _)
      | (with_reducible exact LeO.none _)
      | (with_reducible refine LeO.ite ?_ ?_)
      | (with_reducible refine LeO.bind ?_ (fun _ => ?_))
      | exact ih0 _ _ _ _ _ _ _ _
      | exact ih1 _ _ _ _ _
      | exact ambrylaw10_known.mono _
      | exact ambryref10_Text.mono _ _
      | exact ambryref10_Token.mono _ _
      | exact head_Parse.mono _ _
      | exact LeO.none _
      | refine LeO.ite ?_ ?_
      | refine LeO.bind ?_ (fun _ => ?_)
    · intro y0 y1 y2 y3 y4
      unfold ambrylaw10_HeadBytes.j1
      repeat' first
      | (with_reducible exact ih0 _ _ _ _ _ _ _ _)
      | (with_reducible exact ih1 _ _ _ _ _)
      | (with_reducible exact ambrylaw10_known.mono _)
      | (with_reducible exact ambryref10_Text.mono _ _)
      | (with_reducible exact ambryref10_Token.mono _ _)
      | (with_reducible exact head_Parse.mono _ _)
      | (with_reducible exact LeO.refl _)
      | (with_reducible exact LeO.none _)
      | (with_reducible refine LeO.ite ?_ ?_)
      | (with_reducible refine LeO.bind ?_ (fun _ => ?_))
      | exact ih0 _ _ _ _ _ _ _ _
      | exact ih1 _ _ _ _ _
      | exact ambrylaw10_known.mono _
      | exact ambryref10_Text.mono _ _
      | exact ambryref10_Token.mono _ _
      | exact head_Parse.mono _ _
      | exact LeO.none _
      | refine LeO.ite ?_ ?_
      | refine LeO.bind ?_ (fun _ => ?_)
theorem ambrylaw10_HeadBytes.mono : ∀ a0 k, LeO (ambrylaw10_HeadBytes.f k a0) (ambrylaw10_HeadBytes.f (k + 1) a0) := by
  intro a0 k
  obtain ⟨ih0, ih1⟩ := ambrylaw10_HeadBytes.mono_l k
  unfold ambrylaw10_HeadBytes.f
  repeat' first
      | (with_reducible exact ih0 _ _ _ _ _ _ _ _)
      | (with_reducible exact ih1 _ _ _ _ _)
      | (with_reducible exact ambrylaw10_known.mono _)
      | (with_reducible exact ambryref10_Text.mono _ _)
      | (with_reducible exact ambryref10_Token.mono _ _)
      | (with_reducible exact head_Parse.mono _ _)
      | (with_reducible exact LeO.refl _)
      | (with_reducible exact LeO.none _)
      | (with_reducible refine LeO.ite ?_ ?_)
      | (with_reducible refine LeO.bind ?_ (fun _ => ?_))
      | exact ih0 _ _ _ _ _ _ _ _
      | exact ih1 _ _ _ _ _
      | exact ambrylaw10_known.mono _
      | exact ambryref10_Text.mono _ _
      | exact ambryref10_Token.mono _ _
      | exact head_Parse.mono _ _
      | exact LeO.none _
      | refine LeO.ite ?_ ?_
      | refine LeO.bind ?_ (fun _ => ?_)
set_option maxHeartbeats 8000000 in
set_option maxRecDepth 100000 in
theorem ambrylaw10_HeadBytes.calls (k : Nat) (a0 : Int) (r : Bool) (w : World) (h : ambrylaw10_HeadBytes.f k a0 = some r) :
    Calls Try.prog 7 #[.int .u8 a0] w fun e w' => e = .returned (.bool r) ∧ Below w.heap.size w w' := by
  have HB := Aside0.mk (Below.refl w.heap.size w)
  have H : ((ambrylaw10_known.f k).bind fun t254 => (if t254 = true then ((some (([a0] : List Int) : List Int)).bind fun y255 => (if 1 + (strOfNums y255).size ≤ 9223372036854775807 then (if ((⟨#[120]⟩ : ByteArray) ++ (strOfNums y255)).size + 4 ≤ 9223372036854775807 then ((head_Parse.f k (([((⟨#[120]⟩ : ByteArray) ++ (strOfNums y255)) ++ (⟨#[121, 58, 32, 118]⟩ : ByteArray)] : List ByteArray))).bind fun bt261 => (if 4 + (strOfNums y255).size ≤ 9223372036854775807 then (if ((⟨#[120, 58, 32, 118]⟩ : ByteArray) ++ (strOfNums y255)).size + 1 ≤ 9223372036854775807 then ((head_Parse.f k (([((⟨#[120, 58, 32, 118]⟩ : ByteArray) ++ (strOfNums y255)) ++ (⟨#[119]⟩ : ByteArray)] : List ByteArray))).bind fun bt268 => (if 2 + (strOfNums y255).size ≤ 9223372036854775807 then (if ((⟨#[120, 58]⟩ : ByteArray) ++ (strOfNums y255)).size + 1 ≤ 9223372036854775807 then (if (((⟨#[120, 58]⟩ : ByteArray) ++ (strOfNums y255)) ++ (⟨#[118]⟩ : ByteArray)).size + (strOfNums y255).size ≤ 9223372036854775807 then ((head_Parse.f k (([(((⟨#[120, 58]⟩ : ByteArray) ++ (strOfNums y255)) ++ (⟨#[118]⟩ : ByteArray)) ++ (strOfNums y255)] : List ByteArray))).bind fun bt275 => ((ambryref10_Token.f k (strOfNums y255)).bind fun t279 => ((ambryref10_Text.f k (strOfNums y255)).bind fun t280 => (if t279 = true then (if ((bt261.2 == 0) != true) = true then (if a0 = 58 then (if ((bt268.2 == 0) != t280) = true then (ambrylaw10_HeadBytes.j0 k a0 (strOfNums y255) bt261.1 bt268.1 bt275.1 t279 t280 true) else (ambrylaw10_HeadBytes.j0 k a0 (strOfNums y255) bt261.1 bt268.1 bt275.1 t279 t280 ((bt275.2 == 0) != t280))) else (ambrylaw10_HeadBytes.j0 k a0 (strOfNums y255) bt261.1 bt268.1 bt275.1 t279 t280 true)) else (if ((bt268.2 == 0) != t280) = true then (ambrylaw10_HeadBytes.j0 k a0 (strOfNums y255) bt261.1 bt268.1 bt275.1 t279 t280 true) else (ambrylaw10_HeadBytes.j0 k a0 (strOfNums y255) bt261.1 bt268.1 bt275.1 t279 t280 ((bt275.2 == 0) != t280)))) else (if ((bt261.2 == 0) != (a0 == 58)) = true then (if a0 = 58 then (if ((bt268.2 == 0) != t280) = true then (ambrylaw10_HeadBytes.j0 k a0 (strOfNums y255) bt261.1 bt268.1 bt275.1 t279 t280 true) else (ambrylaw10_HeadBytes.j0 k a0 (strOfNums y255) bt261.1 bt268.1 bt275.1 t279 t280 ((bt275.2 == 0) != t280))) else (ambrylaw10_HeadBytes.j0 k a0 (strOfNums y255) bt261.1 bt268.1 bt275.1 t279 t280 true)) else (if ((bt268.2 == 0) != t280) = true then (ambrylaw10_HeadBytes.j0 k a0 (strOfNums y255) bt261.1 bt268.1 bt275.1 t279 t280 true) else (ambrylaw10_HeadBytes.j0 k a0 (strOfNums y255) bt261.1 bt268.1 bt275.1 t279 t280 ((bt275.2 == 0) != t280)))))))) else (none)) else (none)) else (none))) else (none)) else (none))) else (none)) else (none))) else (some false))) = some r := h
  clear h
  replace H := Option.bind_eq_some_iff.mp H
  obtain ⟨t254, A20, H⟩ := H
  replace H : (if t254 = true then ((some (([a0] : List Int) : List Int)).bind fun y255 => (if 1 + (strOfNums y255).size ≤ 9223372036854775807 then (if ((⟨#[120]⟩ : ByteArray) ++ (strOfNums y255)).size + 4 ≤ 9223372036854775807 then ((head_Parse.f k (([((⟨#[120]⟩ : ByteArray) ++ (strOfNums y255)) ++ (⟨#[121, 58, 32, 118]⟩ : ByteArray)] : List ByteArray))).bind fun bt261 => (if 4 + (strOfNums y255).size ≤ 9223372036854775807 then (if ((⟨#[120, 58, 32, 118]⟩ : ByteArray) ++ (strOfNums y255)).size + 1 ≤ 9223372036854775807 then ((head_Parse.f k (([((⟨#[120, 58, 32, 118]⟩ : ByteArray) ++ (strOfNums y255)) ++ (⟨#[119]⟩ : ByteArray)] : List ByteArray))).bind fun bt268 => (if 2 + (strOfNums y255).size ≤ 9223372036854775807 then (if ((⟨#[120, 58]⟩ : ByteArray) ++ (strOfNums y255)).size + 1 ≤ 9223372036854775807 then (if (((⟨#[120, 58]⟩ : ByteArray) ++ (strOfNums y255)) ++ (⟨#[118]⟩ : ByteArray)).size + (strOfNums y255).size ≤ 9223372036854775807 then ((head_Parse.f k (([(((⟨#[120, 58]⟩ : ByteArray) ++ (strOfNums y255)) ++ (⟨#[118]⟩ : ByteArray)) ++ (strOfNums y255)] : List ByteArray))).bind fun bt275 => ((ambryref10_Token.f k (strOfNums y255)).bind fun t279 => ((ambryref10_Text.f k (strOfNums y255)).bind fun t280 => (if t279 = true then (if ((bt261.2 == 0) != true) = true then (if a0 = 58 then (if ((bt268.2 == 0) != t280) = true then (ambrylaw10_HeadBytes.j0 k a0 (strOfNums y255) bt261.1 bt268.1 bt275.1 t279 t280 true) else (ambrylaw10_HeadBytes.j0 k a0 (strOfNums y255) bt261.1 bt268.1 bt275.1 t279 t280 ((bt275.2 == 0) != t280))) else (ambrylaw10_HeadBytes.j0 k a0 (strOfNums y255) bt261.1 bt268.1 bt275.1 t279 t280 true)) else (if ((bt268.2 == 0) != t280) = true then (ambrylaw10_HeadBytes.j0 k a0 (strOfNums y255) bt261.1 bt268.1 bt275.1 t279 t280 true) else (ambrylaw10_HeadBytes.j0 k a0 (strOfNums y255) bt261.1 bt268.1 bt275.1 t279 t280 ((bt275.2 == 0) != t280)))) else (if ((bt261.2 == 0) != (a0 == 58)) = true then (if a0 = 58 then (if ((bt268.2 == 0) != t280) = true then (ambrylaw10_HeadBytes.j0 k a0 (strOfNums y255) bt261.1 bt268.1 bt275.1 t279 t280 true) else (ambrylaw10_HeadBytes.j0 k a0 (strOfNums y255) bt261.1 bt268.1 bt275.1 t279 t280 ((bt275.2 == 0) != t280))) else (ambrylaw10_HeadBytes.j0 k a0 (strOfNums y255) bt261.1 bt268.1 bt275.1 t279 t280 true)) else (if ((bt268.2 == 0) != t280) = true then (ambrylaw10_HeadBytes.j0 k a0 (strOfNums y255) bt261.1 bt268.1 bt275.1 t279 t280 true) else (ambrylaw10_HeadBytes.j0 k a0 (strOfNums y255) bt261.1 bt268.1 bt275.1 t279 t280 ((bt275.2 == 0) != t280)))))))) else (none)) else (none)) else (none))) else (none)) else (none))) else (none)) else (none))) else (some false)) = some r := H
  have A2 := Aside0.mk A20
  clear A20
  by_cases c3 : t254 = true
  · subst c3
    have H1 : ((some (([a0] : List Int) : List Int)).bind fun y255 => (if 1 + (strOfNums y255).size ≤ 9223372036854775807 then (if ((⟨#[120]⟩ : ByteArray) ++ (strOfNums y255)).size + 4 ≤ 9223372036854775807 then ((head_Parse.f k (([((⟨#[120]⟩ : ByteArray) ++ (strOfNums y255)) ++ (⟨#[121, 58, 32, 118]⟩ : ByteArray)] : List ByteArray))).bind fun bt261 => (if 4 + (strOfNums y255).size ≤ 9223372036854775807 then (if ((⟨#[120, 58, 32, 118]⟩ : ByteArray) ++ (strOfNums y255)).size + 1 ≤ 9223372036854775807 then ((head_Parse.f k (([((⟨#[120, 58, 32, 118]⟩ : ByteArray) ++ (strOfNums y255)) ++ (⟨#[119]⟩ : ByteArray)] : List ByteArray))).bind fun bt268 => (if 2 + (strOfNums y255).size ≤ 9223372036854775807 then (if ((⟨#[120, 58]⟩ : ByteArray) ++ (strOfNums y255)).size + 1 ≤ 9223372036854775807 then (if (((⟨#[120, 58]⟩ : ByteArray) ++ (strOfNums y255)) ++ (⟨#[118]⟩ : ByteArray)).size + (strOfNums y255).size ≤ 9223372036854775807 then ((head_Parse.f k (([(((⟨#[120, 58]⟩ : ByteArray) ++ (strOfNums y255)) ++ (⟨#[118]⟩ : ByteArray)) ++ (strOfNums y255)] : List ByteArray))).bind fun bt275 => ((ambryref10_Token.f k (strOfNums y255)).bind fun t279 => ((ambryref10_Text.f k (strOfNums y255)).bind fun t280 => (if t279 = true then (if ((bt261.2 == 0) != true) = true then (if a0 = 58 then (if ((bt268.2 == 0) != t280) = true then (ambrylaw10_HeadBytes.j0 k a0 (strOfNums y255) bt261.1 bt268.1 bt275.1 t279 t280 true) else (ambrylaw10_HeadBytes.j0 k a0 (strOfNums y255) bt261.1 bt268.1 bt275.1 t279 t280 ((bt275.2 == 0) != t280))) else (ambrylaw10_HeadBytes.j0 k a0 (strOfNums y255) bt261.1 bt268.1 bt275.1 t279 t280 true)) else (if ((bt268.2 == 0) != t280) = true then (ambrylaw10_HeadBytes.j0 k a0 (strOfNums y255) bt261.1 bt268.1 bt275.1 t279 t280 true) else (ambrylaw10_HeadBytes.j0 k a0 (strOfNums y255) bt261.1 bt268.1 bt275.1 t279 t280 ((bt275.2 == 0) != t280)))) else (if ((bt261.2 == 0) != (a0 == 58)) = true then (if a0 = 58 then (if ((bt268.2 == 0) != t280) = true then (ambrylaw10_HeadBytes.j0 k a0 (strOfNums y255) bt261.1 bt268.1 bt275.1 t279 t280 true) else (ambrylaw10_HeadBytes.j0 k a0 (strOfNums y255) bt261.1 bt268.1 bt275.1 t279 t280 ((bt275.2 == 0) != t280))) else (ambrylaw10_HeadBytes.j0 k a0 (strOfNums y255) bt261.1 bt268.1 bt275.1 t279 t280 true)) else (if ((bt268.2 == 0) != t280) = true then (ambrylaw10_HeadBytes.j0 k a0 (strOfNums y255) bt261.1 bt268.1 bt275.1 t279 t280 true) else (ambrylaw10_HeadBytes.j0 k a0 (strOfNums y255) bt261.1 bt268.1 bt275.1 t279 t280 ((bt275.2 == 0) != t280)))))))) else (none)) else (none)) else (none))) else (none)) else (none))) else (none)) else (none))) = some r := by rw [if_pos rfl] at H; exact H
    clear H
    have H := H1
    clear H1
    obtain ⟨y255, hy255⟩ : ∃ y_ : List Int, y_ = (([a0] : List Int)) := ⟨_, rfl⟩
    replace H : (if 1 + (strOfNums y255).size ≤ 9223372036854775807 then (if ((⟨#[120]⟩ : ByteArray) ++ (strOfNums y255)).size + 4 ≤ 9223372036854775807 then ((head_Parse.f k (([((⟨#[120]⟩ : ByteArray) ++ (strOfNums y255)) ++ (⟨#[121, 58, 32, 118]⟩ : ByteArray)] : List ByteArray))).bind fun bt261 => (if 4 + (strOfNums y255).size ≤ 9223372036854775807 then (if ((⟨#[120, 58, 32, 118]⟩ : ByteArray) ++ (strOfNums y255)).size + 1 ≤ 9223372036854775807 then ((head_Parse.f k (([((⟨#[120, 58, 32, 118]⟩ : ByteArray) ++ (strOfNums y255)) ++ (⟨#[119]⟩ : ByteArray)] : List ByteArray))).bind fun bt268 => (if 2 + (strOfNums y255).size ≤ 9223372036854775807 then (if ((⟨#[120, 58]⟩ : ByteArray) ++ (strOfNums y255)).size + 1 ≤ 9223372036854775807 then (if (((⟨#[120, 58]⟩ : ByteArray) ++ (strOfNums y255)) ++ (⟨#[118]⟩ : ByteArray)).size + (strOfNums y255).size ≤ 9223372036854775807 then ((head_Parse.f k (([(((⟨#[120, 58]⟩ : ByteArray) ++ (strOfNums y255)) ++ (⟨#[118]⟩ : ByteArray)) ++ (strOfNums y255)] : List ByteArray))).bind fun bt275 => ((ambryref10_Token.f k (strOfNums y255)).bind fun t279 => ((ambryref10_Text.f k (strOfNums y255)).bind fun t280 => (if t279 = true then (if ((bt261.2 == 0) != true) = true then (if a0 = 58 then (if ((bt268.2 == 0) != t280) = true then (ambrylaw10_HeadBytes.j0 k a0 (strOfNums y255) bt261.1 bt268.1 bt275.1 t279 t280 true) else (ambrylaw10_HeadBytes.j0 k a0 (strOfNums y255) bt261.1 bt268.1 bt275.1 t279 t280 ((bt275.2 == 0) != t280))) else (ambrylaw10_HeadBytes.j0 k a0 (strOfNums y255) bt261.1 bt268.1 bt275.1 t279 t280 true)) else (if ((bt268.2 == 0) != t280) = true then (ambrylaw10_HeadBytes.j0 k a0 (strOfNums y255) bt261.1 bt268.1 bt275.1 t279 t280 true) else (ambrylaw10_HeadBytes.j0 k a0 (strOfNums y255) bt261.1 bt268.1 bt275.1 t279 t280 ((bt275.2 == 0) != t280)))) else (if ((bt261.2 == 0) != (a0 == 58)) = true then (if a0 = 58 then (if ((bt268.2 == 0) != t280) = true then (ambrylaw10_HeadBytes.j0 k a0 (strOfNums y255) bt261.1 bt268.1 bt275.1 t279 t280 true) else (ambrylaw10_HeadBytes.j0 k a0 (strOfNums y255) bt261.1 bt268.1 bt275.1 t279 t280 ((bt275.2 == 0) != t280))) else (ambrylaw10_HeadBytes.j0 k a0 (strOfNums y255) bt261.1 bt268.1 bt275.1 t279 t280 true)) else (if ((bt268.2 == 0) != t280) = true then (ambrylaw10_HeadBytes.j0 k a0 (strOfNums y255) bt261.1 bt268.1 bt275.1 t279 t280 true) else (ambrylaw10_HeadBytes.j0 k a0 (strOfNums y255) bt261.1 bt268.1 bt275.1 t279 t280 ((bt275.2 == 0) != t280)))))))) else (none)) else (none)) else (none))) else (none)) else (none))) else (none)) else (none)) = some r := by first | (rw [hy255]; with_reducible exact H) | (have H2_ := (Option.bind_some _ _).symm.trans H; rw [hy255]; with_reducible exact H2_) | (have H2_ := (Option.bind_some _ _).symm.trans H; with_reducible exact H2_) | with_reducible exact H | (rw [hy255]; exact H) | exact H
    have Ny255 := Aside0.mk hy255
    clear hy255
    by_cases c4 : 1 + (strOfNums y255).size ≤ 9223372036854775807
    · rw [if_pos c4] at H
      have c4b0 := eq_true c4
      have c4b1 : decide (1 + (strOfNums y255).size ≤ 9223372036854775807) = true := decide_eq_true c4
      try have c4b2 : (9223372036854775807 < 1 + (strOfNums y255).size) = False := eq_false (Nat.not_lt.2 c4)
      by_cases c5 : ((⟨#[120]⟩ : ByteArray) ++ (strOfNums y255)).size + 4 ≤ 9223372036854775807
      · rw [if_pos c5] at H
        have c5b0 := eq_true c5
        have c5b1 : decide (((⟨#[120]⟩ : ByteArray) ++ (strOfNums y255)).size + 4 ≤ 9223372036854775807) = true := decide_eq_true c5
        try have c5b2 : (9223372036854775807 < ((⟨#[120]⟩ : ByteArray) ++ (strOfNums y255)).size + 4) = False := eq_false (Nat.not_lt.2 c5)
        try (have c5d := Nat.not_lt.2 c5; simp only [ByteArray.size_append, (show (⟨#[120]⟩ : ByteArray).size = 1 from rfl), Nat.reduceAdd] at c5d; replace c5d := eq_false c5d)
        obtain ⟨y258, hy258⟩ : ∃ y_ : List ByteArray, y_ = (([((⟨#[120]⟩ : ByteArray) ++ (strOfNums y255)) ++ (⟨#[121, 58, 32, 118]⟩ : ByteArray)] : List ByteArray)) := ⟨_, rfl⟩
        replace H : ((head_Parse.f k y258).bind fun bt261 => (if 4 + (strOfNums y255).size ≤ 9223372036854775807 then (if ((⟨#[120, 58, 32, 118]⟩ : ByteArray) ++ (strOfNums y255)).size + 1 ≤ 9223372036854775807 then ((head_Parse.f k (([((⟨#[120, 58, 32, 118]⟩ : ByteArray) ++ (strOfNums y255)) ++ (⟨#[119]⟩ : ByteArray)] : List ByteArray))).bind fun bt268 => (if 2 + (strOfNums y255).size ≤ 9223372036854775807 then (if ((⟨#[120, 58]⟩ : ByteArray) ++ (strOfNums y255)).size + 1 ≤ 9223372036854775807 then (if (((⟨#[120, 58]⟩ : ByteArray) ++ (strOfNums y255)) ++ (⟨#[118]⟩ : ByteArray)).size + (strOfNums y255).size ≤ 9223372036854775807 then ((head_Parse.f k (([(((⟨#[120, 58]⟩ : ByteArray) ++ (strOfNums y255)) ++ (⟨#[118]⟩ : ByteArray)) ++ (strOfNums y255)] : List ByteArray))).bind fun bt275 => ((ambryref10_Token.f k (strOfNums y255)).bind fun t279 => ((ambryref10_Text.f k (strOfNums y255)).bind fun t280 => (if t279 = true then (if ((bt261.2 == 0) != true) = true then (if a0 = 58 then (if ((bt268.2 == 0) != t280) = true then (ambrylaw10_HeadBytes.j0 k a0 (strOfNums y255) bt261.1 bt268.1 bt275.1 t279 t280 true) else (ambrylaw10_HeadBytes.j0 k a0 (strOfNums y255) bt261.1 bt268.1 bt275.1 t279 t280 ((bt275.2 == 0) != t280))) else (ambrylaw10_HeadBytes.j0 k a0 (strOfNums y255) bt261.1 bt268.1 bt275.1 t279 t280 true)) else (if ((bt268.2 == 0) != t280) = true then (ambrylaw10_HeadBytes.j0 k a0 (strOfNums y255) bt261.1 bt268.1 bt275.1 t279 t280 true) else (ambrylaw10_HeadBytes.j0 k a0 (strOfNums y255) bt261.1 bt268.1 bt275.1 t279 t280 ((bt275.2 == 0) != t280)))) else (if ((bt261.2 == 0) != (a0 == 58)) = true then (if a0 = 58 then (if ((bt268.2 == 0) != t280) = true then (ambrylaw10_HeadBytes.j0 k a0 (strOfNums y255) bt261.1 bt268.1 bt275.1 t279 t280 true) else (ambrylaw10_HeadBytes.j0 k a0 (strOfNums y255) bt261.1 bt268.1 bt275.1 t279 t280 ((bt275.2 == 0) != t280))) else (ambrylaw10_HeadBytes.j0 k a0 (strOfNums y255) bt261.1 bt268.1 bt275.1 t279 t280 true)) else (if ((bt268.2 == 0) != t280) = true then (ambrylaw10_HeadBytes.j0 k a0 (strOfNums y255) bt261.1 bt268.1 bt275.1 t279 t280 true) else (ambrylaw10_HeadBytes.j0 k a0 (strOfNums y255) bt261.1 bt268.1 bt275.1 t279 t280 ((bt275.2 == 0) != t280)))))))) else (none)) else (none)) else (none))) else (none)) else (none))) = some r := by first | (rw [hy258]; with_reducible exact H) | (have H2_ := (Option.bind_some _ _).symm.trans H; rw [hy258]; with_reducible exact H2_) | (have H2_ := (Option.bind_some _ _).symm.trans H; with_reducible exact H2_) | with_reducible exact H | (rw [hy258]; exact H) | exact H
        have Ny258 := Aside0.mk hy258
        clear hy258
        replace H := Option.bind_eq_some_iff.mp H
        obtain ⟨⟨t261, t262⟩, A60, H⟩ := H
        replace H : (if 4 + (strOfNums y255).size ≤ 9223372036854775807 then (if ((⟨#[120, 58, 32, 118]⟩ : ByteArray) ++ (strOfNums y255)).size + 1 ≤ 9223372036854775807 then ((head_Parse.f k (([((⟨#[120, 58, 32, 118]⟩ : ByteArray) ++ (strOfNums y255)) ++ (⟨#[119]⟩ : ByteArray)] : List ByteArray))).bind fun bt268 => (if 2 + (strOfNums y255).size ≤ 9223372036854775807 then (if ((⟨#[120, 58]⟩ : ByteArray) ++ (strOfNums y255)).size + 1 ≤ 9223372036854775807 then (if (((⟨#[120, 58]⟩ : ByteArray) ++ (strOfNums y255)) ++ (⟨#[118]⟩ : ByteArray)).size + (strOfNums y255).size ≤ 9223372036854775807 then ((head_Parse.f k (([(((⟨#[120, 58]⟩ : ByteArray) ++ (strOfNums y255)) ++ (⟨#[118]⟩ : ByteArray)) ++ (strOfNums y255)] : List ByteArray))).bind fun bt275 => ((ambryref10_Token.f k (strOfNums y255)).bind fun t279 => ((ambryref10_Text.f k (strOfNums y255)).bind fun t280 => (if t279 = true then (if ((t262 == 0) != true) = true then (if a0 = 58 then (if ((bt268.2 == 0) != t280) = true then (ambrylaw10_HeadBytes.j0 k a0 (strOfNums y255) t261 bt268.1 bt275.1 t279 t280 true) else (ambrylaw10_HeadBytes.j0 k a0 (strOfNums y255) t261 bt268.1 bt275.1 t279 t280 ((bt275.2 == 0) != t280))) else (ambrylaw10_HeadBytes.j0 k a0 (strOfNums y255) t261 bt268.1 bt275.1 t279 t280 true)) else (if ((bt268.2 == 0) != t280) = true then (ambrylaw10_HeadBytes.j0 k a0 (strOfNums y255) t261 bt268.1 bt275.1 t279 t280 true) else (ambrylaw10_HeadBytes.j0 k a0 (strOfNums y255) t261 bt268.1 bt275.1 t279 t280 ((bt275.2 == 0) != t280)))) else (if ((t262 == 0) != (a0 == 58)) = true then (if a0 = 58 then (if ((bt268.2 == 0) != t280) = true then (ambrylaw10_HeadBytes.j0 k a0 (strOfNums y255) t261 bt268.1 bt275.1 t279 t280 true) else (ambrylaw10_HeadBytes.j0 k a0 (strOfNums y255) t261 bt268.1 bt275.1 t279 t280 ((bt275.2 == 0) != t280))) else (ambrylaw10_HeadBytes.j0 k a0 (strOfNums y255) t261 bt268.1 bt275.1 t279 t280 true)) else (if ((bt268.2 == 0) != t280) = true then (ambrylaw10_HeadBytes.j0 k a0 (strOfNums y255) t261 bt268.1 bt275.1 t279 t280 true) else (ambrylaw10_HeadBytes.j0 k a0 (strOfNums y255) t261 bt268.1 bt275.1 t279 t280 ((bt275.2 == 0) != t280)))))))) else (none)) else (none)) else (none))) else (none)) else (none)) = some r := H
        have A6 := Aside0.mk A60
        clear A60
        by_cases c7 : 4 + (strOfNums y255).size ≤ 9223372036854775807
        · rw [if_pos c7] at H
          have c7b0 := eq_true c7
          have c7b1 : decide (4 + (strOfNums y255).size ≤ 9223372036854775807) = true := decide_eq_true c7
          try have c7b2 : (9223372036854775807 < 4 + (strOfNums y255).size) = False := eq_false (Nat.not_lt.2 c7)
          by_cases c8 : ((⟨#[120, 58, 32, 118]⟩ : ByteArray) ++ (strOfNums y255)).size + 1 ≤ 9223372036854775807
          · rw [if_pos c8] at H
            have c8b0 := eq_true c8
            have c8b1 : decide (((⟨#[120, 58, 32, 118]⟩ : ByteArray) ++ (strOfNums y255)).size + 1 ≤ 9223372036854775807) = true := decide_eq_true c8
            try have c8b2 : (9223372036854775807 < ((⟨#[120, 58, 32, 118]⟩ : ByteArray) ++ (strOfNums y255)).size + 1) = False := eq_false (Nat.not_lt.2 c8)
            try (have c8d := Nat.not_lt.2 c8; simp only [ByteArray.size_append, (show (⟨#[120, 58, 32, 118]⟩ : ByteArray).size = 4 from rfl), Nat.reduceAdd] at c8d; replace c8d := eq_false c8d)
            obtain ⟨y265, hy265⟩ : ∃ y_ : List ByteArray, y_ = (([((⟨#[120, 58, 32, 118]⟩ : ByteArray) ++ (strOfNums y255)) ++ (⟨#[119]⟩ : ByteArray)] : List ByteArray)) := ⟨_, rfl⟩
            replace H : ((head_Parse.f k y265).bind fun bt268 => (if 2 + (strOfNums y255).size ≤ 9223372036854775807 then (if ((⟨#[120, 58]⟩ : ByteArray) ++ (strOfNums y255)).size + 1 ≤ 9223372036854775807 then (if (((⟨#[120, 58]⟩ : ByteArray) ++ (strOfNums y255)) ++ (⟨#[118]⟩ : ByteArray)).size + (strOfNums y255).size ≤ 9223372036854775807 then ((head_Parse.f k (([(((⟨#[120, 58]⟩ : ByteArray) ++ (strOfNums y255)) ++ (⟨#[118]⟩ : ByteArray)) ++ (strOfNums y255)] : List ByteArray))).bind fun bt275 => ((ambryref10_Token.f k (strOfNums y255)).bind fun t279 => ((ambryref10_Text.f k (strOfNums y255)).bind fun t280 => (if t279 = true then (if ((t262 == 0) != true) = true then (if a0 = 58 then (if ((bt268.2 == 0) != t280) = true then (ambrylaw10_HeadBytes.j0 k a0 (strOfNums y255) t261 bt268.1 bt275.1 t279 t280 true) else (ambrylaw10_HeadBytes.j0 k a0 (strOfNums y255) t261 bt268.1 bt275.1 t279 t280 ((bt275.2 == 0) != t280))) else (ambrylaw10_HeadBytes.j0 k a0 (strOfNums y255) t261 bt268.1 bt275.1 t279 t280 true)) else (if ((bt268.2 == 0) != t280) = true then (ambrylaw10_HeadBytes.j0 k a0 (strOfNums y255) t261 bt268.1 bt275.1 t279 t280 true) else (ambrylaw10_HeadBytes.j0 k a0 (strOfNums y255) t261 bt268.1 bt275.1 t279 t280 ((bt275.2 == 0) != t280)))) else (if ((t262 == 0) != (a0 == 58)) = true then (if a0 = 58 then (if ((bt268.2 == 0) != t280) = true then (ambrylaw10_HeadBytes.j0 k a0 (strOfNums y255) t261 bt268.1 bt275.1 t279 t280 true) else (ambrylaw10_HeadBytes.j0 k a0 (strOfNums y255) t261 bt268.1 bt275.1 t279 t280 ((bt275.2 == 0) != t280))) else (ambrylaw10_HeadBytes.j0 k a0 (strOfNums y255) t261 bt268.1 bt275.1 t279 t280 true)) else (if ((bt268.2 == 0) != t280) = true then (ambrylaw10_HeadBytes.j0 k a0 (strOfNums y255) t261 bt268.1 bt275.1 t279 t280 true) else (ambrylaw10_HeadBytes.j0 k a0 (strOfNums y255) t261 bt268.1 bt275.1 t279 t280 ((bt275.2 == 0) != t280)))))))) else (none)) else (none)) else (none))) = some r := by first | (rw [hy265]; with_reducible exact H) | (have H2_ := (Option.bind_some _ _).symm.trans H; rw [hy265]; with_reducible exact H2_) | (have H2_ := (Option.bind_some _ _).symm.trans H; with_reducible exact H2_) | with_reducible exact H | (rw [hy265]; exact H) | exact H
            have Ny265 := Aside0.mk hy265
            clear hy265
            replace H := Option.bind_eq_some_iff.mp H
            obtain ⟨⟨t268, t269⟩, A90, H⟩ := H
            replace H : (if 2 + (strOfNums y255).size ≤ 9223372036854775807 then (if ((⟨#[120, 58]⟩ : ByteArray) ++ (strOfNums y255)).size + 1 ≤ 9223372036854775807 then (if (((⟨#[120, 58]⟩ : ByteArray) ++ (strOfNums y255)) ++ (⟨#[118]⟩ : ByteArray)).size + (strOfNums y255).size ≤ 9223372036854775807 then ((head_Parse.f k (([(((⟨#[120, 58]⟩ : ByteArray) ++ (strOfNums y255)) ++ (⟨#[118]⟩ : ByteArray)) ++ (strOfNums y255)] : List ByteArray))).bind fun bt275 => ((ambryref10_Token.f k (strOfNums y255)).bind fun t279 => ((ambryref10_Text.f k (strOfNums y255)).bind fun t280 => (if t279 = true then (if ((t262 == 0) != true) = true then (if a0 = 58 then (if ((t269 == 0) != t280) = true then (ambrylaw10_HeadBytes.j0 k a0 (strOfNums y255) t261 t268 bt275.1 t279 t280 true) else (ambrylaw10_HeadBytes.j0 k a0 (strOfNums y255) t261 t268 bt275.1 t279 t280 ((bt275.2 == 0) != t280))) else (ambrylaw10_HeadBytes.j0 k a0 (strOfNums y255) t261 t268 bt275.1 t279 t280 true)) else (if ((t269 == 0) != t280) = true then (ambrylaw10_HeadBytes.j0 k a0 (strOfNums y255) t261 t268 bt275.1 t279 t280 true) else (ambrylaw10_HeadBytes.j0 k a0 (strOfNums y255) t261 t268 bt275.1 t279 t280 ((bt275.2 == 0) != t280)))) else (if ((t262 == 0) != (a0 == 58)) = true then (if a0 = 58 then (if ((t269 == 0) != t280) = true then (ambrylaw10_HeadBytes.j0 k a0 (strOfNums y255) t261 t268 bt275.1 t279 t280 true) else (ambrylaw10_HeadBytes.j0 k a0 (strOfNums y255) t261 t268 bt275.1 t279 t280 ((bt275.2 == 0) != t280))) else (ambrylaw10_HeadBytes.j0 k a0 (strOfNums y255) t261 t268 bt275.1 t279 t280 true)) else (if ((t269 == 0) != t280) = true then (ambrylaw10_HeadBytes.j0 k a0 (strOfNums y255) t261 t268 bt275.1 t279 t280 true) else (ambrylaw10_HeadBytes.j0 k a0 (strOfNums y255) t261 t268 bt275.1 t279 t280 ((bt275.2 == 0) != t280)))))))) else (none)) else (none)) else (none)) = some r := H
            have A9 := Aside0.mk A90
            clear A90
            by_cases c10 : 2 + (strOfNums y255).size ≤ 9223372036854775807
            · rw [if_pos c10] at H
              have c10b0 := eq_true c10
              have c10b1 : decide (2 + (strOfNums y255).size ≤ 9223372036854775807) = true := decide_eq_true c10
              try have c10b2 : (9223372036854775807 < 2 + (strOfNums y255).size) = False := eq_false (Nat.not_lt.2 c10)
              by_cases c11 : ((⟨#[120, 58]⟩ : ByteArray) ++ (strOfNums y255)).size + 1 ≤ 9223372036854775807
              · rw [if_pos c11] at H
                have c11b0 := eq_true c11
                have c11b1 : decide (((⟨#[120, 58]⟩ : ByteArray) ++ (strOfNums y255)).size + 1 ≤ 9223372036854775807) = true := decide_eq_true c11
                try have c11b2 : (9223372036854775807 < ((⟨#[120, 58]⟩ : ByteArray) ++ (strOfNums y255)).size + 1) = False := eq_false (Nat.not_lt.2 c11)
                try (have c11d := Nat.not_lt.2 c11; simp only [ByteArray.size_append, (show (⟨#[120, 58]⟩ : ByteArray).size = 2 from rfl), Nat.reduceAdd] at c11d; replace c11d := eq_false c11d)
                by_cases c12 : (((⟨#[120, 58]⟩ : ByteArray) ++ (strOfNums y255)) ++ (⟨#[118]⟩ : ByteArray)).size + (strOfNums y255).size ≤ 9223372036854775807
                · rw [if_pos c12] at H
                  have c12b0 := eq_true c12
                  have c12b1 : decide ((((⟨#[120, 58]⟩ : ByteArray) ++ (strOfNums y255)) ++ (⟨#[118]⟩ : ByteArray)).size + (strOfNums y255).size ≤ 9223372036854775807) = true := decide_eq_true c12
                  try have c12b2 : (9223372036854775807 < (((⟨#[120, 58]⟩ : ByteArray) ++ (strOfNums y255)) ++ (⟨#[118]⟩ : ByteArray)).size + (strOfNums y255).size) = False := eq_false (Nat.not_lt.2 c12)
                  try (have c12d := Nat.not_lt.2 c12; simp only [ByteArray.size_append, (show (⟨#[120, 58]⟩ : ByteArray).size = 2 from rfl), (show (⟨#[118]⟩ : ByteArray).size = 1 from rfl), Nat.reduceAdd] at c12d; replace c12d := eq_false c12d)
                  obtain ⟨y272, hy272⟩ : ∃ y_ : List ByteArray, y_ = (([(((⟨#[120, 58]⟩ : ByteArray) ++ (strOfNums y255)) ++ (⟨#[118]⟩ : ByteArray)) ++ (strOfNums y255)] : List ByteArray)) := ⟨_, rfl⟩
                  replace H : ((head_Parse.f k y272).bind fun bt275 => ((ambryref10_Token.f k (strOfNums y255)).bind fun t279 => ((ambryref10_Text.f k (strOfNums y255)).bind fun t280 => (if t279 = true then (if ((t262 == 0) != true) = true then (if a0 = 58 then (if ((t269 == 0) != t280) = true then (ambrylaw10_HeadBytes.j0 k a0 (strOfNums y255) t261 t268 bt275.1 t279 t280 true) else (ambrylaw10_HeadBytes.j0 k a0 (strOfNums y255) t261 t268 bt275.1 t279 t280 ((bt275.2 == 0) != t280))) else (ambrylaw10_HeadBytes.j0 k a0 (strOfNums y255) t261 t268 bt275.1 t279 t280 true)) else (if ((t269 == 0) != t280) = true then (ambrylaw10_HeadBytes.j0 k a0 (strOfNums y255) t261 t268 bt275.1 t279 t280 true) else (ambrylaw10_HeadBytes.j0 k a0 (strOfNums y255) t261 t268 bt275.1 t279 t280 ((bt275.2 == 0) != t280)))) else (if ((t262 == 0) != (a0 == 58)) = true then (if a0 = 58 then (if ((t269 == 0) != t280) = true then (ambrylaw10_HeadBytes.j0 k a0 (strOfNums y255) t261 t268 bt275.1 t279 t280 true) else (ambrylaw10_HeadBytes.j0 k a0 (strOfNums y255) t261 t268 bt275.1 t279 t280 ((bt275.2 == 0) != t280))) else (ambrylaw10_HeadBytes.j0 k a0 (strOfNums y255) t261 t268 bt275.1 t279 t280 true)) else (if ((t269 == 0) != t280) = true then (ambrylaw10_HeadBytes.j0 k a0 (strOfNums y255) t261 t268 bt275.1 t279 t280 true) else (ambrylaw10_HeadBytes.j0 k a0 (strOfNums y255) t261 t268 bt275.1 t279 t280 ((bt275.2 == 0) != t280)))))))) = some r := by first | (rw [hy272]; with_reducible exact H) | (have H2_ := (Option.bind_some _ _).symm.trans H; rw [hy272]; with_reducible exact H2_) | (have H2_ := (Option.bind_some _ _).symm.trans H; with_reducible exact H2_) | with_reducible exact H | (rw [hy272]; exact H) | exact H
                  have Ny272 := Aside0.mk hy272
                  clear hy272
                  replace H := Option.bind_eq_some_iff.mp H
                  obtain ⟨⟨t275, t276⟩, A130, H⟩ := H
                  replace H : ((ambryref10_Token.f k (strOfNums y255)).bind fun t279 => ((ambryref10_Text.f k (strOfNums y255)).bind fun t280 => (if t279 = true then (if ((t262 == 0) != true) = true then (if a0 = 58 then (if ((t269 == 0) != t280) = true then (ambrylaw10_HeadBytes.j0 k a0 (strOfNums y255) t261 t268 t275 t279 t280 true) else (ambrylaw10_HeadBytes.j0 k a0 (strOfNums y255) t261 t268 t275 t279 t280 ((t276 == 0) != t280))) else (ambrylaw10_HeadBytes.j0 k a0 (strOfNums y255) t261 t268 t275 t279 t280 true)) else (if ((t269 == 0) != t280) = true then (ambrylaw10_HeadBytes.j0 k a0 (strOfNums y255) t261 t268 t275 t279 t280 true) else (ambrylaw10_HeadBytes.j0 k a0 (strOfNums y255) t261 t268 t275 t279 t280 ((t276 == 0) != t280)))) else (if ((t262 == 0) != (a0 == 58)) = true then (if a0 = 58 then (if ((t269 == 0) != t280) = true then (ambrylaw10_HeadBytes.j0 k a0 (strOfNums y255) t261 t268 t275 t279 t280 true) else (ambrylaw10_HeadBytes.j0 k a0 (strOfNums y255) t261 t268 t275 t279 t280 ((t276 == 0) != t280))) else (ambrylaw10_HeadBytes.j0 k a0 (strOfNums y255) t261 t268 t275 t279 t280 true)) else (if ((t269 == 0) != t280) = true then (ambrylaw10_HeadBytes.j0 k a0 (strOfNums y255) t261 t268 t275 t279 t280 true) else (ambrylaw10_HeadBytes.j0 k a0 (strOfNums y255) t261 t268 t275 t279 t280 ((t276 == 0) != t280))))))) = some r := H
                  have A13 := Aside0.mk A130
                  clear A130
                  replace H := Option.bind_eq_some_iff.mp H
                  obtain ⟨t279, A140, H⟩ := H
                  replace H : ((ambryref10_Text.f k (strOfNums y255)).bind fun t280 => (if t279 = true then (if ((t262 == 0) != true) = true then (if a0 = 58 then (if ((t269 == 0) != t280) = true then (ambrylaw10_HeadBytes.j0 k a0 (strOfNums y255) t261 t268 t275 t279 t280 true) else (ambrylaw10_HeadBytes.j0 k a0 (strOfNums y255) t261 t268 t275 t279 t280 ((t276 == 0) != t280))) else (ambrylaw10_HeadBytes.j0 k a0 (strOfNums y255) t261 t268 t275 t279 t280 true)) else (if ((t269 == 0) != t280) = true then (ambrylaw10_HeadBytes.j0 k a0 (strOfNums y255) t261 t268 t275 t279 t280 true) else (ambrylaw10_HeadBytes.j0 k a0 (strOfNums y255) t261 t268 t275 t279 t280 ((t276 == 0) != t280)))) else (if ((t262 == 0) != (a0 == 58)) = true then (if a0 = 58 then (if ((t269 == 0) != t280) = true then (ambrylaw10_HeadBytes.j0 k a0 (strOfNums y255) t261 t268 t275 t279 t280 true) else (ambrylaw10_HeadBytes.j0 k a0 (strOfNums y255) t261 t268 t275 t279 t280 ((t276 == 0) != t280))) else (ambrylaw10_HeadBytes.j0 k a0 (strOfNums y255) t261 t268 t275 t279 t280 true)) else (if ((t269 == 0) != t280) = true then (ambrylaw10_HeadBytes.j0 k a0 (strOfNums y255) t261 t268 t275 t279 t280 true) else (ambrylaw10_HeadBytes.j0 k a0 (strOfNums y255) t261 t268 t275 t279 t280 ((t276 == 0) != t280)))))) = some r := H
                  have A14 := Aside0.mk A140
                  clear A140
                  replace H := Option.bind_eq_some_iff.mp H
                  obtain ⟨t280, A150, H⟩ := H
                  replace H : (if t279 = true then (if ((t262 == 0) != true) = true then (if a0 = 58 then (if ((t269 == 0) != t280) = true then (ambrylaw10_HeadBytes.j0 k a0 (strOfNums y255) t261 t268 t275 t279 t280 true) else (ambrylaw10_HeadBytes.j0 k a0 (strOfNums y255) t261 t268 t275 t279 t280 ((t276 == 0) != t280))) else (ambrylaw10_HeadBytes.j0 k a0 (strOfNums y255) t261 t268 t275 t279 t280 true)) else (if ((t269 == 0) != t280) = true then (ambrylaw10_HeadBytes.j0 k a0 (strOfNums y255) t261 t268 t275 t279 t280 true) else (ambrylaw10_HeadBytes.j0 k a0 (strOfNums y255) t261 t268 t275 t279 t280 ((t276 == 0) != t280)))) else (if ((t262 == 0) != (a0 == 58)) = true then (if a0 = 58 then (if ((t269 == 0) != t280) = true then (ambrylaw10_HeadBytes.j0 k a0 (strOfNums y255) t261 t268 t275 t279 t280 true) else (ambrylaw10_HeadBytes.j0 k a0 (strOfNums y255) t261 t268 t275 t279 t280 ((t276 == 0) != t280))) else (ambrylaw10_HeadBytes.j0 k a0 (strOfNums y255) t261 t268 t275 t279 t280 true)) else (if ((t269 == 0) != t280) = true then (ambrylaw10_HeadBytes.j0 k a0 (strOfNums y255) t261 t268 t275 t279 t280 true) else (ambrylaw10_HeadBytes.j0 k a0 (strOfNums y255) t261 t268 t275 t279 t280 ((t276 == 0) != t280))))) = some r := H
                  have A15 := Aside0.mk A150
                  clear A150
                  have HC16 := Aside0.mk H
                  clear H
                  go_enter Try.func7, Try.ntmps7
                  go_upto_region 9 with (first | ((with_reducible refine gate_callee (f := 11) rfl ?_); refine goesL_ (some 12) rfl rfl Try.func11 (by kernel_rfl) rfl #[] rfl (by (try simp only [List.map_toArray, List.map_cons, List.map_nil]); first | done | rfl | (simp only [List.length_drop, List.length_take]; rfl)) ?_; (with_reducible refine (ambrylaw10_known.calls k  true _ A2.out).mono ?_); rintro e w17 ⟨rfl, hb⟩; refine ⟨_, rfl, ?_⟩; have n0_ := Aside0.mk (below_step (by repeat (first | (with_reducible first | exact HB.out | apply below_alloc | apply pw_below_drewN | apply below_drew1) | exact HB.out)) hb); clear HB; have HB := n0_; clear n0_; (try clear hb); (try clear hb2); (try clear hk); (try clear hi)) | ((with_reducible refine gate_dst (N := 15) rfl ?_); (try (refine gate_guard (by rfl) ?_; dsimp only)); refine Kd.R_lit (Kd.int .u8) _ 5 ?hg (N := 15) ?hd (xs := ([a0] : List Int)) (inner := [.int .u8 a0]) (ok := fun _ => True) (okp := fun _ => True) ?hr ?hp (fun _ hk => hk) trivial (Below.refl _ _) (Nat.le_refl _) (by simp) ?_; (case hd => rfl); (case hg => rfl); (case hr => first | (go_simp; done) | (go_simp; rfl)); (case hp => exact (Reps.one (show Kd.M (Kd.int .u8) _ _ _ a0 [.int .u8 a0] from rfl) (Reps.none _ _))); intro v256 w18 ho19 hb hg_ hnew_; clear hg_ hnew_; (first | rw [← Ny255.out] at ho19 | (simp only [Int.reduceToNat] at ho19; rw [← Ny255.out] at ho19)); have n0_ := Aside0.mk (Kd.R_lower ho19 (below_size (by repeat (first | (with_reducible first | exact HB.out | apply below_alloc | apply pw_below_drewN | apply below_drew1) | exact HB.out)))); have n1_ := Aside0.mk (below_step (by repeat (first | (with_reducible first | exact HB.out | apply below_alloc | apply pw_below_drewN | apply below_drew1) | exact HB.out)) hb); clear HB; have HO257 := n0_; have HB := n1_; clear n0_ n1_; clear hb ho19; have hcv20 := own_string (P := Try.prog) Try.underlying41 Try.underlying5 Try.underlying9 (Kd.own_of_R HO257.out)) | ((with_reducible refine gate_dst (N := 21) rfl ?_); (try (refine gate_guard (by rfl) ?_; dsimp only)); refine Kd.R_lit Kd.string _ 9 ?hg (N := 21) ?hd (xs := ([((⟨#[120]⟩ : ByteArray) ++ (strOfNums y255)) ++ (⟨#[121, 58, 32, 118]⟩ : ByteArray)] : List ByteArray)) (inner := [.string (((⟨#[120]⟩ : ByteArray) ++ (strOfNums y255)) ++ (⟨#[121, 58, 32, 118]⟩ : ByteArray))]) (ok := fun _ => True) (okp := fun _ => True) ?hr ?hp (fun _ hk => hk) trivial (Below.refl _ _) (Nat.le_refl _) (by simp) ?_; (case hd => rfl); (case hg => rfl); (case hr => first | (go_simp; done) | (go_simp; rfl)); (case hp => exact (Reps.one (show Kd.M Kd.string _ _ _ (((⟨#[120]⟩ : ByteArray) ++ (strOfNums y255)) ++ (⟨#[121, 58, 32, 118]⟩ : ByteArray)) [.string (((⟨#[120]⟩ : ByteArray) ++ (strOfNums y255)) ++ (⟨#[121, 58, 32, 118]⟩ : ByteArray))] from rfl) (Reps.none _ _))); intro v259 w21 ho22 hb hg_ hnew_; clear hg_ hnew_; (first | rw [← Ny258.out] at ho22 | (simp only [Int.reduceToNat] at ho22; rw [← Ny258.out] at ho22)); have n0_ := Aside0.mk (Kd.R_below (by (with_reducible repeat (first | apply Kd.R_alloc | apply Kd.R_drewN | apply Kd.R_drew)); exact HO257.out) hb); have n1_ := Aside0.mk (Kd.R_lower ho22 (below_size (by repeat (first | (with_reducible first | exact HB.out | apply below_alloc | apply pw_below_drewN | apply below_drew1) | exact HB.out)))); have n2_ := Aside0.mk (below_step (by repeat (first | (with_reducible first | exact HB.out | apply below_alloc | apply pw_below_drewN | apply below_drew1) | exact HB.out)) hb); clear HO257; clear HB; have HO257 := n0_; have HO260 := n1_; have HB := n2_; clear n0_ n1_ n2_; clear hb ho22; obtain ⟨Ao23, co23, eo23⟩ := Kd.R_slice HO260.out; subst eo23) | ((with_reducible refine gate_callee (f := 13) rfl ?_); refine goesL_ (some 22) rfl rfl Try.func13 (by kernel_rfl) rfl #[.slice Ao23 y258.length co23] rfl (by (try simp only [List.map_toArray, List.map_cons, List.map_nil]); first | done | rfl | (simp only [List.length_drop, List.length_take]; rfl)) ?_; (with_reducible refine (head_Parse.calls k _ _ y258 t261 t262 _ ?side1 ?side2 A6.out).mono ?_); (case side1 => repeat (first | exact (Kd.R_reads' HO260.out).2.2 | (with_reducible refine Kd.C_alloc ?_ _) | (with_reducible refine Kd.C_drewN ?_ _) | (with_reducible refine Kd.C_drew ?_))); (case side2 => exact (Kd.R_reads' HO260.out).2.1); rintro e w24 ⟨v263, rfl, ho0, hb⟩; refine ⟨_, rfl, ?_⟩; have n0_ := Aside0.mk (Kd.R_below (by (with_reducible repeat (first | apply Kd.R_alloc | apply Kd.R_drewN | apply Kd.R_drew)); exact HO257.out) hb); have n1_ := Aside0.mk (Kd.R_below (by (with_reducible repeat (first | apply Kd.R_alloc | apply Kd.R_drewN | apply Kd.R_drew)); exact HO260.out) hb); have n2_ := Aside0.mk (Kd.R_lower ho0 (below_size (by repeat (first | (with_reducible first | exact HB.out | apply below_alloc | apply pw_below_drewN | apply below_drew1) | exact HB.out)))); have n3_ := Aside0.mk (below_step (by repeat (first | (with_reducible first | exact HB.out | apply below_alloc | apply pw_below_drewN | apply below_drew1) | exact HB.out)) hb); clear HO257; clear HO260; clear HB; have HO257 := n0_; have HO260 := n1_; have HO264 := n2_; have HB := n3_; clear n0_ n1_ n2_ n3_; (try clear hb); (try clear hb2); (try clear hk); (try clear hi); (try clear ho0)) | ((with_reducible refine gate_dst (N := 29) rfl ?_); (try (refine gate_guard (by rfl) ?_; dsimp only)); refine Kd.R_lit Kd.string _ 9 ?hg (N := 29) ?hd (xs := ([((⟨#[120, 58, 32, 118]⟩ : ByteArray) ++ (strOfNums y255)) ++ (⟨#[119]⟩ : ByteArray)] : List ByteArray)) (inner := [.string (((⟨#[120, 58, 32, 118]⟩ : ByteArray) ++ (strOfNums y255)) ++ (⟨#[119]⟩ : ByteArray))]) (ok := fun _ => True) (okp := fun _ => True) ?hr ?hp (fun _ hk => hk) trivial (Below.refl _ _) (Nat.le_refl _) (by simp) ?_; (case hd => rfl); (case hg => rfl); (case hr => first | (go_simp; done) | (go_simp; rfl)); (case hp => exact (Reps.one (show Kd.M Kd.string _ _ _ (((⟨#[120, 58, 32, 118]⟩ : ByteArray) ++ (strOfNums y255)) ++ (⟨#[119]⟩ : ByteArray)) [.string (((⟨#[120, 58, 32, 118]⟩ : ByteArray) ++ (strOfNums y255)) ++ (⟨#[119]⟩ : ByteArray))] from rfl) (Reps.none _ _))); intro v266 w25 ho26 hb hg_ hnew_; clear hg_ hnew_; (first | rw [← Ny265.out] at ho26 | (simp only [Int.reduceToNat] at ho26; rw [← Ny265.out] at ho26)); have n0_ := Aside0.mk (Kd.R_below (by (with_reducible repeat (first | apply Kd.R_alloc | apply Kd.R_drewN | apply Kd.R_drew)); exact HO257.out) hb); have n1_ := Aside0.mk (Kd.R_elder' (by (with_reducible repeat (first | apply Kd.R_alloc | apply Kd.R_drewN | apply Kd.R_drew)); exact HO260.out) (Kd.R_base ho26) hb); have n2_ := Aside0.mk (Kd.R_below (by (with_reducible repeat (first | apply Kd.R_alloc | apply Kd.R_drewN | apply Kd.R_drew)); exact HO264.out) hb); have n3_ := Aside0.mk (Kd.R_lower (Kd.R_new' ho26 (Kd.R_lt (by (with_reducible repeat (first | apply Kd.R_alloc | apply Kd.R_drewN | apply Kd.R_drew)); exact HO260.out))) (below_size (by repeat (first | (with_reducible first | exact HB.out | apply below_alloc | apply pw_below_drewN | apply below_drew1) | exact HB.out)))); have n4_ := Aside0.mk (below_step (by repeat (first | (with_reducible first | exact HB.out | apply below_alloc | apply pw_below_drewN | apply below_drew1) | exact HB.out)) hb); clear HO257; clear HO260; clear HO264; clear HB; have HO257 := n0_; have HO260 := n1_; have HO264 := n2_; have HO267 := n3_; have HB := n4_; clear n0_ n1_ n2_ n3_ n4_; clear hb ho26; obtain ⟨Ao27, co27, eo27⟩ := Kd.R_slice HO267.out; subst eo27) | ((with_reducible refine gate_callee (f := 13) rfl ?_); refine goesL_ (some 30) rfl rfl Try.func13 (by kernel_rfl) rfl #[.slice Ao27 y265.length co27] rfl (by (try simp only [List.map_toArray, List.map_cons, List.map_nil]); first | done | rfl | (simp only [List.length_drop, List.length_take]; rfl)) ?_; (with_reducible refine (head_Parse.calls k _ _ y265 t268 t269 _ ?side1 ?side2 A9.out).mono ?_); (case side1 => repeat (first | exact (Kd.R_reads' HO267.out).2.2 | (with_reducible refine Kd.C_alloc ?_ _) | (with_reducible refine Kd.C_drewN ?_ _) | (with_reducible refine Kd.C_drew ?_))); (case side2 => exact (Kd.R_reads' HO267.out).2.1); rintro e w28 ⟨v270, rfl, ho0, hb⟩; refine ⟨_, rfl, ?_⟩; have n0_ := Aside0.mk (Kd.R_below (by (with_reducible repeat (first | apply Kd.R_alloc | apply Kd.R_drewN | apply Kd.R_drew)); exact HO257.out) hb); have n1_ := Aside0.mk (Kd.R_below (by (with_reducible repeat (first | apply Kd.R_alloc | apply Kd.R_drewN | apply Kd.R_drew)); exact HO260.out) hb); have n2_ := Aside0.mk (Kd.R_elder' (by (with_reducible repeat (first | apply Kd.R_alloc | apply Kd.R_drewN | apply Kd.R_drew)); exact HO264.out) (Kd.R_base ho0) hb); have n3_ := Aside0.mk (Kd.R_below (by (with_reducible repeat (first | apply Kd.R_alloc | apply Kd.R_drewN | apply Kd.R_drew)); exact HO267.out) hb); have n4_ := Aside0.mk (Kd.R_lower (Kd.R_new' ho0 (Kd.R_lt (by (with_reducible repeat (first | apply Kd.R_alloc | apply Kd.R_drewN | apply Kd.R_drew)); exact HO264.out))) (below_size (by repeat (first | (with_reducible first | exact HB.out | apply below_alloc | apply pw_below_drewN | apply below_drew1) | exact HB.out)))); have n5_ := Aside0.mk (below_step (by repeat (first | (with_reducible first | exact HB.out | apply below_alloc | apply pw_below_drewN | apply below_drew1) | exact HB.out)) hb); clear HO257; clear HO260; clear HO264; clear HO267; clear HB; have HO257 := n0_; have HO260 := n1_; have HO264 := n2_; have HO267 := n3_; have HO271 := n4_; have HB := n5_; clear n0_ n1_ n2_ n3_ n4_ n5_; (try clear hb); (try clear hb2); (try clear hk); (try clear hi); (try clear ho0)) | ((with_reducible refine gate_dst (N := 39) rfl ?_); (try (refine gate_guard (by rfl) ?_; dsimp only)); refine Kd.R_lit Kd.string _ 9 ?hg (N := 39) ?hd (xs := ([(((⟨#[120, 58]⟩ : ByteArray) ++ (strOfNums y255)) ++ (⟨#[118]⟩ : ByteArray)) ++ (strOfNums y255)] : List ByteArray)) (inner := [.string ((((⟨#[120, 58]⟩ : ByteArray) ++ (strOfNums y255)) ++ (⟨#[118]⟩ : ByteArray)) ++ (strOfNums y255))]) (ok := fun _ => True) (okp := fun _ => True) ?hr ?hp (fun _ hk => hk) trivial (Below.refl _ _) (Nat.le_refl _) (by simp) ?_; (case hd => rfl); (case hg => rfl); (case hr => first | (go_simp; done) | (go_simp; rfl)); (case hp => exact (Reps.one (show Kd.M Kd.string _ _ _ ((((⟨#[120, 58]⟩ : ByteArray) ++ (strOfNums y255)) ++ (⟨#[118]⟩ : ByteArray)) ++ (strOfNums y255)) [.string ((((⟨#[120, 58]⟩ : ByteArray) ++ (strOfNums y255)) ++ (⟨#[118]⟩ : ByteArray)) ++ (strOfNums y255))] from rfl) (Reps.none _ _))); intro v273 w29 ho30 hb hg_ hnew_; clear hg_ hnew_; (first | rw [← Ny272.out] at ho30 | (simp only [Int.reduceToNat] at ho30; rw [← Ny272.out] at ho30)); have n0_ := Aside0.mk (Kd.R_below (by (with_reducible repeat (first | apply Kd.R_alloc | apply Kd.R_drewN | apply Kd.R_drew)); exact HO257.out) hb); have n1_ := Aside0.mk (Kd.R_elder' (by (with_reducible repeat (first | apply Kd.R_alloc | apply Kd.R_drewN | apply Kd.R_drew)); exact HO260.out) (Kd.R_base ho30) hb); have n2_ := Aside0.mk (Kd.R_below (by (with_reducible repeat (first | apply Kd.R_alloc | apply Kd.R_drewN | apply Kd.R_drew)); exact HO264.out) hb); have n3_ := Aside0.mk (Kd.R_elder' (by (with_reducible repeat (first | apply Kd.R_alloc | apply Kd.R_drewN | apply Kd.R_drew)); exact HO267.out) (Kd.R_base ho30) hb); have n4_ := Aside0.mk (Kd.R_below (by (with_reducible repeat (first | apply Kd.R_alloc | apply Kd.R_drewN | apply Kd.R_drew)); exact HO271.out) hb); have n5_ := Aside0.mk (Kd.R_lower (Kd.R_new' (Kd.R_new' ho30 (Kd.R_lt (by (with_reducible repeat (first | apply Kd.R_alloc | apply Kd.R_drewN | apply Kd.R_drew)); exact HO260.out))) (Kd.R_lt (by (with_reducible repeat (first | apply Kd.R_alloc | apply Kd.R_drewN | apply Kd.R_drew)); exact HO267.out))) (below_size (by repeat (first | (with_reducible first | exact HB.out | apply below_alloc | apply pw_below_drewN | apply below_drew1) | exact HB.out)))); have n6_ := Aside0.mk (below_step (by repeat (first | (with_reducible first | exact HB.out | apply below_alloc | apply pw_below_drewN | apply below_drew1) | exact HB.out)) hb); clear HO257; clear HO260; clear HO264; clear HO267; clear HO271; clear HB; have HO257 := n0_; have HO260 := n1_; have HO264 := n2_; have HO267 := n3_; have HO271 := n4_; have HO274 := n5_; have HB := n6_; clear n0_ n1_ n2_ n3_ n4_ n5_ n6_; clear hb ho30; obtain ⟨Ao31, co31, eo31⟩ := Kd.R_slice HO274.out; subst eo31) | ((with_reducible refine gate_callee (f := 13) rfl ?_); refine goesL_ (some 40) rfl rfl Try.func13 (by kernel_rfl) rfl #[.slice Ao31 y272.length co31] rfl (by (try simp only [List.map_toArray, List.map_cons, List.map_nil]); first | done | rfl | (simp only [List.length_drop, List.length_take]; rfl)) ?_; (with_reducible refine (head_Parse.calls k _ _ y272 t275 t276 _ ?side1 ?side2 A13.out).mono ?_); (case side1 => repeat (first | exact (Kd.R_reads' HO274.out).2.2 | (with_reducible refine Kd.C_alloc ?_ _) | (with_reducible refine Kd.C_drewN ?_ _) | (with_reducible refine Kd.C_drew ?_))); (case side2 => exact (Kd.R_reads' HO274.out).2.1); rintro e w32 ⟨v277, rfl, ho0, hb⟩; refine ⟨_, rfl, ?_⟩; have n0_ := Aside0.mk (Kd.R_below (by (with_reducible repeat (first | apply Kd.R_alloc | apply Kd.R_drewN | apply Kd.R_drew)); exact HO257.out) hb); have n1_ := Aside0.mk (Kd.R_below (by (with_reducible repeat (first | apply Kd.R_alloc | apply Kd.R_drewN | apply Kd.R_drew)); exact HO260.out) hb); have n2_ := Aside0.mk (Kd.R_elder' (by (with_reducible repeat (first | apply Kd.R_alloc | apply Kd.R_drewN | apply Kd.R_drew)); exact HO264.out) (Kd.R_base ho0) hb); have n3_ := Aside0.mk (Kd.R_below (by (with_reducible repeat (first | apply Kd.R_alloc | apply Kd.R_drewN | apply Kd.R_drew)); exact HO267.out) hb); have n4_ := Aside0.mk (Kd.R_elder' (by (with_reducible repeat (first | apply Kd.R_alloc | apply Kd.R_drewN | apply Kd.R_drew)); exact HO271.out) (Kd.R_base ho0) hb); have n5_ := Aside0.mk (Kd.R_below (by (with_reducible repeat (first | apply Kd.R_alloc | apply Kd.R_drewN | apply Kd.R_drew)); exact HO274.out) hb); have n6_ := Aside0.mk (Kd.R_lower (Kd.R_new' (Kd.R_new' ho0 (Kd.R_lt (by (with_reducible repeat (first | apply Kd.R_alloc | apply Kd.R_drewN | apply Kd.R_drew)); exact HO264.out))) (Kd.R_lt (by (with_reducible repeat (first | apply Kd.R_alloc | apply Kd.R_drewN | apply Kd.R_drew)); exact HO271.out))) (below_size (by repeat (first | (with_reducible first | exact HB.out | apply below_alloc | apply pw_below_drewN | apply below_drew1) | exact HB.out)))); have n7_ := Aside0.mk (below_step (by repeat (first | (with_reducible first | exact HB.out | apply below_alloc | apply pw_below_drewN | apply below_drew1) | exact HB.out)) hb); clear HO257; clear HO260; clear HO264; clear HO267; clear HO271; clear HO274; clear HB; have HO257 := n0_; have HO260 := n1_; have HO264 := n2_; have HO267 := n3_; have HO271 := n4_; have HO274 := n5_; have HO278 := n6_; have HB := n7_; clear n0_ n1_ n2_ n3_ n4_ n5_ n6_ n7_; (try clear hb); (try clear hb2); (try clear hk); (try clear hi); (try clear ho0)) | ((with_reducible refine gate_callee (f := 17) rfl ?_); refine goesL_ (some 44) rfl rfl Try.func17 (by kernel_rfl) rfl #[.string (strOfNums y255)] rfl (by (try simp only [List.map_toArray, List.map_cons, List.map_nil]); first | done | rfl | (simp only [List.length_drop, List.length_take]; rfl)) ?_; (with_reducible refine (ambryref10_Token.calls k (strOfNums y255) t279 _ A14.out).mono ?_); rintro e w' ⟨rfl, ⟨nd, rfl⟩⟩; refine ⟨_, rfl, ?_⟩) | ((with_reducible refine gate_callee (f := 27) rfl ?_); refine goesL_ (some 46) rfl rfl Try.func27 (by kernel_rfl) rfl #[.string (strOfNums y255)] rfl (by (try simp only [List.map_toArray, List.map_cons, List.map_nil]); first | done | rfl | (simp only [List.length_drop, List.length_take]; rfl)) ?_; (with_reducible refine (ambryref10_Text.calls k (strOfNums y255) t280 _ A15.out).mono ?_); rintro e w' ⟨rfl, ⟨nd, rfl⟩⟩; refine ⟨_, rfl, ?_⟩))
                  (try simp only [Act.put, List.setIfInBounds_toArray, List.set_cons_zero, List.set_cons_succ])
                  go_cut [70] (fun v70 wc => ∃ (kq : Nat) (x70_15 : Bool), v70 = .bool x70_15 ∧ Aside0 (ambrylaw10_HeadBytes.j0 kq a0 (strOfNums y255) t261 t268 t275 t279 t280 x70_15 = some r) ∧ Aside0 (kq ≤ k) ∧ Aside0 (Kd.R k39 39 wc w.heap.size (fun k_ => some k_ ≠ (v270 : Value).ownBlock ∧ some k_ ≠ (v277 : Value).ownBlock) v263 t261) ∧ Aside0 (Kd.R k39 39 wc w.heap.size (fun k_ => some k_ ≠ (v263 : Value).ownBlock ∧ some k_ ≠ (v277 : Value).ownBlock) v270 t268) ∧ Aside0 (Kd.R k39 39 wc w.heap.size (fun k_ => some k_ ≠ (v263 : Value).ownBlock ∧ some k_ ≠ (v270 : Value).ownBlock) v277 t275) ∧ Aside0 (Below w.heap.size w wc))
                  case first =>
                    have H := HC16.out
                    clear HC16
                    by_cases c33 : t279 = true
                    · subst c33
                      have H1 : (if ((t262 == 0) != true) = true then (if a0 = 58 then (if ((t269 == 0) != t280) = true then (ambrylaw10_HeadBytes.j0 k a0 (strOfNums y255) t261 t268 t275 true t280 true) else (ambrylaw10_HeadBytes.j0 k a0 (strOfNums y255) t261 t268 t275 true t280 ((t276 == 0) != t280))) else (ambrylaw10_HeadBytes.j0 k a0 (strOfNums y255) t261 t268 t275 true t280 true)) else (if ((t269 == 0) != t280) = true then (ambrylaw10_HeadBytes.j0 k a0 (strOfNums y255) t261 t268 t275 true t280 true) else (ambrylaw10_HeadBytes.j0 k a0 (strOfNums y255) t261 t268 t275 true t280 ((t276 == 0) != t280)))) = some r := by rw [if_pos rfl] at H; exact H
                      clear H
                      have H := H1
                      clear H1
                      by_cases c34 : ((t262 == 0) != true) = true
                      · rw [if_pos c34] at H
                        have c34b0 : ((t262 == 0) != true) = true := c34
                        (try (have c34b1 : decide ((t262 == 0) = true) = false := by simpa using c34))
                        (try (have c34b2 : ((t262 == 0) == true) = false := by simpa using c34))
                        (try (have c34b3 : ¬ ((t262 == 0) = true) := by simpa using c34))
                        clear c34
                        (first | rw [c34b0] | (simp only [i64_w, i32_w]; rw [c34b0]) | skip)
                        by_cases c35 : a0 = 58
                        · rw [if_pos c35] at H
                          have c35b0 : (a0 == 58) = true := beq_iff_eq.mpr c35
                          have c35b1 : (a0 != 58) = false := bne_eq_false_iff_eq.mpr c35
                          clear c35
                          by_cases c36 : ((t269 == 0) != t280) = true
                          · rw [if_pos c36] at H
                            have c36b0 : ((t269 == 0) != t280) = true := c36
                            (try (have c36b1 : decide ((t269 == 0) = t280) = false := by simpa using c36))
                            (try (have c36b2 : ((t269 == 0) == t280) = false := by simpa using c36))
                            (try (have c36b3 : ¬ ((t269 == 0) = t280) := by simpa using c36))
                            clear c36
                            have H' := Aside0.mk H
                            clear H
                            go_wp2
                            go_meet
                            case rel => exact ⟨_, (true), (by first | rfl | (simp; done) | (simp [*]; done)), H', ⟨by first | omega | exact Nat.le_refl _⟩, ⟨by (with_reducible repeat (first | apply Kd.R_alloc | apply Kd.R_drewN | apply Kd.R_drew)); exact Kd.R_mono HO264.out (fun _ hk => ⟨hk.1.2, hk.2⟩)⟩, ⟨by (with_reducible repeat (first | apply Kd.R_alloc | apply Kd.R_drewN | apply Kd.R_drew)); exact Kd.R_mono HO271.out (fun _ hk => ⟨hk.1.2, hk.2⟩)⟩, ⟨by (with_reducible repeat (first | apply Kd.R_alloc | apply Kd.R_drewN | apply Kd.R_drew)); exact Kd.R_mono HO278.out (fun _ hk => ⟨hk.1.2, hk.2⟩)⟩, ⟨by repeat (first | (with_reducible first | exact HB.out | apply below_alloc | apply pw_below_drewN | apply below_drew1) | exact HB.out)⟩⟩
                          · rw [if_neg c36] at H
                            have c36b0 : ((t269 == 0) != t280) = false := by simpa using c36
                            (try (have c36b1 : decide ((t269 == 0) = t280) = true := by simpa using c36))
                            (try (have c36b2 : ((t269 == 0) == t280) = true := by simpa using c36))
                            clear c36
                            have H' := Aside0.mk H
                            clear H
                            go_wp2
                            go_meet
                            case rel => exact ⟨_, (((t276 == 0) != t280)), (by first | rfl | (simp; done) | (simp [*]; done)), H', ⟨by first | omega | exact Nat.le_refl _⟩, ⟨by (with_reducible repeat (first | apply Kd.R_alloc | apply Kd.R_drewN | apply Kd.R_drew)); exact Kd.R_mono HO264.out (fun _ hk => ⟨hk.1.2, hk.2⟩)⟩, ⟨by (with_reducible repeat (first | apply Kd.R_alloc | apply Kd.R_drewN | apply Kd.R_drew)); exact Kd.R_mono HO271.out (fun _ hk => ⟨hk.1.2, hk.2⟩)⟩, ⟨by (with_reducible repeat (first | apply Kd.R_alloc | apply Kd.R_drewN | apply Kd.R_drew)); exact Kd.R_mono HO278.out (fun _ hk => ⟨hk.1.2, hk.2⟩)⟩, ⟨by repeat (first | (with_reducible first | exact HB.out | apply below_alloc | apply pw_below_drewN | apply below_drew1) | exact HB.out)⟩⟩
                        · rw [if_neg c35] at H
                          have c35b0 : (a0 == 58) = false := beq_eq_false_iff_ne.mpr c35
                          have c35b1 : (a0 != 58) = true := bne_iff_ne.mpr c35
                          have H' := Aside0.mk H
                          clear H
                          go_wp2
                          go_meet
                          case rel => exact ⟨_, (true), (by first | rfl | (simp; done) | (simp [*]; done)), H', ⟨by first | omega | exact Nat.le_refl _⟩, ⟨by (with_reducible repeat (first | apply Kd.R_alloc | apply Kd.R_drewN | apply Kd.R_drew)); exact Kd.R_mono HO264.out (fun _ hk => ⟨hk.1.2, hk.2⟩)⟩, ⟨by (with_reducible repeat (first | apply Kd.R_alloc | apply Kd.R_drewN | apply Kd.R_drew)); exact Kd.R_mono HO271.out (fun _ hk => ⟨hk.1.2, hk.2⟩)⟩, ⟨by (with_reducible repeat (first | apply Kd.R_alloc | apply Kd.R_drewN | apply Kd.R_drew)); exact Kd.R_mono HO278.out (fun _ hk => ⟨hk.1.2, hk.2⟩)⟩, ⟨by repeat (first | (with_reducible first | exact HB.out | apply below_alloc | apply pw_below_drewN | apply below_drew1) | exact HB.out)⟩⟩
                      · rw [if_neg c34] at H
                        have c34b0 : ((t262 == 0) != true) = false := by simpa using c34
                        (try (have c34b1 : decide ((t262 == 0) = true) = true := by simpa using c34))
                        (try (have c34b2 : ((t262 == 0) == true) = true := by simpa using c34))
                        clear c34
                        (first | rw [c34b0] | (simp only [i64_w, i32_w]; rw [c34b0]) | skip)
                        by_cases c37 : ((t269 == 0) != t280) = true
                        · rw [if_pos c37] at H
                          have c37b0 : ((t269 == 0) != t280) = true := c37
                          (try (have c37b1 : decide ((t269 == 0) = t280) = false := by simpa using c37))
                          (try (have c37b2 : ((t269 == 0) == t280) = false := by simpa using c37))
                          (try (have c37b3 : ¬ ((t269 == 0) = t280) := by simpa using c37))
                          clear c37
                          have H' := Aside0.mk H
                          clear H
                          go_wp2
                          go_meet
                          case rel => exact ⟨_, (true), (by first | rfl | (simp; done) | (simp [*]; done)), H', ⟨by first | omega | exact Nat.le_refl _⟩, ⟨by (with_reducible repeat (first | apply Kd.R_alloc | apply Kd.R_drewN | apply Kd.R_drew)); exact Kd.R_mono HO264.out (fun _ hk => ⟨hk.1.2, hk.2⟩)⟩, ⟨by (with_reducible repeat (first | apply Kd.R_alloc | apply Kd.R_drewN | apply Kd.R_drew)); exact Kd.R_mono HO271.out (fun _ hk => ⟨hk.1.2, hk.2⟩)⟩, ⟨by (with_reducible repeat (first | apply Kd.R_alloc | apply Kd.R_drewN | apply Kd.R_drew)); exact Kd.R_mono HO278.out (fun _ hk => ⟨hk.1.2, hk.2⟩)⟩, ⟨by repeat (first | (with_reducible first | exact HB.out | apply below_alloc | apply pw_below_drewN | apply below_drew1) | exact HB.out)⟩⟩
                        · rw [if_neg c37] at H
                          have c37b0 : ((t269 == 0) != t280) = false := by simpa using c37
                          (try (have c37b1 : decide ((t269 == 0) = t280) = true := by simpa using c37))
                          (try (have c37b2 : ((t269 == 0) == t280) = true := by simpa using c37))
                          clear c37
                          have H' := Aside0.mk H
                          clear H
                          go_wp2
                          go_meet
                          case rel => exact ⟨_, (((t276 == 0) != t280)), (by first | rfl | (simp; done) | (simp [*]; done)), H', ⟨by first | omega | exact Nat.le_refl _⟩, ⟨by (with_reducible repeat (first | apply Kd.R_alloc | apply Kd.R_drewN | apply Kd.R_drew)); exact Kd.R_mono HO264.out (fun _ hk => ⟨hk.1.2, hk.2⟩)⟩, ⟨by (with_reducible repeat (first | apply Kd.R_alloc | apply Kd.R_drewN | apply Kd.R_drew)); exact Kd.R_mono HO271.out (fun _ hk => ⟨hk.1.2, hk.2⟩)⟩, ⟨by (with_reducible repeat (first | apply Kd.R_alloc | apply Kd.R_drewN | apply Kd.R_drew)); exact Kd.R_mono HO278.out (fun _ hk => ⟨hk.1.2, hk.2⟩)⟩, ⟨by repeat (first | (with_reducible first | exact HB.out | apply below_alloc | apply pw_below_drewN | apply below_drew1) | exact HB.out)⟩⟩
                    · replace c33 := Bool.eq_false_iff.mpr c33
                      subst c33
                      have H1 : (if ((t262 == 0) != (a0 == 58)) = true then (if a0 = 58 then (if ((t269 == 0) != t280) = true then (ambrylaw10_HeadBytes.j0 k a0 (strOfNums y255) t261 t268 t275 false t280 true) else (ambrylaw10_HeadBytes.j0 k a0 (strOfNums y255) t261 t268 t275 false t280 ((t276 == 0) != t280))) else (ambrylaw10_HeadBytes.j0 k a0 (strOfNums y255) t261 t268 t275 false t280 true)) else (if ((t269 == 0) != t280) = true then (ambrylaw10_HeadBytes.j0 k a0 (strOfNums y255) t261 t268 t275 false t280 true) else (ambrylaw10_HeadBytes.j0 k a0 (strOfNums y255) t261 t268 t275 false t280 ((t276 == 0) != t280)))) = some r := by rw [if_neg (show ¬ (false = true) by decide)] at H; exact H
                      clear H
                      have H := H1
                      clear H1
                      by_cases c38 : ((t262 == 0) != (a0 == 58)) = true
                      · rw [if_pos c38] at H
                        have c38b0 : ((t262 == 0) != (a0 == 58)) = true := c38
                        (try (have c38b1 : decide ((t262 == 0) = (a0 == 58)) = false := by simpa using c38))
                        (try (have c38b2 : ((t262 == 0) == (a0 == 58)) = false := by simpa using c38))
                        (try (have c38b3 : ¬ ((t262 == 0) = (a0 == 58)) := by simpa using c38))
                        clear c38
                        by_cases c39 : a0 = 58
                        · rw [if_pos c39] at H
                          have c39b0 : (a0 == 58) = true := beq_iff_eq.mpr c39
                          (try (have c38c39 : (t262 == 0) = false := by have h_ := c38b0; rw [c39b0] at h_; simpa using h_))
                          have c39b1 : (a0 != 58) = false := bne_eq_false_iff_eq.mpr c39
                          clear c39
                          by_cases c40 : ((t269 == 0) != t280) = true
                          · rw [if_pos c40] at H
                            have c40b0 : ((t269 == 0) != t280) = true := c40
                            (try (have c40b1 : decide ((t269 == 0) = t280) = false := by simpa using c40))
                            (try (have c40b2 : ((t269 == 0) == t280) = false := by simpa using c40))
                            (try (have c40b3 : ¬ ((t269 == 0) = t280) := by simpa using c40))
                            clear c40
                            have H' := Aside0.mk H
                            clear H
                            go_wp2
                            go_meet
                            case rel => exact ⟨_, (true), (by first | rfl | (simp; done) | (simp [*]; done)), H', ⟨by first | omega | exact Nat.le_refl _⟩, ⟨by (with_reducible repeat (first | apply Kd.R_alloc | apply Kd.R_drewN | apply Kd.R_drew)); exact Kd.R_mono HO264.out (fun _ hk => ⟨hk.1.2, hk.2⟩)⟩, ⟨by (with_reducible repeat (first | apply Kd.R_alloc | apply Kd.R_drewN | apply Kd.R_drew)); exact Kd.R_mono HO271.out (fun _ hk => ⟨hk.1.2, hk.2⟩)⟩, ⟨by (with_reducible repeat (first | apply Kd.R_alloc | apply Kd.R_drewN | apply Kd.R_drew)); exact Kd.R_mono HO278.out (fun _ hk => ⟨hk.1.2, hk.2⟩)⟩, ⟨by repeat (first | (with_reducible first | exact HB.out | apply below_alloc | apply pw_below_drewN | apply below_drew1) | exact HB.out)⟩⟩
                          · rw [if_neg c40] at H
                            have c40b0 : ((t269 == 0) != t280) = false := by simpa using c40
                            (try (have c40b1 : decide ((t269 == 0) = t280) = true := by simpa using c40))
                            (try (have c40b2 : ((t269 == 0) == t280) = true := by simpa using c40))
                            clear c40
                            have H' := Aside0.mk H
                            clear H
                            go_wp2
                            go_meet
                            case rel => exact ⟨_, (((t276 == 0) != t280)), (by first | rfl | (simp; done) | (simp [*]; done)), H', ⟨by first | omega | exact Nat.le_refl _⟩, ⟨by (with_reducible repeat (first | apply Kd.R_alloc | apply Kd.R_drewN | apply Kd.R_drew)); exact Kd.R_mono HO264.out (fun _ hk => ⟨hk.1.2, hk.2⟩)⟩, ⟨by (with_reducible repeat (first | apply Kd.R_alloc | apply Kd.R_drewN | apply Kd.R_drew)); exact Kd.R_mono HO271.out (fun _ hk => ⟨hk.1.2, hk.2⟩)⟩, ⟨by (with_reducible repeat (first | apply Kd.R_alloc | apply Kd.R_drewN | apply Kd.R_drew)); exact Kd.R_mono HO278.out (fun _ hk => ⟨hk.1.2, hk.2⟩)⟩, ⟨by repeat (first | (with_reducible first | exact HB.out | apply below_alloc | apply pw_below_drewN | apply below_drew1) | exact HB.out)⟩⟩
                        · rw [if_neg c39] at H
                          have c39b0 : (a0 == 58) = false := beq_eq_false_iff_ne.mpr c39
                          (try (have c38c39 : (t262 == 0) = true := by have h_ := c38b0; rw [c39b0] at h_; simpa using h_))
                          have c39b1 : (a0 != 58) = true := bne_iff_ne.mpr c39
                          have H' := Aside0.mk H
                          clear H
                          go_wp2
                          go_meet
                          case rel => exact ⟨_, (true), (by first | rfl | (simp; done) | (simp [*]; done)), H', ⟨by first | omega | exact Nat.le_refl _⟩, ⟨by (with_reducible repeat (first | apply Kd.R_alloc | apply Kd.R_drewN | apply Kd.R_drew)); exact Kd.R_mono HO264.out (fun _ hk => ⟨hk.1.2, hk.2⟩)⟩, ⟨by (with_reducible repeat (first | apply Kd.R_alloc | apply Kd.R_drewN | apply Kd.R_drew)); exact Kd.R_mono HO271.out (fun _ hk => ⟨hk.1.2, hk.2⟩)⟩, ⟨by (with_reducible repeat (first | apply Kd.R_alloc | apply Kd.R_drewN | apply Kd.R_drew)); exact Kd.R_mono HO278.out (fun _ hk => ⟨hk.1.2, hk.2⟩)⟩, ⟨by repeat (first | (with_reducible first | exact HB.out | apply below_alloc | apply pw_below_drewN | apply below_drew1) | exact HB.out)⟩⟩
                      · rw [if_neg c38] at H
                        have c38b0 : ((t262 == 0) != (a0 == 58)) = false := by simpa using c38
                        (try (have c38b1 : decide ((t262 == 0) = (a0 == 58)) = true := by simpa using c38))
                        (try (have c38b2 : ((t262 == 0) == (a0 == 58)) = true := by simpa using c38))
                        clear c38
                        by_cases c41 : ((t269 == 0) != t280) = true
                        · rw [if_pos c41] at H
                          have c41b0 : ((t269 == 0) != t280) = true := c41
                          (try (have c41b1 : decide ((t269 == 0) = t280) = false := by simpa using c41))
                          (try (have c41b2 : ((t269 == 0) == t280) = false := by simpa using c41))
                          (try (have c41b3 : ¬ ((t269 == 0) = t280) := by simpa using c41))
                          clear c41
                          have H' := Aside0.mk H
                          clear H
                          go_wp2
                          go_meet
                          case rel => exact ⟨_, (true), (by first | rfl | (simp; done) | (simp [*]; done)), H', ⟨by first | omega | exact Nat.le_refl _⟩, ⟨by (with_reducible repeat (first | apply Kd.R_alloc | apply Kd.R_drewN | apply Kd.R_drew)); exact Kd.R_mono HO264.out (fun _ hk => ⟨hk.1.2, hk.2⟩)⟩, ⟨by (with_reducible repeat (first | apply Kd.R_alloc | apply Kd.R_drewN | apply Kd.R_drew)); exact Kd.R_mono HO271.out (fun _ hk => ⟨hk.1.2, hk.2⟩)⟩, ⟨by (with_reducible repeat (first | apply Kd.R_alloc | apply Kd.R_drewN | apply Kd.R_drew)); exact Kd.R_mono HO278.out (fun _ hk => ⟨hk.1.2, hk.2⟩)⟩, ⟨by repeat (first | (with_reducible first | exact HB.out | apply below_alloc | apply pw_below_drewN | apply below_drew1) | exact HB.out)⟩⟩
                        · rw [if_neg c41] at H
                          have c41b0 : ((t269 == 0) != t280) = false := by simpa using c41
                          (try (have c41b1 : decide ((t269 == 0) = t280) = true := by simpa using c41))
                          (try (have c41b2 : ((t269 == 0) == t280) = true := by simpa using c41))
                          clear c41
                          have H' := Aside0.mk H
                          clear H
                          go_wp2
                          go_meet
                          case rel => exact ⟨_, (((t276 == 0) != t280)), (by first | rfl | (simp; done) | (simp [*]; done)), H', ⟨by first | omega | exact Nat.le_refl _⟩, ⟨by (with_reducible repeat (first | apply Kd.R_alloc | apply Kd.R_drewN | apply Kd.R_drew)); exact Kd.R_mono HO264.out (fun _ hk => ⟨hk.1.2, hk.2⟩)⟩, ⟨by (with_reducible repeat (first | apply Kd.R_alloc | apply Kd.R_drewN | apply Kd.R_drew)); exact Kd.R_mono HO271.out (fun _ hk => ⟨hk.1.2, hk.2⟩)⟩, ⟨by (with_reducible repeat (first | apply Kd.R_alloc | apply Kd.R_drewN | apply Kd.R_drew)); exact Kd.R_mono HO278.out (fun _ hk => ⟨hk.1.2, hk.2⟩)⟩, ⟨by repeat (first | (with_reducible first | exact HB.out | apply below_alloc | apply pw_below_drewN | apply below_drew1) | exact HB.out)⟩⟩
                  case rest =>
                    clear HC16
                    try clear c1
                    try clear c2
                    try clear p2
                    try clear hcv2
                    try clear c3
                    try clear c4
                    try clear c4b0
                    try clear c4b1
                    try clear c4b2
                    try clear c5
                    try clear c5b0
                    try clear c5b1
                    try clear c5b2
                    try clear c7
                    try clear c7b0
                    try clear c7b1
                    try clear c7b2
                    try clear c8
                    try clear c8b0
                    try clear c8b1
                    try clear c8b2
                    try clear c10
                    try clear c10b0
                    try clear c10b1
                    try clear c10b2
                    try clear c11
                    try clear c11b0
                    try clear c11b1
                    try clear c11b2
                    try clear c12
                    try clear c12b0
                    try clear c12b1
                    try clear c12b2
                    try clear c13
                    try clear c17
                    try clear hcv20
                    try clear c27
                    try clear c33
                    try clear c34
                    try clear c34b0
                    try clear c34b1
                    try clear c34b2
                    try clear c35
                    try clear c35b0
                    try clear c35b1
                    try clear c36
                    try clear c36b0
                    try clear c36b1
                    try clear c36b2
                    try clear c37
                    try clear c37b0
                    try clear c37b1
                    try clear c37b2
                    try clear c38
                    try clear c38b0
                    try clear c38b1
                    try clear c38b2
                    try clear c39
                    try clear c39b0
                    try clear c39b1
                    try clear c40
                    try clear c40b0
                    try clear c40b1
                    try clear c40b2
                    try clear c41
                    try clear c41b0
                    try clear c41b1
                    try clear c41b2
                    obtain ⟨kq, x70_15, rfl, HA, HJ15, HO_4, HO_6, HO_8, HB⟩ := hcut
                    cases kq with
                    | zero => exact absurd HA.out (by simp [ambrylaw10_HeadBytes.j0])
                    | succ kj15 =>
                      have H := HA.out
                      clear HA
                      simp only [ambrylaw10_HeadBytes.j0] at H
                      by_cases c42 : x70_15 = true
                      · subst c42
                        have H1 : (some false) = some r := by rw [if_pos rfl] at H; exact H
                        clear H
                        have H := H1
                        clear H1
                        obtain rfl := Option.some.inj H
                        go_wp2
                        go_ret
                        exact ⟨by first | rfl | (simp [errW_none, errW_some] <;> rfl) | (simp [*, errW_none, errW_some] <;> rfl), by repeat (first | (with_reducible first | exact HB.out | apply below_alloc | apply pw_below_drewN | apply below_drew1) | exact HB.out)⟩
                      · replace c42 := Bool.eq_false_iff.mpr c42
                        subst c42
                        have H1 : (if t279 = true then (if (t261.length : Int) = 1 then (if 0 < (t261.length : Int) then (if 1 + (strOfNums y255).size ≤ 9223372036854775807 then (if ((⟨#[120]⟩ : ByteArray) ++ (strOfNums y255)).size + 1 ≤ 9223372036854775807 then (if ((rd_T39 t261 0).f0).toList = (((⟨#[120]⟩ : ByteArray) ++ (strOfNums y255)) ++ (⟨#[121]⟩ : ByteArray)).toList then (if t280 = true then (if (t268.length : Int) = 1 then (if 0 < (t268.length : Int) then (if ((⟨#[118]⟩ : ByteArray) ++ (strOfNums y255)).size + 1 ≤ 9223372036854775807 then (ambrylaw10_HeadBytes.j1 kj15 a0 (strOfNums y255) t275 t280 (((rd_T39 t268 0).f1).toList != (((⟨#[118]⟩ : ByteArray) ++ (strOfNums y255)) ++ (⟨#[119]⟩ : ByteArray)).toList)) else (none)) else (none)) else (ambrylaw10_HeadBytes.j1 kj15 a0 (strOfNums y255) t275 t280 true)) else (ambrylaw10_HeadBytes.j1 kj15 a0 (strOfNums y255) t275 t280 false)) else (ambrylaw10_HeadBytes.j1 kj15 a0 (strOfNums y255) t275 t280 true)) else (none)) else (none)) else (none)) else (ambrylaw10_HeadBytes.j1 kj15 a0 (strOfNums y255) t275 t280 true)) else (if t280 = true then (if (t268.length : Int) = 1 then (if 0 < (t268.length : Int) then (if 1 + (strOfNums y255).size ≤ 9223372036854775807 then (if ((⟨#[118]⟩ : ByteArray) ++ (strOfNums y255)).size + 1 ≤ 9223372036854775807 then (ambrylaw10_HeadBytes.j1 kj15 a0 (strOfNums y255) t275 t280 (((rd_T39 t268 0).f1).toList != (((⟨#[118]⟩ : ByteArray) ++ (strOfNums y255)) ++ (⟨#[119]⟩ : ByteArray)).toList)) else (none)) else (none)) else (none)) else (ambrylaw10_HeadBytes.j1 kj15 a0 (strOfNums y255) t275 t280 true)) else (ambrylaw10_HeadBytes.j1 kj15 a0 (strOfNums y255) t275 t280 false))) = some r := by rw [if_neg (show ¬ (false = true) by decide)] at H; exact H
                        clear H
                        have H := H1
                        clear H1
                        have HC43 := Aside0.mk H
                        clear H
                        go_upto_region 11 with (fail)
                        go_cut [104] (fun v104 wc => ∃ (kq : Nat) (x104_42 : Bool), v104 = .bool x104_42 ∧ Aside0 (ambrylaw10_HeadBytes.j1 kq a0 (strOfNums y255) t275 t280 x104_42 = some r) ∧ Aside0 (kq ≤ kj15) ∧ Aside0 (Kd.R k39 39 wc w.heap.size (fun _ => True) v277 t275) ∧ Aside0 (Below w.heap.size w wc))
                        case first =>
                          have H := HC43.out
                          clear HC43
                          by_cases c44 : t279 = true
                          · subst c44
                            have H1 : (if (t261.length : Int) = 1 then (if 0 < (t261.length : Int) then (if 1 + (strOfNums y255).size ≤ 9223372036854775807 then (if ((⟨#[120]⟩ : ByteArray) ++ (strOfNums y255)).size + 1 ≤ 9223372036854775807 then (if ((rd_T39 t261 0).f0).toList = (((⟨#[120]⟩ : ByteArray) ++ (strOfNums y255)) ++ (⟨#[121]⟩ : ByteArray)).toList then (if t280 = true then (if (t268.length : Int) = 1 then (if 0 < (t268.length : Int) then (if ((⟨#[118]⟩ : ByteArray) ++ (strOfNums y255)).size + 1 ≤ 9223372036854775807 then (ambrylaw10_HeadBytes.j1 kj15 a0 (strOfNums y255) t275 t280 (((rd_T39 t268 0).f1).toList != (((⟨#[118]⟩ : ByteArray) ++ (strOfNums y255)) ++ (⟨#[119]⟩ : ByteArray)).toList)) else (none)) else (none)) else (ambrylaw10_HeadBytes.j1 kj15 a0 (strOfNums y255) t275 t280 true)) else (ambrylaw10_HeadBytes.j1 kj15 a0 (strOfNums y255) t275 t280 false)) else (ambrylaw10_HeadBytes.j1 kj15 a0 (strOfNums y255) t275 t280 true)) else (none)) else (none)) else (none)) else (ambrylaw10_HeadBytes.j1 kj15 a0 (strOfNums y255) t275 t280 true)) = some r := by rw [if_pos rfl] at H; exact H
                            clear H
                            have H := H1
                            clear H1
                            by_cases c45 : (t261.length : Int) = 1
                            · rw [if_pos c45] at H
                              have c45b0 : ((t261.length : Int) == 1) = true := beq_iff_eq.mpr c45
                              have c45b1 : ((t261.length : Int) != 1) = false := bne_eq_false_iff_eq.mpr c45
                              clear c45
                              (first | rw [c45b0] | (simp only [i64_w, i32_w]; rw [c45b0]) | skip)
                              by_cases c46 : 0 < (t261.length : Int)
                              · rw [if_pos c46] at H
                                have c46b0 : decide (0 < (t261.length : Int)) = true := decide_eq_true c46
                                have c46b1 : decide (0 < t261.length) = true := decide_eq_true (by omega)
                                clear c46
                                by_cases c47 : 1 + (strOfNums y255).size ≤ 9223372036854775807
                                · rw [if_pos c47] at H
                                  have c47b0 := eq_true c47
                                  have c47b1 : decide (1 + (strOfNums y255).size ≤ 9223372036854775807) = true := decide_eq_true c47
                                  try have c47b2 : (9223372036854775807 < 1 + (strOfNums y255).size) = False := eq_false (Nat.not_lt.2 c47)
                                  by_cases c48 : ((⟨#[120]⟩ : ByteArray) ++ (strOfNums y255)).size + 1 ≤ 9223372036854775807
                                  · rw [if_pos c48] at H
                                    have c48b0 := eq_true c48
                                    have c48b1 : decide (((⟨#[120]⟩ : ByteArray) ++ (strOfNums y255)).size + 1 ≤ 9223372036854775807) = true := decide_eq_true c48
                                    try have c48b2 : (9223372036854775807 < ((⟨#[120]⟩ : ByteArray) ++ (strOfNums y255)).size + 1) = False := eq_false (Nat.not_lt.2 c48)
                                    try (have c48d := Nat.not_lt.2 c48; simp only [ByteArray.size_append, (show (⟨#[120]⟩ : ByteArray).size = 1 from rfl), Nat.reduceAdd] at c48d; replace c48d := eq_false c48d)
                                    by_cases c49 : ((rd_T39 t261 0).f0).toList = (((⟨#[120]⟩ : ByteArray) ++ (strOfNums y255)) ++ (⟨#[121]⟩ : ByteArray)).toList
                                    · rw [if_pos c49] at H
                                      have c49b0 : (((rd_T39 t261 0).f0).toList == (((⟨#[120]⟩ : ByteArray) ++ (strOfNums y255)) ++ (⟨#[121]⟩ : ByteArray)).toList) = true := beq_iff_eq.mpr c49
                                      have c49b1 : (((rd_T39 t261 0).f0).toList != (((⟨#[120]⟩ : ByteArray) ++ (strOfNums y255)) ++ (⟨#[121]⟩ : ByteArray)).toList) = false := bne_eq_false_iff_eq.mpr c49
                                      clear c49
                                      by_cases c50 : t280 = true
                                      · subst c50
                                        have H1 : (if (t268.length : Int) = 1 then (if 0 < (t268.length : Int) then (if ((⟨#[118]⟩ : ByteArray) ++ (strOfNums y255)).size + 1 ≤ 9223372036854775807 then (ambrylaw10_HeadBytes.j1 kj15 a0 (strOfNums y255) t275 true (((rd_T39 t268 0).f1).toList != (((⟨#[118]⟩ : ByteArray) ++ (strOfNums y255)) ++ (⟨#[119]⟩ : ByteArray)).toList)) else (none)) else (none)) else (ambrylaw10_HeadBytes.j1 kj15 a0 (strOfNums y255) t275 true true)) = some r := by rw [if_pos rfl] at H; exact H
                                        clear H
                                        have H := H1
                                        clear H1
                                        by_cases c51 : (t268.length : Int) = 1
                                        · rw [if_pos c51] at H
                                          have c51b0 : ((t268.length : Int) == 1) = true := beq_iff_eq.mpr c51
                                          have c51b1 : ((t268.length : Int) != 1) = false := bne_eq_false_iff_eq.mpr c51
                                          clear c51
                                          by_cases c52 : 0 < (t268.length : Int)
                                          · rw [if_pos c52] at H
                                            have c52b0 : decide (0 < (t268.length : Int)) = true := decide_eq_true c52
                                            have c52b1 : decide (0 < t268.length) = true := decide_eq_true (by omega)
                                            clear c52
                                            by_cases c53 : ((⟨#[118]⟩ : ByteArray) ++ (strOfNums y255)).size + 1 ≤ 9223372036854775807
                                            · rw [if_pos c53] at H
                                              have c53b0 := eq_true c53
                                              have c53b1 : decide (((⟨#[118]⟩ : ByteArray) ++ (strOfNums y255)).size + 1 ≤ 9223372036854775807) = true := decide_eq_true c53
                                              try have c53b2 : (9223372036854775807 < ((⟨#[118]⟩ : ByteArray) ++ (strOfNums y255)).size + 1) = False := eq_false (Nat.not_lt.2 c53)
                                              try (have c53d := Nat.not_lt.2 c53; simp only [ByteArray.size_append, (show (⟨#[118]⟩ : ByteArray).size = 1 from rfl), Nat.reduceAdd] at c53d; replace c53d := eq_false c53d)
                                              have H' := Aside0.mk H
                                              clear H
                                              obtain ⟨Ao54, co54, eo54⟩ := Kd.R_slice HO_4.out
                                              subst eo54
                                              have p281 : 0 ≤ (0 : Int) := (by omega)
                                              have q281 : 0 < (t261.length : Int) := of_decide_eq_true (by first | (with_reducible assumption) | assumption)
                                              obtain ⟨ad281, e281, hx281_0, hx281_1⟩ := at_T39 (Kd.R_reads' HO_4.out).2.2 0 p281 q281
                                              cases e281
                                              have qi281 : (0 < t261.length) = True := eq_true (by omega)
                                              (try rw [show ((0 : Int)).toNat = 0 from rfl] at hx281_0)
                                              (try rw [show 0 * 2 = 0 from rfl] at hx281_0)
                                              (try rw [Addr.add_zero'] at hx281_0)
                                              (try rw [show ((0 : Int)).toNat = 0 from rfl] at hx281_1)
                                              (try rw [show 0 * 2 = 0 from rfl] at hx281_1)
                                              (try rw [Addr.add_zero'] at hx281_1)
                                              replace p281 := eq_true p281
                                              replace q281 := eq_true q281
                                              obtain ⟨Ao55, co55, eo55⟩ := Kd.R_slice HO_6.out
                                              subst eo55
                                              have p282 : 0 ≤ (0 : Int) := (by omega)
                                              have q282 : 0 < (t268.length : Int) := of_decide_eq_true (by first | (with_reducible assumption) | assumption)
                                              obtain ⟨ad282, e282, hx282_0, hx282_1⟩ := at_T39 (Kd.R_reads' HO_6.out).2.2 0 p282 q282
                                              cases e282
                                              have qi282 : (0 < t268.length) = True := eq_true (by omega)
                                              (try rw [show ((0 : Int)).toNat = 0 from rfl] at hx282_0)
                                              (try rw [show 0 * 2 = 0 from rfl] at hx282_0)
                                              (try rw [Addr.add_zero'] at hx282_0)
                                              (try rw [show ((0 : Int)).toNat = 0 from rfl] at hx282_1)
                                              (try rw [show 0 * 2 = 0 from rfl] at hx282_1)
                                              (try rw [Addr.add_zero'] at hx282_1)
                                              replace p282 := eq_true p282
                                              replace q282 := eq_true q282
                                              go_wp2
                                              go_meet
                                              case rel => exact ⟨_, ((((rd_T39 t268 0).f1).toList != (((⟨#[118]⟩ : ByteArray) ++ (strOfNums y255)) ++ (⟨#[119]⟩ : ByteArray)).toList)), (by first | rfl | (simp; done) | (simp [*]; done)), H', ⟨by have := HJ15.out; first | omega | exact Nat.le_refl _⟩, ⟨by (with_reducible repeat (first | apply Kd.R_alloc | apply Kd.R_drewN | apply Kd.R_drew)); exact Kd.R_mono HO_8.out (fun _ hk => trivial)⟩, ⟨by repeat (first | (with_reducible first | exact HB.out | apply below_alloc | apply pw_below_drewN | apply below_drew1) | exact HB.out)⟩⟩
                                            · rw [if_neg c53] at H
                                              exact absurd H (by simp)
                                          · rw [if_neg c52] at H
                                            exact absurd H (by simp)
                                        · rw [if_neg c51] at H
                                          have c51b0 : ((t268.length : Int) == 1) = false := beq_eq_false_iff_ne.mpr c51
                                          have c51b1 : ((t268.length : Int) != 1) = true := bne_iff_ne.mpr c51
                                          have H' := Aside0.mk H
                                          clear H
                                          obtain ⟨Ao56, co56, eo56⟩ := Kd.R_slice HO_4.out
                                          subst eo56
                                          have p281 : 0 ≤ (0 : Int) := (by omega)
                                          have q281 : 0 < (t261.length : Int) := of_decide_eq_true (by first | (with_reducible assumption) | assumption)
                                          obtain ⟨ad281, e281, hx281_0, hx281_1⟩ := at_T39 (Kd.R_reads' HO_4.out).2.2 0 p281 q281
                                          cases e281
                                          have qi281 : (0 < t261.length) = True := eq_true (by omega)
                                          (try rw [show ((0 : Int)).toNat = 0 from rfl] at hx281_0)
                                          (try rw [show 0 * 2 = 0 from rfl] at hx281_0)
                                          (try rw [Addr.add_zero'] at hx281_0)
                                          (try rw [show ((0 : Int)).toNat = 0 from rfl] at hx281_1)
                                          (try rw [show 0 * 2 = 0 from rfl] at hx281_1)
                                          (try rw [Addr.add_zero'] at hx281_1)
                                          replace p281 := eq_true p281
                                          replace q281 := eq_true q281
                                          obtain ⟨Ao57, co57, eo57⟩ := Kd.R_slice HO_6.out
                                          subst eo57
                                          go_wp2
                                          go_meet
                                          case rel => exact ⟨_, (true), (by first | rfl | (simp; done) | (simp [*]; done)), H', ⟨by have := HJ15.out; first | omega | exact Nat.le_refl _⟩, ⟨by (with_reducible repeat (first | apply Kd.R_alloc | apply Kd.R_drewN | apply Kd.R_drew)); exact Kd.R_mono HO_8.out (fun _ hk => trivial)⟩, ⟨by repeat (first | (with_reducible first | exact HB.out | apply below_alloc | apply pw_below_drewN | apply below_drew1) | exact HB.out)⟩⟩
                                      · replace c50 := Bool.eq_false_iff.mpr c50
                                        subst c50
                                        have H1 : (ambrylaw10_HeadBytes.j1 kj15 a0 (strOfNums y255) t275 false false) = some r := by rw [if_neg (show ¬ (false = true) by decide)] at H; exact H
                                        clear H
                                        have H := H1
                                        clear H1
                                        have H' := Aside0.mk H
                                        clear H
                                        obtain ⟨Ao58, co58, eo58⟩ := Kd.R_slice HO_4.out
                                        subst eo58
                                        have p281 : 0 ≤ (0 : Int) := (by omega)
                                        have q281 : 0 < (t261.length : Int) := of_decide_eq_true (by first | (with_reducible assumption) | assumption)
                                        obtain ⟨ad281, e281, hx281_0, hx281_1⟩ := at_T39 (Kd.R_reads' HO_4.out).2.2 0 p281 q281
                                        cases e281
                                        have qi281 : (0 < t261.length) = True := eq_true (by omega)
                                        (try rw [show ((0 : Int)).toNat = 0 from rfl] at hx281_0)
                                        (try rw [show 0 * 2 = 0 from rfl] at hx281_0)
                                        (try rw [Addr.add_zero'] at hx281_0)
                                        (try rw [show ((0 : Int)).toNat = 0 from rfl] at hx281_1)
                                        (try rw [show 0 * 2 = 0 from rfl] at hx281_1)
                                        (try rw [Addr.add_zero'] at hx281_1)
                                        replace p281 := eq_true p281
                                        replace q281 := eq_true q281
                                        go_wp2
                                        go_meet
                                        case rel => exact ⟨_, (false), (by first | rfl | (simp; done) | (simp [*]; done)), H', ⟨by have := HJ15.out; first | omega | exact Nat.le_refl _⟩, ⟨by (with_reducible repeat (first | apply Kd.R_alloc | apply Kd.R_drewN | apply Kd.R_drew)); exact Kd.R_mono HO_8.out (fun _ hk => trivial)⟩, ⟨by repeat (first | (with_reducible first | exact HB.out | apply below_alloc | apply pw_below_drewN | apply below_drew1) | exact HB.out)⟩⟩
                                    · rw [if_neg c49] at H
                                      have c49b0 : (((rd_T39 t261 0).f0).toList == (((⟨#[120]⟩ : ByteArray) ++ (strOfNums y255)) ++ (⟨#[121]⟩ : ByteArray)).toList) = false := beq_eq_false_iff_ne.mpr c49
                                      have c49b1 : (((rd_T39 t261 0).f0).toList != (((⟨#[120]⟩ : ByteArray) ++ (strOfNums y255)) ++ (⟨#[121]⟩ : ByteArray)).toList) = true := bne_iff_ne.mpr c49
                                      have H' := Aside0.mk H
                                      clear H
                                      obtain ⟨Ao59, co59, eo59⟩ := Kd.R_slice HO_4.out
                                      subst eo59
                                      have p281 : 0 ≤ (0 : Int) := (by omega)
                                      have q281 : 0 < (t261.length : Int) := of_decide_eq_true (by first | (with_reducible assumption) | assumption)
                                      obtain ⟨ad281, e281, hx281_0, hx281_1⟩ := at_T39 (Kd.R_reads' HO_4.out).2.2 0 p281 q281
                                      cases e281
                                      have qi281 : (0 < t261.length) = True := eq_true (by omega)
                                      (try rw [show ((0 : Int)).toNat = 0 from rfl] at hx281_0)
                                      (try rw [show 0 * 2 = 0 from rfl] at hx281_0)
                                      (try rw [Addr.add_zero'] at hx281_0)
                                      (try rw [show ((0 : Int)).toNat = 0 from rfl] at hx281_1)
                                      (try rw [show 0 * 2 = 0 from rfl] at hx281_1)
                                      (try rw [Addr.add_zero'] at hx281_1)
                                      replace p281 := eq_true p281
                                      replace q281 := eq_true q281
                                      go_wp2
                                      go_meet
                                      case rel => exact ⟨_, (true), (by first | rfl | (simp; done) | (simp [*]; done)), H', ⟨by have := HJ15.out; first | omega | exact Nat.le_refl _⟩, ⟨by (with_reducible repeat (first | apply Kd.R_alloc | apply Kd.R_drewN | apply Kd.R_drew)); exact Kd.R_mono HO_8.out (fun _ hk => trivial)⟩, ⟨by repeat (first | (with_reducible first | exact HB.out | apply below_alloc | apply pw_below_drewN | apply below_drew1) | exact HB.out)⟩⟩
                                  · rw [if_neg c48] at H
                                    exact absurd H (by simp)
                                · rw [if_neg c47] at H
                                  exact absurd H (by simp)
                              · rw [if_neg c46] at H
                                exact absurd H (by simp)
                            · rw [if_neg c45] at H
                              have c45b0 : ((t261.length : Int) == 1) = false := beq_eq_false_iff_ne.mpr c45
                              have c45b1 : ((t261.length : Int) != 1) = true := bne_iff_ne.mpr c45
                              (first | rw [c45b0] | (simp only [i64_w, i32_w]; rw [c45b0]) | skip)
                              have H' := Aside0.mk H
                              clear H
                              obtain ⟨Ao60, co60, eo60⟩ := Kd.R_slice HO_4.out
                              subst eo60
                              go_wp2
                              go_meet
                              case rel => exact ⟨_, (true), (by first | rfl | (simp; done) | (simp [*]; done)), H', ⟨by have := HJ15.out; first | omega | exact Nat.le_refl _⟩, ⟨by (with_reducible repeat (first | apply Kd.R_alloc | apply Kd.R_drewN | apply Kd.R_drew)); exact Kd.R_mono HO_8.out (fun _ hk => trivial)⟩, ⟨by repeat (first | (with_reducible first | exact HB.out | apply below_alloc | apply pw_below_drewN | apply below_drew1) | exact HB.out)⟩⟩
                          · replace c44 := Bool.eq_false_iff.mpr c44
                            subst c44
                            have H1 : (if t280 = true then (if (t268.length : Int) = 1 then (if 0 < (t268.length : Int) then (if 1 + (strOfNums y255).size ≤ 9223372036854775807 then (if ((⟨#[118]⟩ : ByteArray) ++ (strOfNums y255)).size + 1 ≤ 9223372036854775807 then (ambrylaw10_HeadBytes.j1 kj15 a0 (strOfNums y255) t275 t280 (((rd_T39 t268 0).f1).toList != (((⟨#[118]⟩ : ByteArray) ++ (strOfNums y255)) ++ (⟨#[119]⟩ : ByteArray)).toList)) else (none)) else (none)) else (none)) else (ambrylaw10_HeadBytes.j1 kj15 a0 (strOfNums y255) t275 t280 true)) else (ambrylaw10_HeadBytes.j1 kj15 a0 (strOfNums y255) t275 t280 false)) = some r := by rw [if_neg (show ¬ (false = true) by decide)] at H; exact H
                            clear H
                            have H := H1
                            clear H1
                            by_cases c61 : t280 = true
                            · subst c61
                              have H1 : (if (t268.length : Int) = 1 then (if 0 < (t268.length : Int) then (if 1 + (strOfNums y255).size ≤ 9223372036854775807 then (if ((⟨#[118]⟩ : ByteArray) ++ (strOfNums y255)).size + 1 ≤ 9223372036854775807 then (ambrylaw10_HeadBytes.j1 kj15 a0 (strOfNums y255) t275 true (((rd_T39 t268 0).f1).toList != (((⟨#[118]⟩ : ByteArray) ++ (strOfNums y255)) ++ (⟨#[119]⟩ : ByteArray)).toList)) else (none)) else (none)) else (none)) else (ambrylaw10_HeadBytes.j1 kj15 a0 (strOfNums y255) t275 true true)) = some r := by rw [if_pos rfl] at H; exact H
                              clear H
                              have H := H1
                              clear H1
                              by_cases c62 : (t268.length : Int) = 1
                              · rw [if_pos c62] at H
                                have c62b0 : ((t268.length : Int) == 1) = true := beq_iff_eq.mpr c62
                                have c62b1 : ((t268.length : Int) != 1) = false := bne_eq_false_iff_eq.mpr c62
                                clear c62
                                by_cases c63 : 0 < (t268.length : Int)
                                · rw [if_pos c63] at H
                                  have c63b0 : decide (0 < (t268.length : Int)) = true := decide_eq_true c63
                                  have c63b1 : decide (0 < t268.length) = true := decide_eq_true (by omega)
                                  clear c63
                                  by_cases c64 : 1 + (strOfNums y255).size ≤ 9223372036854775807
                                  · rw [if_pos c64] at H
                                    have c64b0 := eq_true c64
                                    have c64b1 : decide (1 + (strOfNums y255).size ≤ 9223372036854775807) = true := decide_eq_true c64
                                    try have c64b2 : (9223372036854775807 < 1 + (strOfNums y255).size) = False := eq_false (Nat.not_lt.2 c64)
                                    by_cases c65 : ((⟨#[118]⟩ : ByteArray) ++ (strOfNums y255)).size + 1 ≤ 9223372036854775807
                                    · rw [if_pos c65] at H
                                      have c65b0 := eq_true c65
                                      have c65b1 : decide (((⟨#[118]⟩ : ByteArray) ++ (strOfNums y255)).size + 1 ≤ 9223372036854775807) = true := decide_eq_true c65
                                      try have c65b2 : (9223372036854775807 < ((⟨#[118]⟩ : ByteArray) ++ (strOfNums y255)).size + 1) = False := eq_false (Nat.not_lt.2 c65)
                                      try (have c65d := Nat.not_lt.2 c65; simp only [ByteArray.size_append, (show (⟨#[118]⟩ : ByteArray).size = 1 from rfl), Nat.reduceAdd] at c65d; replace c65d := eq_false c65d)
                                      have H' := Aside0.mk H
                                      clear H
                                      obtain ⟨Ao66, co66, eo66⟩ := Kd.R_slice HO_6.out
                                      subst eo66
                                      have p283 : 0 ≤ (0 : Int) := (by omega)
                                      have q283 : 0 < (t268.length : Int) := of_decide_eq_true (by first | (with_reducible assumption) | assumption)
                                      obtain ⟨ad283, e283, hx283_0, hx283_1⟩ := at_T39 (Kd.R_reads' HO_6.out).2.2 0 p283 q283
                                      cases e283
                                      have qi283 : (0 < t268.length) = True := eq_true (by omega)
                                      (try rw [show ((0 : Int)).toNat = 0 from rfl] at hx283_0)
                                      (try rw [show 0 * 2 = 0 from rfl] at hx283_0)
                                      (try rw [Addr.add_zero'] at hx283_0)
                                      (try rw [show ((0 : Int)).toNat = 0 from rfl] at hx283_1)
                                      (try rw [show 0 * 2 = 0 from rfl] at hx283_1)
                                      (try rw [Addr.add_zero'] at hx283_1)
                                      replace p283 := eq_true p283
                                      replace q283 := eq_true q283
                                      go_wp2
                                      go_meet
                                      case rel => exact ⟨_, ((((rd_T39 t268 0).f1).toList != (((⟨#[118]⟩ : ByteArray) ++ (strOfNums y255)) ++ (⟨#[119]⟩ : ByteArray)).toList)), (by first | rfl | (simp; done) | (simp [*]; done)), H', ⟨by have := HJ15.out; first | omega | exact Nat.le_refl _⟩, ⟨by (with_reducible repeat (first | apply Kd.R_alloc | apply Kd.R_drewN | apply Kd.R_drew)); exact Kd.R_mono HO_8.out (fun _ hk => trivial)⟩, ⟨by repeat (first | (with_reducible first | exact HB.out | apply below_alloc | apply pw_below_drewN | apply below_drew1) | exact HB.out)⟩⟩
                                    · rw [if_neg c65] at H
                                      exact absurd H (by simp)
                                  · rw [if_neg c64] at H
                                    exact absurd H (by simp)
                                · rw [if_neg c63] at H
                                  exact absurd H (by simp)
                              · rw [if_neg c62] at H
                                have c62b0 : ((t268.length : Int) == 1) = false := beq_eq_false_iff_ne.mpr c62
                                have c62b1 : ((t268.length : Int) != 1) = true := bne_iff_ne.mpr c62
                                have H' := Aside0.mk H
                                clear H
                                obtain ⟨Ao67, co67, eo67⟩ := Kd.R_slice HO_6.out
                                subst eo67
                                go_wp2
                                go_meet
                                case rel => exact ⟨_, (true), (by first | rfl | (simp; done) | (simp [*]; done)), H', ⟨by have := HJ15.out; first | omega | exact Nat.le_refl _⟩, ⟨by (with_reducible repeat (first | apply Kd.R_alloc | apply Kd.R_drewN | apply Kd.R_drew)); exact Kd.R_mono HO_8.out (fun _ hk => trivial)⟩, ⟨by repeat (first | (with_reducible first | exact HB.out | apply below_alloc | apply pw_below_drewN | apply below_drew1) | exact HB.out)⟩⟩
                            · replace c61 := Bool.eq_false_iff.mpr c61
                              subst c61
                              have H1 : (ambrylaw10_HeadBytes.j1 kj15 a0 (strOfNums y255) t275 false false) = some r := by rw [if_neg (show ¬ (false = true) by decide)] at H; exact H
                              clear H
                              have H := H1
                              clear H1
                              have H' := Aside0.mk H
                              clear H
                              go_wp2
                              go_meet
                              case rel => exact ⟨_, (false), (by first | rfl | (simp; done) | (simp [*]; done)), H', ⟨by have := HJ15.out; first | omega | exact Nat.le_refl _⟩, ⟨by (with_reducible repeat (first | apply Kd.R_alloc | apply Kd.R_drewN | apply Kd.R_drew)); exact Kd.R_mono HO_8.out (fun _ hk => trivial)⟩, ⟨by repeat (first | (with_reducible first | exact HB.out | apply below_alloc | apply pw_below_drewN | apply below_drew1) | exact HB.out)⟩⟩
                        case rest =>
                          clear HC43
                          try clear c1
                          try clear c2
                          try clear p2
                          try clear q2
                          try clear hx2
                          try clear hcv2
                          try clear qi2
                          try clear c3
                          try clear c4
                          try clear c4b0
                          try clear c4b1
                          try clear c4b2
                          try clear c5
                          try clear c5b0
                          try clear c5b1
                          try clear c5b2
                          try clear c6
                          try clear c7
                          try clear c7b0
                          try clear c7b1
                          try clear c7b2
                          try clear c8
                          try clear c8b0
                          try clear c8b1
                          try clear c8b2
                          try clear c10
                          try clear c10b0
                          try clear c10b1
                          try clear c10b2
                          try clear c11
                          try clear c11b0
                          try clear c11b1
                          try clear c11b2
                          try clear c12
                          try clear c12b0
                          try clear c12b1
                          try clear c12b2
                          try clear c13
                          try clear c17
                          try clear hcv20
                          try clear c27
                          try clear p28
                          try clear q28
                          try clear hx28
                          try clear qi28
                          try clear c33
                          try clear c34
                          try clear c34b0
                          try clear c34b1
                          try clear c34b2
                          try clear c35
                          try clear c35b0
                          try clear c35b1
                          try clear c36
                          try clear c36b0
                          try clear c36b1
                          try clear c36b2
                          try clear c37
                          try clear c37b0
                          try clear c37b1
                          try clear c37b2
                          try clear c38
                          try clear c38b0
                          try clear c38b1
                          try clear c38b2
                          try clear c39
                          try clear c39b0
                          try clear c39b1
                          try clear c40
                          try clear c40b0
                          try clear c40b1
                          try clear c40b2
                          try clear c41
                          try clear c41b0
                          try clear c41b1
                          try clear c41b2
                          try clear c42
                          try clear c44
                          try clear c45
                          try clear c45b0
                          try clear c45b1
                          try clear c46
                          try clear c46b0
                          try clear c46b1
                          try clear c47
                          try clear c47b0
                          try clear c47b1
                          try clear c47b2
                          try clear c48
                          try clear c48b0
                          try clear c48b1
                          try clear c48b2
                          try clear c49
                          try clear c49b0
                          try clear c49b1
                          try clear c50
                          try clear c51
                          try clear c51b0
                          try clear c51b1
                          try clear c52
                          try clear c52b0
                          try clear c52b1
                          try clear c53
                          try clear c53b0
                          try clear c53b1
                          try clear c53b2
                          try clear c61
                          try clear c62
                          try clear c62b0
                          try clear c62b1
                          try clear c63
                          try clear c63b0
                          try clear c63b1
                          try clear c64
                          try clear c64b0
                          try clear c64b1
                          try clear c64b2
                          try clear c65
                          try clear c65b0
                          try clear c65b1
                          try clear c65b2
                          try clear hx281_0
                          try clear hx281_1
                          try clear hx282_0
                          try clear hx282_1
                          try clear hx283_0
                          try clear hx283_1
                          try clear p2
                          try clear p281
                          try clear p282
                          try clear p283
                          try clear q281
                          try clear q282
                          try clear q283
                          obtain ⟨kq, x104_42, rfl, HA, HJ42, HO_8, HB⟩ := hcut
                          cases kq with
                          | zero => exact absurd HA.out (by simp [ambrylaw10_HeadBytes.j1])
                          | succ kj42 =>
                            have H := HA.out
                            clear HA
                            simp only [ambrylaw10_HeadBytes.j1] at H
                            by_cases c68 : x104_42 = true
                            · subst c68
                              have H1 : (some false) = some r := by rw [if_pos rfl] at H; exact H
                              clear H
                              have H := H1
                              clear H1
                              obtain rfl := Option.some.inj H
                              go_wp2
                              go_ret
                              exact ⟨by first | rfl | (simp [errW_none, errW_some] <;> rfl) | (simp [*, errW_none, errW_some] <;> rfl), by repeat (first | (with_reducible first | exact HB.out | apply below_alloc | apply pw_below_drewN | apply below_drew1) | exact HB.out)⟩
                            · replace c68 := Bool.eq_false_iff.mpr c68
                              subst c68
                              have H1 : (if a0 = 32 then (if (t275.length : Int) = 1 then (if 0 < (t275.length : Int) then (some (((rd_T39 t275 0).f1).toList == ([118] : List UInt8))) else (none)) else (some false)) else (if a0 = 9 then (if (t275.length : Int) = 1 then (if 0 < (t275.length : Int) then (some (((rd_T39 t275 0).f1).toList == ([118] : List UInt8))) else (none)) else (some false)) else (if t280 = true then (if (t275.length : Int) = 1 then (if 0 < (t275.length : Int) then (if (strOfNums y255).size + 1 ≤ 9223372036854775807 then (if ((strOfNums y255) ++ (⟨#[118]⟩ : ByteArray)).size + (strOfNums y255).size ≤ 9223372036854775807 then (some (((rd_T39 t275 0).f1).toList == (((strOfNums y255) ++ (⟨#[118]⟩ : ByteArray)) ++ (strOfNums y255)).toList)) else (none)) else (none)) else (none)) else (some false)) else (some true)))) = some r := by rw [if_neg (show ¬ (false = true) by decide)] at H; exact H
                              clear H
                              have H := H1
                              clear H1
                              by_cases c69 : a0 = 32
                              · rw [if_pos c69] at H
                                have c69b0 : (a0 == 32) = true := beq_iff_eq.mpr c69
                                have c69b1 : (a0 != 32) = false := bne_eq_false_iff_eq.mpr c69
                                clear c69
                                by_cases c70 : (t275.length : Int) = 1
                                · rw [if_pos c70] at H
                                  have c70b0 : ((t275.length : Int) == 1) = true := beq_iff_eq.mpr c70
                                  have c70b1 : ((t275.length : Int) != 1) = false := bne_eq_false_iff_eq.mpr c70
                                  clear c70
                                  by_cases c71 : 0 < (t275.length : Int)
                                  · rw [if_pos c71] at H
                                    have c71b0 : decide (0 < (t275.length : Int)) = true := decide_eq_true c71
                                    have c71b1 : decide (0 < t275.length) = true := decide_eq_true (by omega)
                                    clear c71
                                    obtain rfl := Option.some.inj H
                                    obtain ⟨Ao72, co72, eo72⟩ := Kd.R_slice HO_8.out
                                    subst eo72
                                    have p284 : 0 ≤ (0 : Int) := (by omega)
                                    have q284 : 0 < (t275.length : Int) := of_decide_eq_true (by first | (with_reducible assumption) | assumption)
                                    obtain ⟨ad284, e284, hx284_0, hx284_1⟩ := at_T39 (Kd.R_reads' HO_8.out).2.2 0 p284 q284
                                    cases e284
                                    have qi284 : (0 < t275.length) = True := eq_true (by omega)
                                    (try rw [show ((0 : Int)).toNat = 0 from rfl] at hx284_0)
                                    (try rw [show 0 * 2 = 0 from rfl] at hx284_0)
                                    (try rw [Addr.add_zero'] at hx284_0)
                                    (try rw [show ((0 : Int)).toNat = 0 from rfl] at hx284_1)
                                    (try rw [show 0 * 2 = 0 from rfl] at hx284_1)
                                    (try rw [Addr.add_zero'] at hx284_1)
                                    replace p284 := eq_true p284
                                    replace q284 := eq_true q284
                                    go_wp2
                                    go_ret
                                    exact ⟨by first | rfl | (simp [errW_none, errW_some] <;> rfl) | (simp [*, errW_none, errW_some] <;> rfl), by repeat (first | (with_reducible first | exact HB.out | apply below_alloc | apply pw_below_drewN | apply below_drew1) | exact HB.out)⟩
                                  · rw [if_neg c71] at H
                                    exact absurd H (by simp)
                                · rw [if_neg c70] at H
                                  have c70b0 : ((t275.length : Int) == 1) = false := beq_eq_false_iff_ne.mpr c70
                                  have c70b1 : ((t275.length : Int) != 1) = true := bne_iff_ne.mpr c70
                                  obtain rfl := Option.some.inj H
                                  obtain ⟨Ao73, co73, eo73⟩ := Kd.R_slice HO_8.out
                                  subst eo73
                                  go_wp2
                                  go_ret
                                  exact ⟨by first | rfl | (simp [errW_none, errW_some] <;> rfl) | (simp [*, errW_none, errW_some] <;> rfl), by repeat (first | (with_reducible first | exact HB.out | apply below_alloc | apply pw_below_drewN | apply below_drew1) | exact HB.out)⟩
                              · rw [if_neg c69] at H
                                have c69b0 : (a0 == 32) = false := beq_eq_false_iff_ne.mpr c69
                                have c69b1 : (a0 != 32) = true := bne_iff_ne.mpr c69
                                by_cases c74 : a0 = 9
                                · rw [if_pos c74] at H
                                  have c74b0 : (a0 == 9) = true := beq_iff_eq.mpr c74
                                  have c74b1 : (a0 != 9) = false := bne_eq_false_iff_eq.mpr c74
                                  clear c74
                                  by_cases c75 : (t275.length : Int) = 1
                                  · rw [if_pos c75] at H
                                    have c75b0 : ((t275.length : Int) == 1) = true := beq_iff_eq.mpr c75
                                    have c75b1 : ((t275.length : Int) != 1) = false := bne_eq_false_iff_eq.mpr c75
                                    clear c75
                                    by_cases c76 : 0 < (t275.length : Int)
                                    · rw [if_pos c76] at H
                                      have c76b0 : decide (0 < (t275.length : Int)) = true := decide_eq_true c76
                                      have c76b1 : decide (0 < t275.length) = true := decide_eq_true (by omega)
                                      clear c76
                                      obtain rfl := Option.some.inj H
                                      obtain ⟨Ao77, co77, eo77⟩ := Kd.R_slice HO_8.out
                                      subst eo77
                                      have p285 : 0 ≤ (0 : Int) := (by omega)
                                      have q285 : 0 < (t275.length : Int) := of_decide_eq_true (by first | (with_reducible assumption) | assumption)
                                      obtain ⟨ad285, e285, hx285_0, hx285_1⟩ := at_T39 (Kd.R_reads' HO_8.out).2.2 0 p285 q285
                                      cases e285
                                      have qi285 : (0 < t275.length) = True := eq_true (by omega)
                                      (try rw [show ((0 : Int)).toNat = 0 from rfl] at hx285_0)
                                      (try rw [show 0 * 2 = 0 from rfl] at hx285_0)
                                      (try rw [Addr.add_zero'] at hx285_0)
                                      (try rw [show ((0 : Int)).toNat = 0 from rfl] at hx285_1)
                                      (try rw [show 0 * 2 = 0 from rfl] at hx285_1)
                                      (try rw [Addr.add_zero'] at hx285_1)
                                      replace p285 := eq_true p285
                                      replace q285 := eq_true q285
                                      go_wp2
                                      go_ret
                                      exact ⟨by first | rfl | (simp [errW_none, errW_some] <;> rfl) | (simp [*, errW_none, errW_some] <;> rfl), by repeat (first | (with_reducible first | exact HB.out | apply below_alloc | apply pw_below_drewN | apply below_drew1) | exact HB.out)⟩
                                    · rw [if_neg c76] at H
                                      exact absurd H (by simp)
                                  · rw [if_neg c75] at H
                                    have c75b0 : ((t275.length : Int) == 1) = false := beq_eq_false_iff_ne.mpr c75
                                    have c75b1 : ((t275.length : Int) != 1) = true := bne_iff_ne.mpr c75
                                    obtain rfl := Option.some.inj H
                                    obtain ⟨Ao78, co78, eo78⟩ := Kd.R_slice HO_8.out
                                    subst eo78
                                    go_wp2
                                    go_ret
                                    exact ⟨by first | rfl | (simp [errW_none, errW_some] <;> rfl) | (simp [*, errW_none, errW_some] <;> rfl), by repeat (first | (with_reducible first | exact HB.out | apply below_alloc | apply pw_below_drewN | apply below_drew1) | exact HB.out)⟩
                                · rw [if_neg c74] at H
                                  have c74b0 : (a0 == 9) = false := beq_eq_false_iff_ne.mpr c74
                                  have c74b1 : (a0 != 9) = true := bne_iff_ne.mpr c74
                                  by_cases c79 : t280 = true
                                  · subst c79
                                    have H1 : (if (t275.length : Int) = 1 then (if 0 < (t275.length : Int) then (if (strOfNums y255).size + 1 ≤ 9223372036854775807 then (if ((strOfNums y255) ++ (⟨#[118]⟩ : ByteArray)).size + (strOfNums y255).size ≤ 9223372036854775807 then (some (((rd_T39 t275 0).f1).toList == (((strOfNums y255) ++ (⟨#[118]⟩ : ByteArray)) ++ (strOfNums y255)).toList)) else (none)) else (none)) else (none)) else (some false)) = some r := by rw [if_pos rfl] at H; exact H
                                    clear H
                                    have H := H1
                                    clear H1
                                    by_cases c80 : (t275.length : Int) = 1
                                    · rw [if_pos c80] at H
                                      have c80b0 : ((t275.length : Int) == 1) = true := beq_iff_eq.mpr c80
                                      have c80b1 : ((t275.length : Int) != 1) = false := bne_eq_false_iff_eq.mpr c80
                                      clear c80
                                      by_cases c81 : 0 < (t275.length : Int)
                                      · rw [if_pos c81] at H
                                        have c81b0 : decide (0 < (t275.length : Int)) = true := decide_eq_true c81
                                        have c81b1 : decide (0 < t275.length) = true := decide_eq_true (by omega)
                                        clear c81
                                        by_cases c82 : (strOfNums y255).size + 1 ≤ 9223372036854775807
                                        · rw [if_pos c82] at H
                                          have c82b0 := eq_true c82
                                          have c82b1 : decide ((strOfNums y255).size + 1 ≤ 9223372036854775807) = true := decide_eq_true c82
                                          try have c82b2 : (9223372036854775807 < (strOfNums y255).size + 1) = False := eq_false (Nat.not_lt.2 c82)
                                          by_cases c83 : ((strOfNums y255) ++ (⟨#[118]⟩ : ByteArray)).size + (strOfNums y255).size ≤ 9223372036854775807
                                          · rw [if_pos c83] at H
                                            have c83b0 := eq_true c83
                                            have c83b1 : decide (((strOfNums y255) ++ (⟨#[118]⟩ : ByteArray)).size + (strOfNums y255).size ≤ 9223372036854775807) = true := decide_eq_true c83
                                            try have c83b2 : (9223372036854775807 < ((strOfNums y255) ++ (⟨#[118]⟩ : ByteArray)).size + (strOfNums y255).size) = False := eq_false (Nat.not_lt.2 c83)
                                            try (have c83d := Nat.not_lt.2 c83; simp only [ByteArray.size_append, (show (⟨#[118]⟩ : ByteArray).size = 1 from rfl), Nat.reduceAdd] at c83d; replace c83d := eq_false c83d)
                                            obtain rfl := Option.some.inj H
                                            obtain ⟨Ao84, co84, eo84⟩ := Kd.R_slice HO_8.out
                                            subst eo84
                                            have p286 : 0 ≤ (0 : Int) := (by omega)
                                            have q286 : 0 < (t275.length : Int) := of_decide_eq_true (by first | (with_reducible assumption) | assumption)
                                            obtain ⟨ad286, e286, hx286_0, hx286_1⟩ := at_T39 (Kd.R_reads' HO_8.out).2.2 0 p286 q286
                                            cases e286
                                            have qi286 : (0 < t275.length) = True := eq_true (by omega)
                                            (try rw [show ((0 : Int)).toNat = 0 from rfl] at hx286_0)
                                            (try rw [show 0 * 2 = 0 from rfl] at hx286_0)
                                            (try rw [Addr.add_zero'] at hx286_0)
                                            (try rw [show ((0 : Int)).toNat = 0 from rfl] at hx286_1)
                                            (try rw [show 0 * 2 = 0 from rfl] at hx286_1)
                                            (try rw [Addr.add_zero'] at hx286_1)
                                            replace p286 := eq_true p286
                                            replace q286 := eq_true q286
                                            go_wp2
                                            go_ret
                                            exact ⟨by first | rfl | (simp [errW_none, errW_some] <;> rfl) | (simp [*, errW_none, errW_some] <;> rfl), by repeat (first | (with_reducible first | exact HB.out | apply below_alloc | apply pw_below_drewN | apply below_drew1) | exact HB.out)⟩
                                          · rw [if_neg c83] at H
                                            exact absurd H (by simp)
                                        · rw [if_neg c82] at H
                                          exact absurd H (by simp)
                                      · rw [if_neg c81] at H
                                        exact absurd H (by simp)
                                    · rw [if_neg c80] at H
                                      have c80b0 : ((t275.length : Int) == 1) = false := beq_eq_false_iff_ne.mpr c80
                                      have c80b1 : ((t275.length : Int) != 1) = true := bne_iff_ne.mpr c80
                                      obtain rfl := Option.some.inj H
                                      obtain ⟨Ao85, co85, eo85⟩ := Kd.R_slice HO_8.out
                                      subst eo85
                                      go_wp2
                                      go_ret
                                      exact ⟨by first | rfl | (simp [errW_none, errW_some] <;> rfl) | (simp [*, errW_none, errW_some] <;> rfl), by repeat (first | (with_reducible first | exact HB.out | apply below_alloc | apply pw_below_drewN | apply below_drew1) | exact HB.out)⟩
                                  · replace c79 := Bool.eq_false_iff.mpr c79
                                    subst c79
                                    have H1 : (some true) = some r := by rw [if_neg (show ¬ (false = true) by decide)] at H; exact H
                                    clear H
                                    have H := H1
                                    clear H1
                                    obtain rfl := Option.some.inj H
                                    go_wp2
                                    go_ret
                                    exact ⟨by first | rfl | (simp [errW_none, errW_some] <;> rfl) | (simp [*, errW_none, errW_some] <;> rfl), by repeat (first | (with_reducible first | exact HB.out | apply below_alloc | apply pw_below_drewN | apply below_drew1) | exact HB.out)⟩
                · rw [if_neg c12] at H
                  exact absurd H (by simp)
              · rw [if_neg c11] at H
                exact absurd H (by simp)
            · rw [if_neg c10] at H
              exact absurd H (by simp)
          · rw [if_neg c8] at H
            exact absurd H (by simp)
        · rw [if_neg c7] at H
          exact absurd H (by simp)
      · rw [if_neg c5] at H
        exact absurd H (by simp)
    · rw [if_neg c4] at H
      exact absurd H (by simp)
  · replace c3 := Bool.eq_false_iff.mpr c3
    subst c3
    have H1 : (some false) = some r := by rw [if_neg (show ¬ (false = true) by decide)] at H; exact H
    clear H
    have H := H1
    clear H1
    obtain rfl := Option.some.inj H
    go_enter Try.func7, Try.ntmps7
    go_wp2_with (first | ((with_reducible refine gate_callee (f := 11) rfl ?_); refine goesL_ (some 12) rfl rfl Try.func11 (by kernel_rfl) rfl #[] rfl (by (try simp only [List.map_toArray, List.map_cons, List.map_nil]); first | done | rfl | (simp only [List.length_drop, List.length_take]; rfl)) ?_; (with_reducible refine (ambrylaw10_known.calls k  false _ A2.out).mono ?_); rintro e w86 ⟨rfl, hb⟩; refine ⟨_, rfl, ?_⟩; have n0_ := Aside0.mk (below_step (by repeat (first | (with_reducible first | exact HB.out | apply below_alloc | apply pw_below_drewN | apply below_drew1) | exact HB.out)) hb); clear HB; have HB := n0_; clear n0_; (try clear hb); (try clear hb2); (try clear hk); (try clear hi)))
    go_ret
    exact ⟨by first | rfl | (simp [errW_none, errW_some] <;> rfl) | (simp [*, errW_none, errW_some] <;> rfl), by repeat (first | (with_reducible first | exact HB.out | apply below_alloc | apply pw_below_drewN | apply below_drew1) | exact HB.out)⟩

/-- THE ONE PURE STATEMENT of ambrylaw10_HeadBytes: yours. -/
def ambrylaw10_HeadBytes.Pure : Prop := ∀ (a0 : Int), (Lit.int .u8 a0).wf = true → ∃ k, ambrylaw10_HeadBytes.f k a0 = some true
theorem ambrylaw10_HeadBytes.walk (P : ambrylaw10_HeadBytes.Pure) (a0 : Int) (w : World) (w0 : (Lit.int .u8 a0).wf = true) :
    Calls Try.prog 7 #[.int .u8 a0] w fun e w' => e = .returned (.bool true) ∧ Below w.heap.size w w' := by
  obtain ⟨k, h⟩ := P a0 w0
  refine (ambrylaw10_HeadBytes.calls k a0 true w h).mono ?_
  rintro e w' ⟨rfl, hd⟩
  exact ⟨rfl, hd⟩

end Go.Proofs.Ytbnilemmgmhbfaa.H
