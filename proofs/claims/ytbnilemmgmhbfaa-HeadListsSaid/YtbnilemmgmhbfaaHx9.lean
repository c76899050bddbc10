-- PRINTED by print.py (a twelfth state) out of the translation. Not trusted: Lean checks it.
import Derived.Test.YtbnilemmgmhbfaaHx0
import Derived.Test.YtbnilemmgmhbfaaHx3
import Derived.Test.YtbnilemmgmhbfaaHx4
namespace Go.Proofs.Ytbnilemmgmhbfaa.H
open Go.RowKit Go.Proofs.YtbnilemmgmhbfaaW.PrintWords Go.Proofs.YtbnilemmgmhbfaaW.PrintLast Go.Proofs.YtbnilemmgmhbfaaW.PrintMore
attribute [local go_sem] max2_int min2_int max_two min_two max_three min_three max_four min_four   -- for this text's walks alone
set_option linter.unusedVariables false
set_option linter.unusedSimpArgs false

/-! ### ambrylaw10_HeadLists: function 6 -/
mutual
def ambrylaw10_HeadLists.j0 : Nat → List ByteArray → List Int → Bool → Option (Bool)
  | 0, _, _, _ => none
  | k + 1, x0, x1, x28 => if x28 = true then (some true) else (ambrylaw10_HeadLists.l0 k x0 x1 (⟨#[]⟩ : ByteArray) ([] : List ByteArray) 0)
def ambrylaw10_HeadLists.l0 : Nat → List ByteArray → List Int → ByteArray → List ByteArray → Int → Option (Bool)
  | 0, _, _, _, _, _ => none
  | k + 1, x0, x1, x5, x6, x7 => if x7 < (x0.length : Int) then (ambrylaw10_HeadLists.l1 k x0 x1 x5 x6 x7 (⟨#[]⟩ : ByteArray) 0) else ((head_List.f k (([(⟨(⟨#[88]⟩ : ByteArray), x5⟩ : S39)] : List (S39))) (⟨#[120]⟩ : ByteArray)).bind fun t240 => ((ambryhelp_Strings.f k t240 x6).bind fun t243 => (some t243)))
def ambrylaw10_HeadLists.l1 : Nat → List ByteArray → List Int → ByteArray → List ByteArray → Int → ByteArray → Int → Option (Bool)
  | 0, _, _, _, _, _, _, _ => none
  | k + 1, x0, x1, x5, x6, x7, x8, x9 => if 0 ≤ x7 then (if x7 < (x0.length : Int) then (if x9 < ((rdOf ByteArray.empty x0 x7).size : Int) then (if 0 ≤ x9 then (if (bt (rdOf ByteArray.empty x0 x7) x9) ≥ 97 then (if (bt (rdOf ByteArray.empty x0 x7) x9) ≤ 122 then (if x9 ≤ (wrap64 (x9 + 1)) then (if (wrap64 (x9 + 1)) ≤ ((rdOf ByteArray.empty x0 x7).size : Int) then (if x8.size + ((rdOf ByteArray.empty x0 x7).extract (x9 : Int).toNat ((wrap64 (x9 + 1)) : Int).toNat).size ≤ 9223372036854775807 then (ambrylaw10_HeadLists.l1 k x0 x1 x5 x6 x7 (x8 ++ ((rdOf ByteArray.empty x0 x7).extract (x9 : Int).toNat ((wrap64 (x9 + 1)) : Int).toNat)) (wrap64 (x9 + 1))) else (none)) else (none)) else (none)) else (if (bt (rdOf ByteArray.empty x0 x7) x9) = 44 then (if x9 ≤ (wrap64 (x9 + 1)) then (if (wrap64 (x9 + 1)) ≤ ((rdOf ByteArray.empty x0 x7).size : Int) then (if x8.size + ((rdOf ByteArray.empty x0 x7).extract (x9 : Int).toNat ((wrap64 (x9 + 1)) : Int).toNat).size ≤ 9223372036854775807 then (ambrylaw10_HeadLists.l1 k x0 x1 x5 x6 x7 (x8 ++ ((rdOf ByteArray.empty x0 x7).extract (x9 : Int).toNat ((wrap64 (x9 + 1)) : Int).toNat)) (wrap64 (x9 + 1))) else (none)) else (none)) else (none)) else (ambrylaw10_HeadLists.l1 k x0 x1 x5 x6 x7 x8 (wrap64 (x9 + 1))))) else (if (bt (rdOf ByteArray.empty x0 x7) x9) = 44 then (if x9 ≤ (wrap64 (x9 + 1)) then (if (wrap64 (x9 + 1)) ≤ ((rdOf ByteArray.empty x0 x7).size : Int) then (if x8.size + ((rdOf ByteArray.empty x0 x7).extract (x9 : Int).toNat ((wrap64 (x9 + 1)) : Int).toNat).size ≤ 9223372036854775807 then (ambrylaw10_HeadLists.l1 k x0 x1 x5 x6 x7 (x8 ++ ((rdOf ByteArray.empty x0 x7).extract (x9 : Int).toNat ((wrap64 (x9 + 1)) : Int).toNat)) (wrap64 (x9 + 1))) else (none)) else (none)) else (none)) else (ambrylaw10_HeadLists.l1 k x0 x1 x5 x6 x7 x8 (wrap64 (x9 + 1))))) else (none)) else (if 1 + x8.size ≤ 9223372036854775807 then (if ((⟨#[34]⟩ : ByteArray) ++ x8).size + 1 ≤ 9223372036854775807 then (if x6.length < 8796093022208 then ((some (x6 ++ [((⟨#[34]⟩ : ByteArray) ++ x8) ++ (⟨#[34]⟩ : ByteArray)] : List ByteArray)).bind fun y249 => (if x7 > 0 then (if x5.size + 1 ≤ 9223372036854775807 then (ambrylaw10_HeadLists.j3 k x0 x1 (x5 ++ (⟨#[44]⟩ : ByteArray)) y249 x7 (((⟨#[34]⟩ : ByteArray) ++ x8) ++ (⟨#[34]⟩ : ByteArray))) else (none)) else (ambrylaw10_HeadLists.j3 k x0 x1 x5 y249 x7 (((⟨#[34]⟩ : ByteArray) ++ x8) ++ (⟨#[34]⟩ : ByteArray))))) else (none)) else (none)) else (none))) else (none)) else (none)
def ambrylaw10_HeadLists.j3 : Nat → List ByteArray → List Int → ByteArray → List ByteArray → Int → ByteArray → Option (Bool)
  | 0, _, _, _, _, _, _ => none
  | k + 1, x0, x1, x5, x6, x7, x8 => ambrylaw10_HeadLists.l2 k x0 x1 x5 x6 x7 x8 0
def ambrylaw10_HeadLists.l2 : Nat → List ByteArray → List Int → ByteArray → List ByteArray → Int → ByteArray → Int → Option (Bool)
  | 0, _, _, _, _, _, _, _ => none
  | k + 1, x0, x1, x5, x6, x7, x8, x11 => if 0 ≤ x7 then (if x7 < (x1.length : Int) then (if x11 < (wrap64 (Int.tmod (rd x1 x7) 3)) then (if 0 ≤ (Int.tmod x11 2) then (if (Int.tmod x11 2) ≤ (wrap64 ((Int.tmod x11 2) + 1)) then (if (wrap64 ((Int.tmod x11 2) + 1)) ≤ 2 then (if x5.size + ((⟨#[32, 9]⟩ : ByteArray).extract ((Int.tmod x11 2) : Int).toNat ((wrap64 ((Int.tmod x11 2) + 1)) : Int).toNat).size ≤ 9223372036854775807 then (ambrylaw10_HeadLists.l2 k x0 x1 (x5 ++ ((⟨#[32, 9]⟩ : ByteArray).extract ((Int.tmod x11 2) : Int).toNat ((wrap64 ((Int.tmod x11 2) + 1)) : Int).toNat)) x6 x7 x8 (wrap64 (x11 + 1))) else (none)) else (none)) else (none)) else (none)) else (if x5.size + x8.size ≤ 9223372036854775807 then (if (Int.tmod (rd x1 x7) 5) = 0 then (if (x5 ++ x8).size + 4 ≤ 9223372036854775807 then (ambrylaw10_HeadLists.l0 k x0 x1 ((x5 ++ x8) ++ (⟨#[32, 44, 32, 44]⟩ : ByteArray)) x6 (wrap64 (x7 + 1))) else (none)) else (ambrylaw10_HeadLists.l0 k x0 x1 (x5 ++ x8) x6 (wrap64 (x7 + 1)))) else (none))) else (none)) else (none)
end
def ambrylaw10_HeadLists.f (k : Nat) (l0 : List ByteArray) (l1 : List Int) : Option (Bool) := (ambrylaw10_known.f k).bind fun t235 => (if t235 = true then ((ambrylaw10_lines.f k l0).bind fun t236 => (if t236 = true then (if (l0.length : Int) > 10 then (ambrylaw10_HeadLists.j0 k l0 l1 true) else (ambrylaw10_HeadLists.j0 k l0 l1 (decide ((l1.length : Int) < (l0.length : Int))))) else (ambrylaw10_HeadLists.j0 k l0 l1 true))) else (some false))
theorem ambrylaw10_HeadLists.mono_l : ∀ k, (∀ y0 y1 y2, LeO (ambrylaw10_HeadLists.j0 k y0 y1 y2) (ambrylaw10_HeadLists.j0 (k + 1) y0 y1 y2)) ∧ (∀ y0 y1 y2 y3 y4, LeO (ambrylaw10_HeadLists.l0 k y0 y1 y2 y3 y4) (ambrylaw10_HeadLists.l0 (k + 1) y0 y1 y2 y3 y4)) ∧ (∀ y0 y1 y2 y3 y4 y5 y6, LeO (ambrylaw10_HeadLists.l1 k y0 y1 y2 y3 y4 y5 y6) (ambrylaw10_HeadLists.l1 (k + 1) y0 y1 y2 y3 y4 y5 y6)) ∧ (∀ y0 y1 y2 y3 y4 y5, LeO (ambrylaw10_HeadLists.j3 k y0 y1 y2 y3 y4 y5) (ambrylaw10_HeadLists.j3 (k + 1) y0 y1 y2 y3 y4 y5)) ∧ (∀ y0 y1 y2 y3 y4 y5 y6, LeO (ambrylaw10_HeadLists.l2 k y0 y1 y2 y3 y4 y5 y6) (ambrylaw10_HeadLists.l2 (k + 1) y0 y1 y2 y3 y4 y5 y6))
  | 0 => ⟨fun _ _ _ r h => by simp [ambrylaw10_HeadLists.j0] at h, fun _ _ _ _ _ r h => by simp [ambrylaw10_HeadLists.l0] at h, fun _ _ _ _ _ _ _ r h => by simp [ambrylaw10_HeadLists.l1] at h, fun _ _ _ _ _ _ r h => by simp [ambrylaw10_HeadLists.j3] at h, fun _ _ _ _ _ _ _ r h => by simp [ambrylaw10_HeadLists.l2] at h⟩
  | k + 1 => by
    obtain ⟨ih0, ih1, ih2, ih3, ih4⟩ := ambrylaw10_HeadLists.mono_l k
    refine ⟨?_, ?_, ?_, ?_, ?_⟩
    · intro y0 y1 y2
      unfold ambrylaw10_HeadLists.j0
      repeat' first
      | (with_reducible exact ih0 _ _ _)
      | (with_reducible exact ih1 _ _ _ _ _)
      | (with_reducible exact ih2 _ _ _ _ _ _ _)
      | (with_reducible exact ih3 _ _ _ _ _ _)
      | (with_reducible exact ih4 _ _ _ _ _ _ _)
      | (with_reducible exact ambryhelp_Strings.mono _ _ _)
      | (with_reducible exact ambrylaw10_known.mono _)
      | (with_reducible exact ambrylaw10_lines.mono _ _)
      | (with_reducible exact head_List.mono _ _ _)
      | (with_reducible exact LeO.refl _)
      | (with_reducible exact LeO.none _)
      | (with_reducible refine LeO.ite ?_ ?_)
      | (with_reducible refine LeO.bind ?_ (fun _ => ?_))
      | exact ih0 _ _ _
      | exact ih1 _ _ _ _ _
      | exact ih2 _ _ _ _ _ _ _
      | exact ih3 _ _ _ _ _ _
      | exact ih4 _ _ _ _ _ _ _
      | exact ambryhelp_Strings.mono _ _ _
      | exact ambrylaw10_known.mono _
      | exact ambrylaw10_lines.mono _ _
      | exact head_List.mono _ _ _
      | exact LeO.none _
      | refine LeO.ite ?_ ?_
      | refine LeO.bind ?_ (fun _ => ?_)
    · intro y0 y1 y2 y3 y4
      unfold ambrylaw10_HeadLists.l0
      repeat' first
      | (with_reducible exact ih0 _ _ _)
      | (with_reducible exact ih1 _ _ _ _ _)
      | (with_reducible exact ih2 _ _ _ _ _ _ _)
      | (with_reducible exact ih3 _ _ _ _ _ _)
      | (with_reducible exact ih4 _ _ _ _ _ _ _)
      | (with_reducible exact ambryhelp_Strings.mono _ _ _)
      | (with_reducible exact ambrylaw10_known.mono _)
      | (with_reducible exact ambrylaw10_lines.mono _ _)
      | (with_reducible exact head_List.mono _ _ _)
      | (with_reducible exact LeO.refl _)
      | (with_reducible exact LeO.none _)
      | (with_reducible refine LeO.ite ?_ ?_)
      | (with_reducible refine LeO.bind ?_ (fun _ => ?_))
      | exact ih0 _ _ _
      | exact ih1 _ _ _ _ _
      | exact ih2 _ _ _ _ _ _ _
      | exact ih3 _ _ _ _ _ _
      | exact ih4 _ _ _ _ _ _ _
      | exact ambryhelp_Strings.mono _ _ _
      | exact ambrylaw10_known.mono _
      | exact ambrylaw10_lines.mono _ _
      | exact head_List.mono _ _ _
      | exact LeO.none _
      | refine LeO.ite ?_ ?_
      | refine LeO.bind ?_ (fun _ => ?_)
    · intro y0 y1 y2 y3 y4 y5 y6
      unfold ambrylaw10_HeadLists.l1
      repeat' first
      | (with_reducible exact ih0 _ _ _)
      | (with_reducible exact ih1 _ _ _ _ _)
      | (with_reducible exact ih2 _ _ _ _ _ _ _)
      | (with_reducible exact ih3 _ _ _ _ _ _)
      | (with_reducible exact ih4 _ _ _ _ _ _ _)
      | (with_reducible exact ambryhelp_Strings.mono _ _ _)
      | (with_reducible exact ambrylaw10_known.mono _)
      | (with_reducible exact ambrylaw10_lines.mono _ _)
      | (with_reducible exact head_List.mono _ _ _)
      | (with_reducible exact LeO.refl _)
      | (with_reducible exact LeO.none _)
      | (with_reducible refine LeO.ite ?_ ?_)
      | (with_reducible refine LeO.bind ?_ (fun _ => ?_))
      | exact ih0 _ _ _
      | exact ih1 _ _ _ _ _
      | exact ih2 _ _ _ _ _ _ _
      | exact ih3 _ _ _ _ _ _
      | exact ih4 _ _ _ _ _ _ _
      | exact ambryhelp_Strings.mono _ _ _
      | exact ambrylaw10_known.mono _
      | exact ambrylaw10_lines.mono _ _
      | exact head_List.mono _ _ _
      | exact LeO.none _
      | refine LeO.ite ?_ ?_
      | refine LeO.bind ?_ (fun _ => ?_)
    · intro y0 y1 y2 y3 y4 y5
      unfold ambrylaw10_HeadLists.j3
      repeat' first
      | (with_reducible exact ih0 _ _ _)
      | (with_reducible exact ih1 _ _ _ _ _)
      | (with_reducible exact ih2 _ _ _ _ _ _ _)
      | (with_reducible exact ih3 _ _ _ _ _ _)
      | (with_reducible exact ih4 _ _ _ _ _ _ _)
      | (with_reducible exact ambryhelp_Strings.mono _ _ _)
      | (with_reducible exact ambrylaw10_known.mono _)
      | (with_reducible exact ambrylaw10_lines.mono _ _)
      | (with_reducible exact head_List.mono _ _ _)
      | (with_reducible exact LeO.refl _)
      | (with_reducible exact LeO.none _)
      | (with_reducible refine LeO.ite ?_ ?_)
      | (with_reducible refine LeO.bind ?_ (fun _ => ?_))
      | exact ih0 _ _ _
      | exact ih1 _ _ _ _ _
      | exact ih2 _ _ _ _ _ _ _
      | exact ih3 _ _ _ _ _ _
      | exact ih4 _ _ _ _ _ _ _
      | exact ambryhelp_Strings.mono _ _ _
      | exact ambrylaw10_known.mono _
      | exact ambrylaw10_lines.mono _ _
      | exact head_List.mono _ _ _
      | exact LeO.none _
      | refine LeO.ite ?_ ?_
      | refine LeO.bind ?_ (fun _ => ?_)
    · intro y0 y1 y2 y3 y4 y5 y6
      unfold ambrylaw10_HeadLists.l2
      repeat' first
      | (with_reducible exact ih0 _ _ _)
      | (with_reducible exact ih1 _ _ _ _ _)
      | (with_reducible exact ih2 _ _ _ _ _ _ _)
      | (with_reducible exact ih3 _ _ _ _ _ _)
      | (with_reducible exact ih4 _ _ _ _ _ _ _)
      | (with_reducible exact ambryhelp_Strings.mono _ _ _)
      | (with_reducible exact ambrylaw10_known.mono _)
      | (with_reducible exact ambrylaw10_lines.mono _ _)
      | (with_reducible exact head_List.mono _ _ _)
      | (with_reducible exact LeO.refl _)
      | (with_reducible exact LeO.none _)
      | (with_reducible refine LeO.ite ?_ ?_)
      | (with_reducible refine LeO.bind ?_ (fun _ => ?_))
      | exact ih0 _ _ _
      | exact ih1 _ _ _ _ _
      | exact ih2 _ _ _ _ _ _ _
      | exact ih3 _ _ _ _ _ _
      | exact ih4 _ _ _ _ _ _ _
      | exact ambryhelp_Strings.mono _ _ _
      | exact ambrylaw10_known.mono _
      | exact ambrylaw10_lines.mono _ _
      | exact head_List.mono _ _ _
      | exact LeO.none _
      | refine LeO.ite ?_ ?_
      | refine LeO.bind ?_ (fun _ => ?_)
theorem ambrylaw10_HeadLists.mono : ∀ a0 a1 k, LeO (ambrylaw10_HeadLists.f k a0 a1) (ambrylaw10_HeadLists.f (k + 1) a0 a1) := by
  intro a0 a1 k
  obtain ⟨ih0, ih1, ih2, ih3, ih4⟩ := ambrylaw10_HeadLists.mono_l k
  unfold ambrylaw10_HeadLists.f
  repeat' first
      | (with_reducible exact ih0 _ _ _)
      | (with_reducible exact ih1 _ _ _ _ _)
      | (with_reducible exact ih2 _ _ _ _ _ _ _)
      | (with_reducible exact ih3 _ _ _ _ _ _)
      | (with_reducible exact ih4 _ _ _ _ _ _ _)
      | (with_reducible exact ambryhelp_Strings.mono _ _ _)
      | (with_reducible exact ambrylaw10_known.mono _)
      | (with_reducible exact ambrylaw10_lines.mono _ _)
      | (with_reducible exact head_List.mono _ _ _)
      | (with_reducible exact LeO.refl _)
      | (with_reducible exact LeO.none _)
      | (with_reducible refine LeO.ite ?_ ?_)
      | (with_reducible refine LeO.bind ?_ (fun _ => ?_))
      | exact ih0 _ _ _
      | exact ih1 _ _ _ _ _
      | exact ih2 _ _ _ _ _ _ _
      | exact ih3 _ _ _ _ _ _
      | exact ih4 _ _ _ _ _ _ _
      | exact ambryhelp_Strings.mono _ _ _
      | exact ambrylaw10_known.mono _
      | exact ambrylaw10_lines.mono _ _
      | exact head_List.mono _ _ _
      | exact LeO.none _
      | refine LeO.ite ?_ ?_
      | refine LeO.bind ?_ (fun _ => ?_)
set_option maxHeartbeats 8000000 in
set_option maxRecDepth 100000 in
theorem ambrylaw10_HeadLists.calls (k : Nat) (A0 : Option Addr) (c0 : Nat) (l0 : List ByteArray) (A1 : Option Addr) (c1 : Nat) (l1 : List Int) (r : Bool) (w : World) (hr0 : Kd.C Kd.string w A0 l0.length l0) (hc0 : l0.length ≤ c0) (hr1 : Kd.C (Kd.int .u8) w A1 l1.length l1) (hc1 : l1.length ≤ c1) (h : ambrylaw10_HeadLists.f k l0 l1 = some r) :
    Calls Try.prog 6 #[.slice A0 l0.length c0, .slice A1 l1.length c1] w fun e w' => e = .returned (.bool r) ∧ Below w.heap.size w w' := by
  have hu39 := Try.underlying39
  have HR0 := Aside0.mk hr0
  have HC0 := Aside0.mk hc0
  clear hr0 hc0
  have HR1 := Aside0.mk hr1
  have HC1 := Aside0.mk hc1
  clear hr1 hc1
  have HB := Aside0.mk (Below.refl w.heap.size w)
  have H : ((ambrylaw10_known.f k).bind fun t235 => (if t235 = true then ((ambrylaw10_lines.f k l0).bind fun t236 => (if t236 = true then (if (l0.length : Int) > 10 then (ambrylaw10_HeadLists.j0 k l0 l1 true) else (ambrylaw10_HeadLists.j0 k l0 l1 (decide ((l1.length : Int) < (l0.length : Int))))) else (ambrylaw10_HeadLists.j0 k l0 l1 true))) else (some false))) = some r := h
  clear h
  replace H := Option.bind_eq_some_iff.mp H
  obtain ⟨t235, A30, H⟩ := H
  replace H : (if t235 = true then ((ambrylaw10_lines.f k l0).bind fun t236 => (if t236 = true then (if (l0.length : Int) > 10 then (ambrylaw10_HeadLists.j0 k l0 l1 true) else (ambrylaw10_HeadLists.j0 k l0 l1 (decide ((l1.length : Int) < (l0.length : Int))))) else (ambrylaw10_HeadLists.j0 k l0 l1 true))) else (some false)) = some r := H
  have A3 := Aside0.mk A30
  clear A30
  by_cases c4 : t235 = true
  · subst c4
    have H1 : ((ambrylaw10_lines.f k l0).bind fun t236 => (if t236 = true then (if (l0.length : Int) > 10 then (ambrylaw10_HeadLists.j0 k l0 l1 true) else (ambrylaw10_HeadLists.j0 k l0 l1 (decide ((l1.length : Int) < (l0.length : Int))))) else (ambrylaw10_HeadLists.j0 k l0 l1 true))) = some r := by rw [if_pos rfl] at H; exact H
    clear H
    have H := H1
    clear H1
    have HC5 := Aside0.mk H
    clear H
    go_enter Try.func6, Try.ntmps6
    go_upto_region 3 with (first | ((with_reducible refine gate_callee (f := 11) rfl ?_); refine goesL_ (some 12) rfl rfl Try.func11 (by kernel_rfl) rfl #[] rfl (by (try simp only [List.map_toArray, List.map_cons, List.map_nil]); first | done | rfl | (simp only [List.length_drop, List.length_take]; rfl)) ?_; (with_reducible refine (ambrylaw10_known.calls k  true _ A3.out).mono ?_); rintro e w6 ⟨rfl, hb⟩; refine ⟨_, rfl, ?_⟩; have n0_ := Aside0.mk (below_step (by repeat (first | (with_reducible first | exact HB.out | apply below_alloc | apply pw_below_drewN | apply below_drew1) | exact HB.out)) hb); clear HB; have HB := n0_; clear n0_; (try clear hb); (try clear hb2); (try clear hk); (try clear hi)))
    (try simp only [Act.put, List.setIfInBounds_toArray, List.set_cons_zero, List.set_cons_succ])
    go_cut [28] (fun v28 wc => ∃ (kq : Nat) (x28_4 : Bool), v28 = .bool x28_4 ∧ Aside0 (ambrylaw10_HeadLists.j0 kq l0 l1 x28_4 = some r) ∧ Aside0 (kq ≤ k) ∧ Aside0 (Below w.heap.size w wc))
    case first =>
      have H := HC5.out
      clear HC5
      replace H := Option.bind_eq_some_iff.mp H
      obtain ⟨t236, A70, H⟩ := H
      replace H : (if t236 = true then (if (l0.length : Int) > 10 then (ambrylaw10_HeadLists.j0 k l0 l1 true) else (ambrylaw10_HeadLists.j0 k l0 l1 (decide ((l1.length : Int) < (l0.length : Int))))) else (ambrylaw10_HeadLists.j0 k l0 l1 true)) = some r := H
      have A7 := Aside0.mk A70
      clear A70
      by_cases c8 : t236 = true
      · subst c8
        have H1 : (if (l0.length : Int) > 10 then (ambrylaw10_HeadLists.j0 k l0 l1 true) else (ambrylaw10_HeadLists.j0 k l0 l1 (decide ((l1.length : Int) < (l0.length : Int))))) = some r := by rw [if_pos rfl] at H; exact H
        clear H
        have H := H1
        clear H1
        by_cases c9 : (l0.length : Int) > 10
        · rw [if_pos c9] at H
          have c9b0 : decide (10 < (l0.length : Int)) = true := decide_eq_true c9
          have c9b1 : decide (10 < l0.length) = true := decide_eq_true (by omega)
          clear c9
          (first | rw [c9b0] | (simp only [i64_w, i32_w]; rw [c9b0]) | skip)
          have H' := Aside0.mk H
          clear H
          go_wp2_with (first | ((with_reducible refine gate_callee (f := 12) rfl ?_); refine goesL_ (some 15) rfl rfl Try.func12 (by kernel_rfl) rfl #[.slice A0 l0.length c0] rfl (by (try simp only [List.map_toArray, List.map_cons, List.map_nil]); first | done | rfl | (simp only [List.length_drop, List.length_take]; rfl)) ?_; (with_reducible refine (ambrylaw10_lines.calls k _ _ l0 true _ ?side1 ?side2 A7.out).mono ?_); (case side1 => repeat (first | exact (Kd.C_below HR0.out HB.out) | (with_reducible refine Kd.C_alloc ?_ _) | (with_reducible refine Kd.C_drewN ?_ _) | (with_reducible refine Kd.C_drew ?_))); (case side2 => exact HC0.out); rintro e w' ⟨rfl, ⟨nd, rfl⟩⟩; refine ⟨_, rfl, ?_⟩))
          go_meet
          case rel => exact ⟨_, (true), (by first | rfl | (simp; done) | (simp [*]; done)), H', ⟨by first | omega | exact Nat.le_refl _⟩, ⟨by repeat (first | (with_reducible first | exact HB.out | apply below_alloc | apply pw_below_drewN | apply below_drew1) | exact HB.out)⟩⟩
        · rw [if_neg c9] at H
          have c9b0 : decide (10 < (l0.length : Int)) = false := decide_eq_false c9
          have c9b1 : decide (10 < l0.length) = false := decide_eq_false (by omega)
          clear c9
          (first | rw [c9b0] | (simp only [i64_w, i32_w]; rw [c9b0]) | skip)
          have H' := Aside0.mk H
          clear H
          go_wp2_with (first | ((with_reducible refine gate_callee (f := 12) rfl ?_); refine goesL_ (some 15) rfl rfl Try.func12 (by kernel_rfl) rfl #[.slice A0 l0.length c0] rfl (by (try simp only [List.map_toArray, List.map_cons, List.map_nil]); first | done | rfl | (simp only [List.length_drop, List.length_take]; rfl)) ?_; (with_reducible refine (ambrylaw10_lines.calls k _ _ l0 true _ ?side1 ?side2 A7.out).mono ?_); (case side1 => repeat (first | exact (Kd.C_below HR0.out HB.out) | (with_reducible refine Kd.C_alloc ?_ _) | (with_reducible refine Kd.C_drewN ?_ _) | (with_reducible refine Kd.C_drew ?_))); (case side2 => exact HC0.out); rintro e w' ⟨rfl, ⟨nd, rfl⟩⟩; refine ⟨_, rfl, ?_⟩))
          go_meet
          case rel => exact ⟨_, (decide ((l1.length : Int) < (l0.length : Int))), (by first | rfl | (simp; done) | (simp [*]; done)), H', ⟨by first | omega | exact Nat.le_refl _⟩, ⟨by repeat (first | (with_reducible first | exact HB.out | apply below_alloc | apply pw_below_drewN | apply below_drew1) | exact HB.out)⟩⟩
      · replace c8 := Bool.eq_false_iff.mpr c8
        subst c8
        have H1 : (ambrylaw10_HeadLists.j0 k l0 l1 true) = some r := by rw [if_neg (show ¬ (false = true) by decide)] at H; exact H
        clear H
        have H := H1
        clear H1
        have H' := Aside0.mk H
        clear H
        go_wp2_with (first | ((with_reducible refine gate_callee (f := 12) rfl ?_); refine goesL_ (some 15) rfl rfl Try.func12 (by kernel_rfl) rfl #[.slice A0 l0.length c0] rfl (by (try simp only [List.map_toArray, List.map_cons, List.map_nil]); first | done | rfl | (simp only [List.length_drop, List.length_take]; rfl)) ?_; (with_reducible refine (ambrylaw10_lines.calls k _ _ l0 false _ ?side1 ?side2 A7.out).mono ?_); (case side1 => repeat (first | exact (Kd.C_below HR0.out HB.out) | (with_reducible refine Kd.C_alloc ?_ _) | (with_reducible refine Kd.C_drewN ?_ _) | (with_reducible refine Kd.C_drew ?_))); (case side2 => exact HC0.out); rintro e w' ⟨rfl, ⟨nd, rfl⟩⟩; refine ⟨_, rfl, ?_⟩))
        go_meet
        case rel => exact ⟨_, (true), (by first | rfl | (simp; done) | (simp [*]; done)), H', ⟨by first | omega | exact Nat.le_refl _⟩, ⟨by repeat (first | (with_reducible first | exact HB.out | apply below_alloc | apply pw_below_drewN | apply below_drew1) | exact HB.out)⟩⟩
    case rest =>
      clear HC5
      try clear c1
      try clear p2
      try clear c4
      try clear c6
      try clear c8
      try clear c9
      try clear c9b0
      try clear c9b1
      obtain ⟨kq, x28_4, rfl, HA, HJ4, HB⟩ := hcut
      cases kq with
      | zero => exact absurd HA.out (by simp [ambrylaw10_HeadLists.j0])
      | succ kj4 =>
        have H := HA.out
        clear HA
        simp only [ambrylaw10_HeadLists.j0] at H
        by_cases c10 : x28_4 = true
        · subst c10
          have H1 : (some true) = some r := by rw [if_pos rfl] at H; exact H
          clear H
          have H := H1
          clear H1
          obtain rfl := Option.some.inj H
          go_wp2
          go_ret
          exact ⟨by first | rfl | (simp [errW_none, errW_some] <;> rfl) | (simp [*, errW_none, errW_some] <;> rfl), by repeat (first | (with_reducible first | exact HB.out | apply below_alloc | apply pw_below_drewN | apply below_drew1) | exact HB.out)⟩
        · replace c10 := Bool.eq_false_iff.mpr c10
          subst c10
          have H1 : (ambrylaw10_HeadLists.l0 kj4 l0 l1 (⟨#[]⟩ : ByteArray) ([] : List ByteArray) 0) = some r := by rw [if_neg (show ¬ (false = true) by decide)] at H; exact H
          clear H
          have H := H1
          clear H1
          have H' := Aside0.mk H
          clear H
          go_wp2
          go_loopg [5, 6, 7] kj4 (fun kq v5 v6 v7 w' => ∃ (x5_2 : ByteArray) (x6_2 : List ByteArray) (x7_2 : Int), v5 = .string x5_2 ∧ v7 = .int .i64 x7_2 ∧ Aside0 (ambrylaw10_HeadLists.l0 kq l0 l1 x5_2 x6_2 x7_2 = some r) ∧ Aside0 (kq ≤ kj4) ∧ Aside0 (Kd.R Kd.string 9 w' w.heap.size (fun _ => True) v6 x6_2) ∧ Aside0 (Below w.heap.size w w'))
          case atStart => exact ⟨((⟨#[]⟩ : ByteArray)), (([] : List ByteArray)), (0), (by first | rfl | (simp; done) | (simp [*]; done)), (by first | rfl | (simp; done) | (simp [*]; done)), H', ⟨Nat.le_refl _⟩, ⟨by first | exact Kd.R_nil _ _ _ _ _ | exact Kd.N_nil _ _ _ _ _ | exact Kd.V_nil _ _ _ _ _ | exact Kd.Q_nil _ _ _ _ _ | exact Kd.S_nil _ _ _ _ _⟩, ⟨by repeat (first | (with_reducible first | exact HB.out | apply below_alloc | apply pw_below_drewN | apply below_drew1) | exact HB.out)⟩⟩
          case round =>
            clear H'
            try clear c1
            try clear p2
            try clear c4
            try clear c6
            try clear c8
            try clear c9
            try clear c9b0
            try clear c9b1
            try clear c10
            try clear p2
            obtain ⟨x5_2, x6_2, x7_2, rfl, rfl, HA, HK2, HO_6, HB⟩ := hrel
            cases gk with
            | zero => exact absurd HA.out (by simp [ambrylaw10_HeadLists.l0])
            | succ k2 =>
              have H := HA.out
              clear HA
              simp only [ambrylaw10_HeadLists.l0] at H
              by_cases c11 : x7_2 < (l0.length : Int)
              · rw [if_pos c11] at H
                have c11b0 : decide (x7_2 < (l0.length : Int)) = true := decide_eq_true c11
                clear c11
                have H' := Aside0.mk H
                clear H
                go_wp2
                go_loopg [8, 9] k2 (fun kq v8 v9 w' => ∃ (x8_3 : ByteArray) (x9_3 : Int), v8 = .string x8_3 ∧ v9 = .int .i64 x9_3 ∧ Aside0 (ambrylaw10_HeadLists.l1 kq l0 l1 x5_2 x6_2 x7_2 x8_3 x9_3 = some r) ∧ Aside0 (kq ≤ k2) ∧ Aside0 (Kd.R Kd.string 9 w' w.heap.size (fun _ => True) u6 x6_2) ∧ Aside0 (Below w.heap.size w w'))
                case atStart => exact ⟨((⟨#[]⟩ : ByteArray)), (0), (by first | rfl | (simp; done) | (simp [*]; done)), (by first | rfl | (simp; done) | (simp [*]; done)), H', ⟨Nat.le_refl _⟩, ⟨by (with_reducible repeat (first | apply Kd.R_alloc | apply Kd.R_drewN | apply Kd.R_drew)); exact HO_6.out⟩, ⟨by repeat (first | (with_reducible first | exact HB.out | apply below_alloc | apply pw_below_drewN | apply below_drew1) | exact HB.out)⟩⟩
                case round =>
                  clear H'
                  try clear c1
                  try clear p2
                  try clear c4
                  try clear c6
                  try clear c8
                  try clear c9
                  try clear c9b0
                  try clear c9b1
                  try clear c10
                  try clear c11
                  try clear c11b0
                  try clear p2
                  obtain ⟨x8_3, x9_3, rfl, rfl, HA, HK3, HO_6, HB⟩ := hrel
                  cases gk with
                  | zero => exact absurd HA.out (by simp [ambrylaw10_HeadLists.l1])
                  | succ k3 =>
                    have H := HA.out
                    clear HA
                    simp only [ambrylaw10_HeadLists.l1] at H
                    by_cases c12 : 0 ≤ x7_2
                    · rw [if_pos c12] at H
                      have c12b0 : decide (0 ≤ x7_2) = true := decide_eq_true c12
                      clear c12
                      by_cases c13 : x7_2 < (l0.length : Int)
                      · rw [if_pos c13] at H
                        have c13b0 : decide (x7_2 < (l0.length : Int)) = true := decide_eq_true c13
                        clear c13
                        by_cases c14 : x9_3 < ((rdOf ByteArray.empty l0 x7_2).size : Int)
                        · rw [if_pos c14] at H
                          have c14b0 : decide (x9_3 < ((rdOf ByteArray.empty l0 x7_2).size : Int)) = true := decide_eq_true c14
                          clear c14
                          by_cases c15 : 0 ≤ x9_3
                          · rw [if_pos c15] at H
                            have c15b0 : decide (0 ≤ x9_3) = true := decide_eq_true c15
                            clear c15
                            by_cases c17 : (bt (rdOf ByteArray.empty l0 x7_2) x9_3) ≥ 97
                            · rw [if_pos c17] at H
                              have c17b0 : decide (97 ≤ (bt (rdOf ByteArray.empty l0 x7_2) x9_3)) = true := decide_eq_true c17
                              clear c17
                              by_cases c18 : (bt (rdOf ByteArray.empty l0 x7_2) x9_3) ≤ 122
                              · rw [if_pos c18] at H
                                have c18b0 : decide ((bt (rdOf ByteArray.empty l0 x7_2) x9_3) ≤ 122) = true := decide_eq_true c18
                                clear c18
                                have c19b0 := eq_true (of_decide_eq_true (by first | (with_reducible assumption) | assumption) : 0 ≤ x9_3)
                                by_cases c20 : x9_3 ≤ (wrap64 (x9_3 + 1))
                                · rw [if_pos c20] at H
                                  have c20b0 := eq_true c20
                                  have c20b1 : decide (x9_3 ≤ (wrap64 (x9_3 + 1))) = true := decide_eq_true c20
                                  by_cases c21 : (wrap64 (x9_3 + 1)) ≤ ((rdOf ByteArray.empty l0 x7_2).size : Int)
                                  · rw [if_pos c21] at H
                                    have c21b0 := eq_true c21
                                    have c21b1 : decide ((wrap64 (x9_3 + 1)) ≤ ((rdOf ByteArray.empty l0 x7_2).size : Int)) = true := decide_eq_true c21
                                    by_cases c22 : x8_3.size + ((rdOf ByteArray.empty l0 x7_2).extract (x9_3 : Int).toNat ((wrap64 (x9_3 + 1)) : Int).toNat).size ≤ 9223372036854775807
                                    · rw [if_pos c22] at H
                                      have c22b0 := eq_true c22
                                      have c22b1 : decide (x8_3.size + ((rdOf ByteArray.empty l0 x7_2).extract (x9_3 : Int).toNat ((wrap64 (x9_3 + 1)) : Int).toNat).size ≤ 9223372036854775807) = true := decide_eq_true c22
                                      try have c22b2 : (9223372036854775807 < x8_3.size + ((rdOf ByteArray.empty l0 x7_2).extract (x9_3 : Int).toNat ((wrap64 (x9_3 + 1)) : Int).toNat).size) = False := eq_false (Nat.not_lt.2 c22)
                                      have H' := Aside0.mk H
                                      clear H
                                      have p244 : 0 ≤ (x7_2 : Int) := of_decide_eq_true (by first | (with_reducible assumption) | assumption)
                                      have q244 : x7_2 < (l0.length : Int) := of_decide_eq_true (by first | (with_reducible assumption) | assumption)
                                      obtain ⟨ad244, e244, hx244_0⟩ := Kd.at_string HR0.out x7_2 p244 q244
                                      cases e244
                                      replace hx244_0 := (HB.out.cell (World.block_lt_of_cell? w _ hx244_0)).trans hx244_0
                                      replace p244 := eq_true p244
                                      replace q244 := eq_true q244
                                      have p245 : 0 ≤ (x7_2 : Int) := of_decide_eq_true (by first | (with_reducible assumption) | assumption)
                                      have q245 : x7_2 < (l0.length : Int) := of_decide_eq_true (by first | (with_reducible assumption) | assumption)
                                      obtain ⟨ad245, e245, hx245_0⟩ := Kd.at_string HR0.out x7_2 p245 q245
                                      obtain rfl : ad244 = ad245 := (by injection e245)
                                      replace hx245_0 := (HB.out.cell (World.block_lt_of_cell? w _ hx245_0)).trans hx245_0
                                      replace p245 := eq_true p245
                                      replace q245 := eq_true q245
                                      have p16 : 0 ≤ (x9_3 : Int) := of_decide_eq_true (by first | (with_reducible assumption) | assumption)
                                      have q16 : x9_3 < ((rdOf ByteArray.empty l0 x7_2).size : Int) := of_decide_eq_true (by first | (with_reducible assumption) | assumption)
                                      have hx16 := bt_at (rdOf ByteArray.empty l0 x7_2) x9_3
                                      replace p16 := eq_true p16
                                      replace q16 := eq_true q16
                                      have p246 : 0 ≤ (x7_2 : Int) := of_decide_eq_true (by first | (with_reducible assumption) | assumption)
                                      have q246 : x7_2 < (l0.length : Int) := of_decide_eq_true (by first | (with_reducible assumption) | assumption)
                                      obtain ⟨ad246, e246, hx246_0⟩ := Kd.at_string HR0.out x7_2 p246 q246
                                      obtain rfl : ad244 = ad246 := (by injection e246)
                                      replace hx246_0 := (HB.out.cell (World.block_lt_of_cell? w _ hx246_0)).trans hx246_0
                                      replace p246 := eq_true p246
                                      replace q246 := eq_true q246
                                      go_wp2
                                      go_roundg k3
                                      case measure => have := HJ4.out; have := HK2.out; have := HK3.out; omega
                                      case rel => exact ⟨(x8_3 ++ ((rdOf ByteArray.empty l0 x7_2).extract (x9_3 : Int).toNat ((wrap64 (x9_3 + 1)) : Int).toNat)), (wrap64 (x9_3 + 1)), (by first | rfl | (simp; done) | (simp [*]; done)), (by first | rfl | (simp; done) | (simp [*]; done)), H', ⟨by have := HJ4.out; have := HK2.out; have := HK3.out; omega⟩, ⟨by (with_reducible repeat (first | apply Kd.R_alloc | apply Kd.R_drewN | apply Kd.R_drew)); exact HO_6.out⟩, ⟨by repeat (first | (with_reducible first | exact HB.out | apply below_alloc | apply pw_below_drewN | apply below_drew1) | exact HB.out)⟩⟩
                                    · rw [if_neg c22] at H
                                      exact absurd H (by simp)
                                  · rw [if_neg c21] at H
                                    exact absurd H (by simp)
                                · rw [if_neg c20] at H
                                  exact absurd H (by simp)
                              · rw [if_neg c18] at H
                                have c18b0 : decide ((bt (rdOf ByteArray.empty l0 x7_2) x9_3) ≤ 122) = false := decide_eq_false c18
                                clear c18
                                by_cases c23 : (bt (rdOf ByteArray.empty l0 x7_2) x9_3) = 44
                                · rw [if_pos c23] at H
                                  have c23b0 : ((bt (rdOf ByteArray.empty l0 x7_2) x9_3) == 44) = true := beq_iff_eq.mpr c23
                                  have c23b1 : ((bt (rdOf ByteArray.empty l0 x7_2) x9_3) != 44) = false := bne_eq_false_iff_eq.mpr c23
                                  clear c23
                                  have c24b0 := eq_true (of_decide_eq_true (by first | (with_reducible assumption) | assumption) : 0 ≤ x9_3)
                                  by_cases c25 : x9_3 ≤ (wrap64 (x9_3 + 1))
                                  · rw [if_pos c25] at H
                                    have c25b0 := eq_true c25
                                    have c25b1 : decide (x9_3 ≤ (wrap64 (x9_3 + 1))) = true := decide_eq_true c25
                                    by_cases c26 : (wrap64 (x9_3 + 1)) ≤ ((rdOf ByteArray.empty l0 x7_2).size : Int)
                                    · rw [if_pos c26] at H
                                      have c26b0 := eq_true c26
                                      have c26b1 : decide ((wrap64 (x9_3 + 1)) ≤ ((rdOf ByteArray.empty l0 x7_2).size : Int)) = true := decide_eq_true c26
                                      by_cases c27 : x8_3.size + ((rdOf ByteArray.empty l0 x7_2).extract (x9_3 : Int).toNat ((wrap64 (x9_3 + 1)) : Int).toNat).size ≤ 9223372036854775807
                                      · rw [if_pos c27] at H
                                        have c27b0 := eq_true c27
                                        have c27b1 : decide (x8_3.size + ((rdOf ByteArray.empty l0 x7_2).extract (x9_3 : Int).toNat ((wrap64 (x9_3 + 1)) : Int).toNat).size ≤ 9223372036854775807) = true := decide_eq_true c27
                                        try have c27b2 : (9223372036854775807 < x8_3.size + ((rdOf ByteArray.empty l0 x7_2).extract (x9_3 : Int).toNat ((wrap64 (x9_3 + 1)) : Int).toNat).size) = False := eq_false (Nat.not_lt.2 c27)
                                        have H' := Aside0.mk H
                                        clear H
                                        have p244 : 0 ≤ (x7_2 : Int) := of_decide_eq_true (by first | (with_reducible assumption) | assumption)
                                        have q244 : x7_2 < (l0.length : Int) := of_decide_eq_true (by first | (with_reducible assumption) | assumption)
                                        obtain ⟨ad244, e244, hx244_0⟩ := Kd.at_string HR0.out x7_2 p244 q244
                                        cases e244
                                        replace hx244_0 := (HB.out.cell (World.block_lt_of_cell? w _ hx244_0)).trans hx244_0
                                        replace p244 := eq_true p244
                                        replace q244 := eq_true q244
                                        have p245 : 0 ≤ (x7_2 : Int) := of_decide_eq_true (by first | (with_reducible assumption) | assumption)
                                        have q245 : x7_2 < (l0.length : Int) := of_decide_eq_true (by first | (with_reducible assumption) | assumption)
                                        obtain ⟨ad245, e245, hx245_0⟩ := Kd.at_string HR0.out x7_2 p245 q245
                                        obtain rfl : ad244 = ad245 := (by injection e245)
                                        replace hx245_0 := (HB.out.cell (World.block_lt_of_cell? w _ hx245_0)).trans hx245_0
                                        replace p245 := eq_true p245
                                        replace q245 := eq_true q245
                                        have p16 : 0 ≤ (x9_3 : Int) := of_decide_eq_true (by first | (with_reducible assumption) | assumption)
                                        have q16 : x9_3 < ((rdOf ByteArray.empty l0 x7_2).size : Int) := of_decide_eq_true (by first | (with_reducible assumption) | assumption)
                                        have hx16 := bt_at (rdOf ByteArray.empty l0 x7_2) x9_3
                                        replace p16 := eq_true p16
                                        replace q16 := eq_true q16
                                        have p247 : 0 ≤ (x7_2 : Int) := of_decide_eq_true (by first | (with_reducible assumption) | assumption)
                                        have q247 : x7_2 < (l0.length : Int) := of_decide_eq_true (by first | (with_reducible assumption) | assumption)
                                        obtain ⟨ad247, e247, hx247_0⟩ := Kd.at_string HR0.out x7_2 p247 q247
                                        obtain rfl : ad244 = ad247 := (by injection e247)
                                        replace hx247_0 := (HB.out.cell (World.block_lt_of_cell? w _ hx247_0)).trans hx247_0
                                        replace p247 := eq_true p247
                                        replace q247 := eq_true q247
                                        go_wp2
                                        go_roundg k3
                                        case measure => have := HJ4.out; have := HK2.out; have := HK3.out; omega
                                        case rel => exact ⟨(x8_3 ++ ((rdOf ByteArray.empty l0 x7_2).extract (x9_3 : Int).toNat ((wrap64 (x9_3 + 1)) : Int).toNat)), (wrap64 (x9_3 + 1)), (by first | rfl | (simp; done) | (simp [*]; done)), (by first | rfl | (simp; done) | (simp [*]; done)), H', ⟨by have := HJ4.out; have := HK2.out; have := HK3.out; omega⟩, ⟨by (with_reducible repeat (first | apply Kd.R_alloc | apply Kd.R_drewN | apply Kd.R_drew)); exact HO_6.out⟩, ⟨by repeat (first | (with_reducible first | exact HB.out | apply below_alloc | apply pw_below_drewN | apply below_drew1) | exact HB.out)⟩⟩
                                      · rw [if_neg c27] at H
                                        exact absurd H (by simp)
                                    · rw [if_neg c26] at H
                                      exact absurd H (by simp)
                                  · rw [if_neg c25] at H
                                    exact absurd H (by simp)
                                · rw [if_neg c23] at H
                                  have c23b0 : ((bt (rdOf ByteArray.empty l0 x7_2) x9_3) == 44) = false := beq_eq_false_iff_ne.mpr c23
                                  have c23b1 : ((bt (rdOf ByteArray.empty l0 x7_2) x9_3) != 44) = true := bne_iff_ne.mpr c23
                                  have H' := Aside0.mk H
                                  clear H
                                  have p244 : 0 ≤ (x7_2 : Int) := of_decide_eq_true (by first | (with_reducible assumption) | assumption)
                                  have q244 : x7_2 < (l0.length : Int) := of_decide_eq_true (by first | (with_reducible assumption) | assumption)
                                  obtain ⟨ad244, e244, hx244_0⟩ := Kd.at_string HR0.out x7_2 p244 q244
                                  cases e244
                                  replace hx244_0 := (HB.out.cell (World.block_lt_of_cell? w _ hx244_0)).trans hx244_0
                                  replace p244 := eq_true p244
                                  replace q244 := eq_true q244
                                  have p245 : 0 ≤ (x7_2 : Int) := of_decide_eq_true (by first | (with_reducible assumption) | assumption)
                                  have q245 : x7_2 < (l0.length : Int) := of_decide_eq_true (by first | (with_reducible assumption) | assumption)
                                  obtain ⟨ad245, e245, hx245_0⟩ := Kd.at_string HR0.out x7_2 p245 q245
                                  obtain rfl : ad244 = ad245 := (by injection e245)
                                  replace hx245_0 := (HB.out.cell (World.block_lt_of_cell? w _ hx245_0)).trans hx245_0
                                  replace p245 := eq_true p245
                                  replace q245 := eq_true q245
                                  have p16 : 0 ≤ (x9_3 : Int) := of_decide_eq_true (by first | (with_reducible assumption) | assumption)
                                  have q16 : x9_3 < ((rdOf ByteArray.empty l0 x7_2).size : Int) := of_decide_eq_true (by first | (with_reducible assumption) | assumption)
                                  have hx16 := bt_at (rdOf ByteArray.empty l0 x7_2) x9_3
                                  replace p16 := eq_true p16
                                  replace q16 := eq_true q16
                                  go_wp2
                                  go_roundg k3
                                  case measure => have := HJ4.out; have := HK2.out; have := HK3.out; omega
                                  case rel => exact ⟨(x8_3), (wrap64 (x9_3 + 1)), (by first | rfl | (simp; done) | (simp [*]; done)), (by first | rfl | (simp; done) | (simp [*]; done)), H', ⟨by have := HJ4.out; have := HK2.out; have := HK3.out; omega⟩, ⟨by (with_reducible repeat (first | apply Kd.R_alloc | apply Kd.R_drewN | apply Kd.R_drew)); exact HO_6.out⟩, ⟨by repeat (first | (with_reducible first | exact HB.out | apply below_alloc | apply pw_below_drewN | apply below_drew1) | exact HB.out)⟩⟩
                            · rw [if_neg c17] at H
                              have c17b0 : decide (97 ≤ (bt (rdOf ByteArray.empty l0 x7_2) x9_3)) = false := decide_eq_false c17
                              clear c17
                              by_cases c28 : (bt (rdOf ByteArray.empty l0 x7_2) x9_3) = 44
                              · rw [if_pos c28] at H
                                have c28b0 : ((bt (rdOf ByteArray.empty l0 x7_2) x9_3) == 44) = true := beq_iff_eq.mpr c28
                                have c28b1 : ((bt (rdOf ByteArray.empty l0 x7_2) x9_3) != 44) = false := bne_eq_false_iff_eq.mpr c28
                                clear c28
                                have c29b0 := eq_true (of_decide_eq_true (by first | (with_reducible assumption) | assumption) : 0 ≤ x9_3)
                                by_cases c30 : x9_3 ≤ (wrap64 (x9_3 + 1))
                                · rw [if_pos c30] at H
                                  have c30b0 := eq_true c30
                                  have c30b1 : decide (x9_3 ≤ (wrap64 (x9_3 + 1))) = true := decide_eq_true c30
                                  by_cases c31 : (wrap64 (x9_3 + 1)) ≤ ((rdOf ByteArray.empty l0 x7_2).size : Int)
                                  · rw [if_pos c31] at H
                                    have c31b0 := eq_true c31
                                    have c31b1 : decide ((wrap64 (x9_3 + 1)) ≤ ((rdOf ByteArray.empty l0 x7_2).size : Int)) = true := decide_eq_true c31
                                    by_cases c32 : x8_3.size + ((rdOf ByteArray.empty l0 x7_2).extract (x9_3 : Int).toNat ((wrap64 (x9_3 + 1)) : Int).toNat).size ≤ 9223372036854775807
                                    · rw [if_pos c32] at H
                                      have c32b0 := eq_true c32
                                      have c32b1 : decide (x8_3.size + ((rdOf ByteArray.empty l0 x7_2).extract (x9_3 : Int).toNat ((wrap64 (x9_3 + 1)) : Int).toNat).size ≤ 9223372036854775807) = true := decide_eq_true c32
                                      try have c32b2 : (9223372036854775807 < x8_3.size + ((rdOf ByteArray.empty l0 x7_2).extract (x9_3 : Int).toNat ((wrap64 (x9_3 + 1)) : Int).toNat).size) = False := eq_false (Nat.not_lt.2 c32)
                                      have H' := Aside0.mk H
                                      clear H
                                      have p244 : 0 ≤ (x7_2 : Int) := of_decide_eq_true (by first | (with_reducible assumption) | assumption)
                                      have q244 : x7_2 < (l0.length : Int) := of_decide_eq_true (by first | (with_reducible assumption) | assumption)
                                      obtain ⟨ad244, e244, hx244_0⟩ := Kd.at_string HR0.out x7_2 p244 q244
                                      cases e244
                                      replace hx244_0 := (HB.out.cell (World.block_lt_of_cell? w _ hx244_0)).trans hx244_0
                                      replace p244 := eq_true p244
                                      replace q244 := eq_true q244
                                      have p245 : 0 ≤ (x7_2 : Int) := of_decide_eq_true (by first | (with_reducible assumption) | assumption)
                                      have q245 : x7_2 < (l0.length : Int) := of_decide_eq_true (by first | (with_reducible assumption) | assumption)
                                      obtain ⟨ad245, e245, hx245_0⟩ := Kd.at_string HR0.out x7_2 p245 q245
                                      obtain rfl : ad244 = ad245 := (by injection e245)
                                      replace hx245_0 := (HB.out.cell (World.block_lt_of_cell? w _ hx245_0)).trans hx245_0
                                      replace p245 := eq_true p245
                                      replace q245 := eq_true q245
                                      have p16 : 0 ≤ (x9_3 : Int) := of_decide_eq_true (by first | (with_reducible assumption) | assumption)
                                      have q16 : x9_3 < ((rdOf ByteArray.empty l0 x7_2).size : Int) := of_decide_eq_true (by first | (with_reducible assumption) | assumption)
                                      have hx16 := bt_at (rdOf ByteArray.empty l0 x7_2) x9_3
                                      replace p16 := eq_true p16
                                      replace q16 := eq_true q16
                                      have p248 : 0 ≤ (x7_2 : Int) := of_decide_eq_true (by first | (with_reducible assumption) | assumption)
                                      have q248 : x7_2 < (l0.length : Int) := of_decide_eq_true (by first | (with_reducible assumption) | assumption)
                                      obtain ⟨ad248, e248, hx248_0⟩ := Kd.at_string HR0.out x7_2 p248 q248
                                      obtain rfl : ad244 = ad248 := (by injection e248)
                                      replace hx248_0 := (HB.out.cell (World.block_lt_of_cell? w _ hx248_0)).trans hx248_0
                                      replace p248 := eq_true p248
                                      replace q248 := eq_true q248
                                      go_wp2
                                      go_roundg k3
                                      case measure => have := HJ4.out; have := HK2.out; have := HK3.out; omega
                                      case rel => exact ⟨(x8_3 ++ ((rdOf ByteArray.empty l0 x7_2).extract (x9_3 : Int).toNat ((wrap64 (x9_3 + 1)) : Int).toNat)), (wrap64 (x9_3 + 1)), (by first | rfl | (simp; done) | (simp [*]; done)), (by first | rfl | (simp; done) | (simp [*]; done)), H', ⟨by have := HJ4.out; have := HK2.out; have := HK3.out; omega⟩, ⟨by (with_reducible repeat (first | apply Kd.R_alloc | apply Kd.R_drewN | apply Kd.R_drew)); exact HO_6.out⟩, ⟨by repeat (first | (with_reducible first | exact HB.out | apply below_alloc | apply pw_below_drewN | apply below_drew1) | exact HB.out)⟩⟩
                                    · rw [if_neg c32] at H
                                      exact absurd H (by simp)
                                  · rw [if_neg c31] at H
                                    exact absurd H (by simp)
                                · rw [if_neg c30] at H
                                  exact absurd H (by simp)
                              · rw [if_neg c28] at H
                                have c28b0 : ((bt (rdOf ByteArray.empty l0 x7_2) x9_3) == 44) = false := beq_eq_false_iff_ne.mpr c28
                                have c28b1 : ((bt (rdOf ByteArray.empty l0 x7_2) x9_3) != 44) = true := bne_iff_ne.mpr c28
                                have H' := Aside0.mk H
                                clear H
                                have p244 : 0 ≤ (x7_2 : Int) := of_decide_eq_true (by first | (with_reducible assumption) | assumption)
                                have q244 : x7_2 < (l0.length : Int) := of_decide_eq_true (by first | (with_reducible assumption) | assumption)
                                obtain ⟨ad244, e244, hx244_0⟩ := Kd.at_string HR0.out x7_2 p244 q244
                                cases e244
                                replace hx244_0 := (HB.out.cell (World.block_lt_of_cell? w _ hx244_0)).trans hx244_0
                                replace p244 := eq_true p244
                                replace q244 := eq_true q244
                                have p245 : 0 ≤ (x7_2 : Int) := of_decide_eq_true (by first | (with_reducible assumption) | assumption)
                                have q245 : x7_2 < (l0.length : Int) := of_decide_eq_true (by first | (with_reducible assumption) | assumption)
                                obtain ⟨ad245, e245, hx245_0⟩ := Kd.at_string HR0.out x7_2 p245 q245
                                obtain rfl : ad244 = ad245 := (by injection e245)
                                replace hx245_0 := (HB.out.cell (World.block_lt_of_cell? w _ hx245_0)).trans hx245_0
                                replace p245 := eq_true p245
                                replace q245 := eq_true q245
                                have p16 : 0 ≤ (x9_3 : Int) := of_decide_eq_true (by first | (with_reducible assumption) | assumption)
                                have q16 : x9_3 < ((rdOf ByteArray.empty l0 x7_2).size : Int) := of_decide_eq_true (by first | (with_reducible assumption) | assumption)
                                have hx16 := bt_at (rdOf ByteArray.empty l0 x7_2) x9_3
                                replace p16 := eq_true p16
                                replace q16 := eq_true q16
                                go_wp2
                                go_roundg k3
                                case measure => have := HJ4.out; have := HK2.out; have := HK3.out; omega
                                case rel => exact ⟨(x8_3), (wrap64 (x9_3 + 1)), (by first | rfl | (simp; done) | (simp [*]; done)), (by first | rfl | (simp; done) | (simp [*]; done)), H', ⟨by have := HJ4.out; have := HK2.out; have := HK3.out; omega⟩, ⟨by (with_reducible repeat (first | apply Kd.R_alloc | apply Kd.R_drewN | apply Kd.R_drew)); exact HO_6.out⟩, ⟨by repeat (first | (with_reducible first | exact HB.out | apply below_alloc | apply pw_below_drewN | apply below_drew1) | exact HB.out)⟩⟩
                          · rw [if_neg c15] at H
                            exact absurd H (by simp)
                        · rw [if_neg c14] at H
                          have c14b0 : decide (x9_3 < ((rdOf ByteArray.empty l0 x7_2).size : Int)) = false := decide_eq_false c14
                          clear c14
                          by_cases c33 : 1 + x8_3.size ≤ 9223372036854775807
                          · rw [if_pos c33] at H
                            have c33b0 := eq_true c33
                            have c33b1 : decide (1 + x8_3.size ≤ 9223372036854775807) = true := decide_eq_true c33
                            try have c33b2 : (9223372036854775807 < 1 + x8_3.size) = False := eq_false (Nat.not_lt.2 c33)
                            by_cases c34 : ((⟨#[34]⟩ : ByteArray) ++ x8_3).size + 1 ≤ 9223372036854775807
                            · rw [if_pos c34] at H
                              have c34b0 := eq_true c34
                              have c34b1 : decide (((⟨#[34]⟩ : ByteArray) ++ x8_3).size + 1 ≤ 9223372036854775807) = true := decide_eq_true c34
                              try have c34b2 : (9223372036854775807 < ((⟨#[34]⟩ : ByteArray) ++ x8_3).size + 1) = False := eq_false (Nat.not_lt.2 c34)
                              try (have c34d := Nat.not_lt.2 c34; simp only [ByteArray.size_append, (show (⟨#[34]⟩ : ByteArray).size = 1 from rfl), Nat.reduceAdd] at c34d; replace c34d := eq_false c34d)
                              by_cases c35 : x6_2.length < 8796093022208
                              · rw [if_pos c35] at H
                                have LMc35 := Aside0.mk c35
                                clear c35
                                obtain ⟨y249, hy249⟩ : ∃ y_ : List ByteArray, y_ = (x6_2 ++ [((⟨#[34]⟩ : ByteArray) ++ x8_3) ++ (⟨#[34]⟩ : ByteArray)]) := ⟨_, rfl⟩
                                replace H : (if x7_2 > 0 then (if x5_2.size + 1 ≤ 9223372036854775807 then (ambrylaw10_HeadLists.j3 k3 l0 l1 (x5_2 ++ (⟨#[44]⟩ : ByteArray)) y249 x7_2 (((⟨#[34]⟩ : ByteArray) ++ x8_3) ++ (⟨#[34]⟩ : ByteArray))) else (none)) else (ambrylaw10_HeadLists.j3 k3 l0 l1 x5_2 y249 x7_2 (((⟨#[34]⟩ : ByteArray) ++ x8_3) ++ (⟨#[34]⟩ : ByteArray)))) = some r := by first | (rw [hy249]; with_reducible exact H) | (have H2_ := (Option.bind_some _ _).symm.trans H; rw [hy249]; with_reducible exact H2_) | (have H2_ := (Option.bind_some _ _).symm.trans H; with_reducible exact H2_) | with_reducible exact H | (rw [hy249]; exact H) | exact H
                                have Ny249 := Aside0.mk hy249
                                clear hy249
                                have HC36 := Aside0.mk H
                                clear H
                                have p244 : 0 ≤ (x7_2 : Int) := of_decide_eq_true (by first | (with_reducible assumption) | assumption)
                                have q244 : x7_2 < (l0.length : Int) := of_decide_eq_true (by first | (with_reducible assumption) | assumption)
                                obtain ⟨ad244, e244, hx244_0⟩ := Kd.at_string HR0.out x7_2 p244 q244
                                cases e244
                                replace hx244_0 := (HB.out.cell (World.block_lt_of_cell? w _ hx244_0)).trans hx244_0
                                replace p244 := eq_true p244
                                replace q244 := eq_true q244
                                go_upto_if 78 with (first | ((with_reducible refine gate_builtin (b := .append) (xs := #[.tmp 73, .tmp 75]) rfl ?_); (try (refine gate_guard (by rfl) ?_; dsimp only)); at_builtin; refine Kd.R_append Kd.string (w0 := w) w.heap.size rfl (.tmp 73) (.tmp 75) 22 9 (.string ⟨#[]⟩) 16 rfl Try.underlying22 info9 rfl (by decide) (by omega) u6 x6_2 (((⟨#[34]⟩ : ByteArray) ++ x8_3) ++ (⟨#[34]⟩ : ByteArray)) [.string (((⟨#[34]⟩ : ByteArray) ++ x8_3) ++ (⟨#[34]⟩ : ByteArray))] (fun _ => True) (fun _ => False) rfl rfl ?aP (fun _ hk => hk.elim) ?aF ?aO ?aB ?aS ?aL ?_; (case aP => exact rfl); (case aB => exact (by repeat (first | (with_reducible first | exact HB.out | apply below_alloc | apply pw_below_drewN | apply below_drew1) | exact HB.out))); (case aF => exact (fun _ _ => trivial)); (case aO => exact (by (with_reducible repeat (first | apply Kd.R_alloc | apply Kd.R_drewN | apply Kd.R_drew)); exact HO_6.out)); (case aS => exact (below_size (by repeat (first | (with_reducible first | exact HB.out | apply below_alloc | apply pw_below_drewN | apply below_drew1) | exact HB.out)))); (case aL => have := LMc35.out; omega); intro v250 w37 ho hb hg hat; rw [← Ny249.out] at ho; have n0_ := Aside0.mk (hb); have n1_ := Aside0.mk (ho); clear HB; clear HO_6; have HB := n0_; have HO251 := n1_; clear n0_ n1_; clear ho hb hg hat))
                                (try simp only [Act.put, List.setIfInBounds_toArray, List.set_cons_zero, List.set_cons_succ])
                                go_cut [5] (fun v5 wc => ∃ (kq : Nat) (x5_35 : ByteArray), v5 = .string x5_35 ∧ Aside0 (ambrylaw10_HeadLists.j3 kq l0 l1 x5_35 y249 x7_2 (((⟨#[34]⟩ : ByteArray) ++ x8_3) ++ (⟨#[34]⟩ : ByteArray)) = some r) ∧ Aside0 (kq ≤ k3) ∧ Aside0 (Kd.R Kd.string 9 wc w.heap.size (fun _ => True) v250 y249) ∧ Aside0 (Below w.heap.size w wc))
                                case first =>
                                  have H := HC36.out
                                  clear HC36
                                  by_cases c38 : x7_2 > 0
                                  · rw [if_pos c38] at H
                                    have c38b0 : decide (0 < x7_2) = true := decide_eq_true c38
                                    clear c38
                                    (first | rw [c38b0] | (simp only [i64_w, i32_w]; rw [c38b0]) | skip)
                                    by_cases c39 : x5_2.size + 1 ≤ 9223372036854775807
                                    · rw [if_pos c39] at H
                                      have c39b0 := eq_true c39
                                      have c39b1 : decide (x5_2.size + 1 ≤ 9223372036854775807) = true := decide_eq_true c39
                                      try have c39b2 : (9223372036854775807 < x5_2.size + 1) = False := eq_false (Nat.not_lt.2 c39)
                                      have H' := Aside0.mk H
                                      clear H
                                      go_wp2
                                      go_meet
                                      case rel => exact ⟨_, (x5_2 ++ (⟨#[44]⟩ : ByteArray)), (by first | rfl | (simp; done) | (simp [*]; done)), H', ⟨by have := HJ4.out; have := HK2.out; have := HK3.out; first | omega | exact Nat.le_refl _⟩, ⟨by (with_reducible repeat (first | apply Kd.R_alloc | apply Kd.R_drewN | apply Kd.R_drew)); exact HO251.out⟩, ⟨by repeat (first | (with_reducible first | exact HB.out | apply below_alloc | apply pw_below_drewN | apply below_drew1) | exact HB.out)⟩⟩
                                    · rw [if_neg c39] at H
                                      exact absurd H (by simp)
                                  · rw [if_neg c38] at H
                                    have c38b0 : decide (0 < x7_2) = false := decide_eq_false c38
                                    clear c38
                                    (first | rw [c38b0] | (simp only [i64_w, i32_w]; rw [c38b0]) | skip)
                                    have H' := Aside0.mk H
                                    clear H
                                    go_wp2
                                    go_meet
                                    case rel => exact ⟨_, (x5_2), (by first | rfl | (simp; done) | (simp [*]; done)), H', ⟨by have := HJ4.out; have := HK2.out; have := HK3.out; first | omega | exact Nat.le_refl _⟩, ⟨by (with_reducible repeat (first | apply Kd.R_alloc | apply Kd.R_drewN | apply Kd.R_drew)); exact HO251.out⟩, ⟨by repeat (first | (with_reducible first | exact HB.out | apply below_alloc | apply pw_below_drewN | apply below_drew1) | exact HB.out)⟩⟩
                                case rest =>
                                  clear HC36
                                  try clear c1
                                  try clear p1
                                  try clear q1
                                  try clear hx1
                                  try clear c2
                                  try clear p2
                                  try clear q2
                                  try clear hx2
                                  try clear c3
                                  try clear c4
                                  try clear c6
                                  try clear p6
                                  try clear c8
                                  try clear c9
                                  try clear c9b0
                                  try clear c9b1
                                  try clear c10
                                  try clear c11
                                  try clear c11b0
                                  try clear c12
                                  try clear c12b0
                                  try clear c13
                                  try clear c13b0
                                  try clear c14
                                  try clear c14b0
                                  try clear c15
                                  try clear c15b0
                                  try clear p16
                                  try clear q16
                                  try clear hx16
                                  try clear c17
                                  try clear c17b0
                                  try clear c18
                                  try clear c18b0
                                  try clear c19
                                  try clear c19b0
                                  try clear c20
                                  try clear c20b0
                                  try clear c20b1
                                  try clear c21
                                  try clear c21b0
                                  try clear c21b1
                                  try clear c22
                                  try clear c22b0
                                  try clear c22b1
                                  try clear c22b2
                                  try clear c23
                                  try clear c23b0
                                  try clear c23b1
                                  try clear c24
                                  try clear c24b0
                                  try clear p24
                                  try clear q24
                                  try clear hx24
                                  try clear c25
                                  try clear c25b0
                                  try clear c25b1
                                  try clear c26
                                  try clear c26b0
                                  try clear c26b1
                                  try clear c27
                                  try clear c27b0
                                  try clear c27b1
                                  try clear c27b2
                                  try clear c28
                                  try clear c28b0
                                  try clear c28b1
                                  try clear c29
                                  try clear c29b0
                                  try clear c30
                                  try clear c30b0
                                  try clear c30b1
                                  try clear c31
                                  try clear c31b0
                                  try clear c31b1
                                  try clear c32
                                  try clear c32b0
                                  try clear c32b1
                                  try clear c32b2
                                  try clear c33
                                  try clear c33b0
                                  try clear c33b1
                                  try clear c33b2
                                  try clear c34
                                  try clear c34b0
                                  try clear c34b1
                                  try clear c34b2
                                  try clear c35
                                  try clear c38
                                  try clear c38b0
                                  try clear c39
                                  try clear c39b0
                                  try clear c39b1
                                  try clear c39b2
                                  try clear hx244_0
                                  try clear hx245_0
                                  try clear hx246_0
                                  try clear hx247_0
                                  try clear hx248_0
                                  try clear p16
                                  try clear p2
                                  try clear p244
                                  try clear p245
                                  try clear p246
                                  try clear p247
                                  try clear p248
                                  try clear q16
                                  try clear q244
                                  try clear q245
                                  try clear q246
                                  try clear q247
                                  try clear q248
                                  obtain ⟨kq, x5_35, rfl, HA, HJ35, HO_6, HB⟩ := hcut
                                  cases kq with
                                  | zero => exact absurd HA.out (by simp [ambrylaw10_HeadLists.j3])
                                  | succ kj35 =>
                                    have H := HA.out
                                    clear HA
                                    simp only [ambrylaw10_HeadLists.j3] at H
                                    have H' := Aside0.mk H
                                    clear H
                                    go_wp2
                                    go_loopg [5, 11] kj35 (fun kq v5 v11 w' => ∃ (x5_5 : ByteArray) (x11_5 : Int), v5 = .string x5_5 ∧ v11 = .int .i64 x11_5 ∧ Aside0 (ambrylaw10_HeadLists.l2 kq l0 l1 x5_5 y249 x7_2 (((⟨#[34]⟩ : ByteArray) ++ x8_3) ++ (⟨#[34]⟩ : ByteArray)) x11_5 = some r) ∧ Aside0 (kq ≤ kj35) ∧ Aside0 (Kd.R Kd.string 9 w' w.heap.size (fun _ => True) v250 y249) ∧ Aside0 (Below w.heap.size w w'))
                                    case atStart => exact ⟨(x5_35), (0), (by first | rfl | (simp; done) | (simp [*]; done)), (by first | rfl | (simp; done) | (simp [*]; done)), H', ⟨Nat.le_refl _⟩, ⟨by (with_reducible repeat (first | apply Kd.R_alloc | apply Kd.R_drewN | apply Kd.R_drew)); exact HO_6.out⟩, ⟨by repeat (first | (with_reducible first | exact HB.out | apply below_alloc | apply pw_below_drewN | apply below_drew1) | exact HB.out)⟩⟩
                                    case round =>
                                      clear H'
                                      try clear c1
                                      try clear p1
                                      try clear q1
                                      try clear hx1
                                      try clear c2
                                      try clear p2
                                      try clear q2
                                      try clear hx2
                                      try clear c3
                                      try clear c4
                                      try clear c6
                                      try clear p6
                                      try clear c8
                                      try clear c9
                                      try clear c9b0
                                      try clear c9b1
                                      try clear c10
                                      try clear c11
                                      try clear c11b0
                                      try clear c12
                                      try clear c12b0
                                      try clear c13
                                      try clear c13b0
                                      try clear c14
                                      try clear c14b0
                                      try clear c15
                                      try clear c15b0
                                      try clear p16
                                      try clear q16
                                      try clear hx16
                                      try clear c17
                                      try clear c17b0
                                      try clear c18
                                      try clear c18b0
                                      try clear c19
                                      try clear c19b0
                                      try clear c20
                                      try clear c20b0
                                      try clear c20b1
                                      try clear c21
                                      try clear c21b0
                                      try clear c21b1
                                      try clear c22
                                      try clear c22b0
                                      try clear c22b1
                                      try clear c22b2
                                      try clear c23
                                      try clear c23b0
                                      try clear c23b1
                                      try clear c24
                                      try clear c24b0
                                      try clear p24
                                      try clear q24
                                      try clear hx24
                                      try clear c25
                                      try clear c25b0
                                      try clear c25b1
                                      try clear c26
                                      try clear c26b0
                                      try clear c26b1
                                      try clear c27
                                      try clear c27b0
                                      try clear c27b1
                                      try clear c27b2
                                      try clear c28
                                      try clear c28b0
                                      try clear c28b1
                                      try clear c29
                                      try clear c29b0
                                      try clear c30
                                      try clear c30b0
                                      try clear c30b1
                                      try clear c31
                                      try clear c31b0
                                      try clear c31b1
                                      try clear c32
                                      try clear c32b0
                                      try clear c32b1
                                      try clear c32b2
                                      try clear c33
                                      try clear c33b0
                                      try clear c33b1
                                      try clear c33b2
                                      try clear c34
                                      try clear c34b0
                                      try clear c34b1
                                      try clear c34b2
                                      try clear c35
                                      try clear c38
                                      try clear c38b0
                                      try clear c39
                                      try clear c39b0
                                      try clear c39b1
                                      try clear c39b2
                                      try clear hx244_0
                                      try clear hx245_0
                                      try clear hx246_0
                                      try clear hx247_0
                                      try clear hx248_0
                                      try clear p1
                                      try clear p16
                                      try clear p2
                                      try clear p24
                                      try clear p244
                                      try clear p245
                                      try clear p246
                                      try clear p247
                                      try clear p248
                                      try clear p6
                                      try clear q1
                                      try clear q16
                                      try clear q2
                                      try clear q24
                                      try clear q244
                                      try clear q245
                                      try clear q246
                                      try clear q247
                                      try clear q248
                                      obtain ⟨x5_5, x11_5, rfl, rfl, HA, HK5, HO_6, HB⟩ := hrel
                                      cases gk with
                                      | zero => exact absurd HA.out (by simp [ambrylaw10_HeadLists.l2])
                                      | succ k5 =>
                                        have H := HA.out
                                        clear HA
                                        simp only [ambrylaw10_HeadLists.l2] at H
                                        by_cases c40 : 0 ≤ x7_2
                                        · rw [if_pos c40] at H
                                          have c40b0 : decide (0 ≤ x7_2) = true := decide_eq_true c40
                                          clear c40
                                          by_cases c41 : x7_2 < (l1.length : Int)
                                          · rw [if_pos c41] at H
                                            have c41b0 : decide (x7_2 < (l1.length : Int)) = true := decide_eq_true c41
                                            clear c41
                                            by_cases c42 : x11_5 < (wrap64 (Int.tmod (rd l1 x7_2) 3))
                                            · rw [if_pos c42] at H
                                              have c42b0 : decide (x11_5 < (wrap64 (Int.tmod (rd l1 x7_2) 3))) = true := decide_eq_true c42
                                              clear c42
                                              obtain ⟨ji43, hji43⟩ : ∃ j_ : Int, (Int.tmod x11_5 2) = j_ := ⟨_, rfl⟩
                                              replace H : (if 0 ≤ (ji43) then (if (ji43) ≤ (wrap64 ((ji43) + 1)) then (if (wrap64 ((ji43) + 1)) ≤ 2 then (if x5_5.size + ((⟨#[32, 9]⟩ : ByteArray).extract ((ji43) : Int).toNat ((wrap64 ((ji43) + 1)) : Int).toNat).size ≤ 9223372036854775807 then (ambrylaw10_HeadLists.l2 k5 l0 l1 (x5_5 ++ ((⟨#[32, 9]⟩ : ByteArray).extract ((ji43) : Int).toNat ((wrap64 ((ji43) + 1)) : Int).toNat)) y249 x7_2 (((⟨#[34]⟩ : ByteArray) ++ x8_3) ++ (⟨#[34]⟩ : ByteArray)) (wrap64 (x11_5 + 1))) else (none)) else (none)) else (none)) else (none)) = some r := by first | (rw [hji43] at H; exact H) | (simp only [hji43] at H ⊢; exact H)
                                              by_cases c44 : 0 ≤ (ji43)
                                              · rw [if_pos c44] at H
                                                have c44b0 := eq_true c44
                                                have c44b1 : decide (0 ≤ (ji43)) = true := decide_eq_true c44
                                                clear c44
                                                by_cases c45 : (ji43) ≤ (wrap64 ((ji43) + 1))
                                                · rw [if_pos c45] at H
                                                  have c45b0 := eq_true c45
                                                  have c45b1 : decide ((ji43) ≤ (wrap64 ((ji43) + 1))) = true := decide_eq_true c45
                                                  by_cases c46 : (wrap64 ((ji43) + 1)) ≤ 2
                                                  · rw [if_pos c46] at H
                                                    have c46b0 := eq_true c46
                                                    have c46b1 : decide ((wrap64 ((ji43) + 1)) ≤ 2) = true := decide_eq_true c46
                                                    by_cases c47 : x5_5.size + ((⟨#[32, 9]⟩ : ByteArray).extract ((ji43) : Int).toNat ((wrap64 ((ji43) + 1)) : Int).toNat).size ≤ 9223372036854775807
                                                    · rw [if_pos c47] at H
                                                      have c47b0 := eq_true c47
                                                      have c47b1 : decide (x5_5.size + ((⟨#[32, 9]⟩ : ByteArray).extract ((ji43) : Int).toNat ((wrap64 ((ji43) + 1)) : Int).toNat).size ≤ 9223372036854775807) = true := decide_eq_true c47
                                                      try have c47b2 : (9223372036854775807 < x5_5.size + ((⟨#[32, 9]⟩ : ByteArray).extract ((ji43) : Int).toNat ((wrap64 ((ji43) + 1)) : Int).toNat).size) = False := eq_false (Nat.not_lt.2 c47)
                                                      have H' := Aside0.mk H
                                                      clear H
                                                      have p252 : 0 ≤ (x7_2 : Int) := of_decide_eq_true (by first | (with_reducible assumption) | assumption)
                                                      have q252 : x7_2 < (l1.length : Int) := of_decide_eq_true (by first | (with_reducible assumption) | assumption)
                                                      obtain ⟨ad252, e252, hx252_0⟩ := Kd.at_int HR1.out x7_2 p252 q252
                                                      cases e252
                                                      replace hx252_0 := (HB.out.cell (World.block_lt_of_cell? w _ hx252_0)).trans hx252_0
                                                      replace p252 := eq_true p252
                                                      replace q252 := eq_true q252
                                                      go_wp2
                                                      go_roundg k5
                                                      case measure => have := HJ4.out; have := HK2.out; have := HK3.out; have := HJ35.out; have := HK5.out; omega
                                                      case rel => exact ⟨(x5_5 ++ ((⟨#[32, 9]⟩ : ByteArray).extract ((ji43) : Int).toNat ((wrap64 ((ji43) + 1)) : Int).toNat)), (wrap64 (x11_5 + 1)), (by first | rfl | (simp; done) | (simp only [← hji43] <;> (first | rfl | simp)) | (simp [*]; done)), (by first | rfl | (simp; done) | (simp [*]; done)), H', ⟨by have := HJ4.out; have := HK2.out; have := HK3.out; have := HJ35.out; have := HK5.out; omega⟩, ⟨by (with_reducible repeat (first | apply Kd.R_alloc | apply Kd.R_drewN | apply Kd.R_drew)); exact HO_6.out⟩, ⟨by repeat (first | (with_reducible first | exact HB.out | apply below_alloc | apply pw_below_drewN | apply below_drew1) | exact HB.out)⟩⟩
                                                    · rw [if_neg c47] at H
                                                      exact absurd H (by simp)
                                                  · rw [if_neg c46] at H
                                                    exact absurd H (by simp)
                                                · rw [if_neg c45] at H
                                                  exact absurd H (by simp)
                                              · rw [if_neg c44] at H
                                                exact absurd H (by simp)
                                            · rw [if_neg c42] at H
                                              have c42b0 : decide (x11_5 < (wrap64 (Int.tmod (rd l1 x7_2) 3))) = false := decide_eq_false c42
                                              clear c42
                                              by_cases c48 : x5_5.size + (((⟨#[34]⟩ : ByteArray) ++ x8_3) ++ (⟨#[34]⟩ : ByteArray)).size ≤ 9223372036854775807
                                              · rw [if_pos c48] at H
                                                have c48b0 := eq_true c48
                                                have c48b1 : decide (x5_5.size + (((⟨#[34]⟩ : ByteArray) ++ x8_3) ++ (⟨#[34]⟩ : ByteArray)).size ≤ 9223372036854775807) = true := decide_eq_true c48
                                                try have c48b2 : (9223372036854775807 < x5_5.size + (((⟨#[34]⟩ : ByteArray) ++ x8_3) ++ (⟨#[34]⟩ : ByteArray)).size) = False := eq_false (Nat.not_lt.2 c48)
                                                try (have c48d := Nat.not_lt.2 c48; simp only [ByteArray.size_append, (show (⟨#[34]⟩ : ByteArray).size = 1 from rfl), Nat.reduceAdd] at c48d; replace c48d := eq_false c48d)
                                                by_cases c49 : (Int.tmod (rd l1 x7_2) 5) = 0
                                                · rw [if_pos c49] at H
                                                  have c49b0 : ((Int.tmod (rd l1 x7_2) 5) == 0) = true := beq_iff_eq.mpr c49
                                                  have c49b1 : ((Int.tmod (rd l1 x7_2) 5) != 0) = false := bne_eq_false_iff_eq.mpr c49
                                                  clear c49
                                                  by_cases c50 : (x5_5 ++ (((⟨#[34]⟩ : ByteArray) ++ x8_3) ++ (⟨#[34]⟩ : ByteArray))).size + 4 ≤ 9223372036854775807
                                                  · rw [if_pos c50] at H
                                                    have c50b0 := eq_true c50
                                                    have c50b1 : decide ((x5_5 ++ (((⟨#[34]⟩ : ByteArray) ++ x8_3) ++ (⟨#[34]⟩ : ByteArray))).size + 4 ≤ 9223372036854775807) = true := decide_eq_true c50
                                                    try have c50b2 : (9223372036854775807 < (x5_5 ++ (((⟨#[34]⟩ : ByteArray) ++ x8_3) ++ (⟨#[34]⟩ : ByteArray))).size + 4) = False := eq_false (Nat.not_lt.2 c50)
                                                    try (have c50d := Nat.not_lt.2 c50; simp only [ByteArray.size_append, (show (⟨#[34]⟩ : ByteArray).size = 1 from rfl), Nat.reduceAdd] at c50d; replace c50d := eq_false c50d)
                                                    have H' := Aside0.mk H
                                                    clear H
                                                    have p252 : 0 ≤ (x7_2 : Int) := of_decide_eq_true (by first | (with_reducible assumption) | assumption)
                                                    have q252 : x7_2 < (l1.length : Int) := of_decide_eq_true (by first | (with_reducible assumption) | assumption)
                                                    obtain ⟨ad252, e252, hx252_0⟩ := Kd.at_int HR1.out x7_2 p252 q252
                                                    cases e252
                                                    replace hx252_0 := (HB.out.cell (World.block_lt_of_cell? w _ hx252_0)).trans hx252_0
                                                    replace p252 := eq_true p252
                                                    replace q252 := eq_true q252
                                                    have p253 : 0 ≤ (x7_2 : Int) := of_decide_eq_true (by first | (with_reducible assumption) | assumption)
                                                    have q253 : x7_2 < (l1.length : Int) := of_decide_eq_true (by first | (with_reducible assumption) | assumption)
                                                    obtain ⟨ad253, e253, hx253_0⟩ := Kd.at_int HR1.out x7_2 p253 q253
                                                    obtain rfl : ad252 = ad253 := (by injection e253)
                                                    replace hx253_0 := (HB.out.cell (World.block_lt_of_cell? w _ hx253_0)).trans hx253_0
                                                    replace p253 := eq_true p253
                                                    replace q253 := eq_true q253
                                                    go_wp2
                                                    go_roundg k5
                                                    case measure => have := HJ4.out; have := HK2.out; have := HK3.out; have := HJ35.out; have := HK5.out; omega
                                                    case rel => exact ⟨((x5_5 ++ (((⟨#[34]⟩ : ByteArray) ++ x8_3) ++ (⟨#[34]⟩ : ByteArray))) ++ (⟨#[32, 44, 32, 44]⟩ : ByteArray)), (y249), (wrap64 (x7_2 + 1)), (by first | rfl | (simp; done) | (simp [*]; done)), (by first | rfl | (simp; done) | (simp [*]; done)), H', ⟨by have := HJ4.out; have := HK2.out; have := HK3.out; have := HJ35.out; have := HK5.out; omega⟩, ⟨by (with_reducible repeat (first | apply Kd.R_alloc | apply Kd.R_drewN | apply Kd.R_drew)); exact HO_6.out⟩, ⟨by repeat (first | (with_reducible first | exact HB.out | apply below_alloc | apply pw_below_drewN | apply below_drew1) | exact HB.out)⟩⟩
                                                  · rw [if_neg c50] at H
                                                    exact absurd H (by simp)
                                                · rw [if_neg c49] at H
                                                  have c49b0 : ((Int.tmod (rd l1 x7_2) 5) == 0) = false := beq_eq_false_iff_ne.mpr c49
                                                  have c49b1 : ((Int.tmod (rd l1 x7_2) 5) != 0) = true := bne_iff_ne.mpr c49
                                                  have H' := Aside0.mk H
                                                  clear H
                                                  have p252 : 0 ≤ (x7_2 : Int) := of_decide_eq_true (by first | (with_reducible assumption) | assumption)
                                                  have q252 : x7_2 < (l1.length : Int) := of_decide_eq_true (by first | (with_reducible assumption) | assumption)
                                                  obtain ⟨ad252, e252, hx252_0⟩ := Kd.at_int HR1.out x7_2 p252 q252
                                                  cases e252
                                                  replace hx252_0 := (HB.out.cell (World.block_lt_of_cell? w _ hx252_0)).trans hx252_0
                                                  replace p252 := eq_true p252
                                                  replace q252 := eq_true q252
                                                  have p253 : 0 ≤ (x7_2 : Int) := of_decide_eq_true (by first | (with_reducible assumption) | assumption)
                                                  have q253 : x7_2 < (l1.length : Int) := of_decide_eq_true (by first | (with_reducible assumption) | assumption)
                                                  obtain ⟨ad253, e253, hx253_0⟩ := Kd.at_int HR1.out x7_2 p253 q253
                                                  obtain rfl : ad252 = ad253 := (by injection e253)
                                                  replace hx253_0 := (HB.out.cell (World.block_lt_of_cell? w _ hx253_0)).trans hx253_0
                                                  replace p253 := eq_true p253
                                                  replace q253 := eq_true q253
                                                  go_wp2
                                                  go_roundg k5
                                                  case measure => have := HJ4.out; have := HK2.out; have := HK3.out; have := HJ35.out; have := HK5.out; omega
                                                  case rel => exact ⟨(x5_5 ++ (((⟨#[34]⟩ : ByteArray) ++ x8_3) ++ (⟨#[34]⟩ : ByteArray))), (y249), (wrap64 (x7_2 + 1)), (by first | rfl | (simp; done) | (simp [*]; done)), (by first | rfl | (simp; done) | (simp [*]; done)), H', ⟨by have := HJ4.out; have := HK2.out; have := HK3.out; have := HJ35.out; have := HK5.out; omega⟩, ⟨by (with_reducible repeat (first | apply Kd.R_alloc | apply Kd.R_drewN | apply Kd.R_drew)); exact HO_6.out⟩, ⟨by repeat (first | (with_reducible first | exact HB.out | apply below_alloc | apply pw_below_drewN | apply below_drew1) | exact HB.out)⟩⟩
                                              · rw [if_neg c48] at H
                                                exact absurd H (by simp)
                                          · rw [if_neg c41] at H
                                            exact absurd H (by simp)
                                        · rw [if_neg c40] at H
                                          exact absurd H (by simp)
                              · rw [if_neg c35] at H
                                exact absurd H (by simp)
                            · rw [if_neg c34] at H
                              exact absurd H (by simp)
                          · rw [if_neg c33] at H
                            exact absurd H (by simp)
                      · rw [if_neg c13] at H
                        exact absurd H (by simp)
                    · rw [if_neg c12] at H
                      exact absurd H (by simp)
              · rw [if_neg c11] at H
                have c11b0 : decide (x7_2 < (l0.length : Int)) = false := decide_eq_false c11
                clear c11
                obtain ⟨y237, hy237⟩ : ∃ y_ : List (S39), y_ = (([(⟨(⟨#[88]⟩ : ByteArray), x5_2⟩ : S39)] : List (S39))) := ⟨_, rfl⟩
                replace H : ((head_List.f k2 y237 (⟨#[120]⟩ : ByteArray)).bind fun t240 => ((ambryhelp_Strings.f k2 t240 x6_2).bind fun t243 => (some t243))) = some r := by first | (rw [hy237]; with_reducible exact H) | (have H2_ := (Option.bind_some _ _).symm.trans H; rw [hy237]; with_reducible exact H2_) | (have H2_ := (Option.bind_some _ _).symm.trans H; with_reducible exact H2_) | with_reducible exact H | (rw [hy237]; exact H) | exact H
                have Ny237 := Aside0.mk hy237
                clear hy237
                replace H := Option.bind_eq_some_iff.mp H
                obtain ⟨t240, A510, H⟩ := H
                replace H : ((ambryhelp_Strings.f k2 t240 x6_2).bind fun t243 => (some t243)) = some r := H
                have A51 := Aside0.mk A510
                clear A510
                replace H := Option.bind_eq_some_iff.mp H
                obtain ⟨t243, A520, H⟩ := H
                replace H : (some t243) = some r := H
                have A52 := Aside0.mk A520
                clear A520
                obtain rfl := Option.some.inj H
                go_wp2_with (first | ((with_reducible refine gate_dst (N := 112) rfl ?_); (try (refine gate_guard (by rfl) ?_; dsimp only)); refine Kd.R_lit k39 _ 39 ?hg (N := 112) ?hd (xs := ([(⟨(⟨#[88]⟩ : ByteArray), x5_2⟩ : S39)] : List (S39))) (inner := [.string (⟨#[88]⟩ : ByteArray), .string x5_2]) (ok := fun _ => True) (okp := fun _ => True) ?hr ?hp (fun _ hk => hk) trivial (Below.refl _ _) (Nat.le_refl _) (by simp) ?_; (case hd => rfl); (case hg => rfl); (case hr => first | (go_simp; done) | (go_simp; rfl)); (case hp => exact (Reps.c2 (show Kd.M k39 _ _ _ (⟨(⟨#[88]⟩ : ByteArray), x5_2⟩ : S39) [.string (⟨#[88]⟩ : ByteArray), .string x5_2] from (k39_mkM _ _ _ (⟨(⟨#[88]⟩ : ByteArray), x5_2⟩ : S39) )) (Reps.none _ _))); intro v238 w53 ho54 hb hg_ hnew_; clear hg_ hnew_; (first | rw [← Ny237.out] at ho54 | (simp only [Int.reduceToNat] at ho54; rw [← Ny237.out] at ho54)); have n0_ := Aside0.mk (Kd.R_below (by (with_reducible repeat (first | apply Kd.R_alloc | apply Kd.R_drewN | apply Kd.R_drew)); exact HO_6.out) hb); have n1_ := Aside0.mk (Kd.R_lower ho54 (below_size (by repeat (first | (with_reducible first | exact HB.out | apply below_alloc | apply pw_below_drewN | apply below_drew1) | exact HB.out)))); have n2_ := Aside0.mk (below_step (by repeat (first | (with_reducible first | exact HB.out | apply below_alloc | apply pw_below_drewN | apply below_drew1) | exact HB.out)) hb); clear HO_6; clear HB; have HO_6 := n0_; have HO239 := n1_; have HB := n2_; clear n0_ n1_ n2_; clear hb ho54; obtain ⟨Ao55, co55, eo55⟩ := Kd.R_slice HO239.out; subst eo55) | ((with_reducible refine gate_callee (f := 26) rfl ?_); refine goesL_ (some 113) rfl rfl Try.func26 (by kernel_rfl) rfl #[.slice Ao55 y237.length co55, .string (⟨#[120]⟩ : ByteArray)] rfl (by (try simp only [List.map_toArray, List.map_cons, List.map_nil]); first | done | rfl | (simp only [List.length_drop, List.length_take]; rfl)) ?_; (with_reducible refine (head_List.calls k2 _ _ y237 (⟨#[120]⟩ : ByteArray) t240 _ ?side1 ?side2 A51.out).mono ?_); (case side1 => repeat (first | exact (Kd.R_reads' HO239.out).2.2 | (with_reducible refine Kd.C_alloc ?_ _) | (with_reducible refine Kd.C_drewN ?_ _) | (with_reducible refine Kd.C_drew ?_))); (case side2 => exact (Kd.R_reads' HO239.out).2.1); rintro e w56 ⟨v241, rfl, ho0, hb⟩; refine ⟨_, rfl, ?_⟩; have n0_ := Aside0.mk (Kd.R_elder' (by (with_reducible repeat (first | apply Kd.R_alloc | apply Kd.R_drewN | apply Kd.R_drew)); exact HO_6.out) (Kd.R_base ho0) hb); have n1_ := Aside0.mk (Kd.R_below (by (with_reducible repeat (first | apply Kd.R_alloc | apply Kd.R_drewN | apply Kd.R_drew)); exact HO239.out) hb); have n2_ := Aside0.mk (Kd.R_lower (Kd.R_new' ho0 (Kd.R_lt (by (with_reducible repeat (first | apply Kd.R_alloc | apply Kd.R_drewN | apply Kd.R_drew)); exact HO_6.out))) (below_size (by repeat (first | (with_reducible first | exact HB.out | apply below_alloc | apply pw_below_drewN | apply below_drew1) | exact HB.out)))); have n3_ := Aside0.mk (below_step (by repeat (first | (with_reducible first | exact HB.out | apply below_alloc | apply pw_below_drewN | apply below_drew1) | exact HB.out)) hb); clear HO_6; clear HO239; clear HB; have HO_6 := n0_; have HO239 := n1_; have HO242 := n2_; have HB := n3_; clear n0_ n1_ n2_ n3_; (try clear hb); (try clear hb2); (try clear hk); (try clear hi); (try clear ho0); obtain ⟨Ao57, co57, eo57⟩ := Kd.R_slice HO242.out; subst eo57; obtain ⟨Ao58, co58, eo58⟩ := Kd.R_slice HO_6.out; subst eo58) | ((with_reducible refine gate_callee (f := 25) rfl ?_); refine goesL_ (some 115) rfl rfl Try.func25 (by kernel_rfl) rfl #[.slice Ao57 t240.length co57, .slice Ao58 x6_2.length co58] rfl (by (try simp only [List.map_toArray, List.map_cons, List.map_nil]); first | done | rfl | (simp only [List.length_drop, List.length_take]; rfl)) ?_; (with_reducible refine (ambryhelp_Strings.calls k2 _ _ t240 _ _ x6_2 t243 _ ?side1 ?side2 ?side3 ?side4 A52.out).mono ?_); (case side1 => repeat (first | exact (Kd.R_reads' HO242.out).2.2 | (with_reducible refine Kd.C_alloc ?_ _) | (with_reducible refine Kd.C_drewN ?_ _) | (with_reducible refine Kd.C_drew ?_))); (case side2 => exact (Kd.R_reads' HO242.out).2.1); (case side3 => repeat (first | exact (Kd.R_reads' HO_6.out).2.2 | (with_reducible refine Kd.C_alloc ?_ _) | (with_reducible refine Kd.C_drewN ?_ _) | (with_reducible refine Kd.C_drew ?_))); (case side4 => exact (Kd.R_reads' HO_6.out).2.1); rintro e w' ⟨rfl, ⟨nd, rfl⟩⟩; refine ⟨_, rfl, ?_⟩))
                go_ret
                exact ⟨by first | rfl | (simp [errW_none, errW_some] <;> rfl) | (simp [*, errW_none, errW_some] <;> rfl), by repeat (first | (with_reducible first | exact HB.out | apply below_alloc | apply pw_below_drewN | apply below_drew1) | exact HB.out)⟩
  · replace c4 := Bool.eq_false_iff.mpr c4
    subst c4
    have H1 : (some false) = some r := by rw [if_neg (show ¬ (false = true) by decide)] at H; exact H
    clear H
    have H := H1
    clear H1
    obtain rfl := Option.some.inj H
    go_enter Try.func6, Try.ntmps6
    go_wp2_with (first | ((with_reducible refine gate_callee (f := 11) rfl ?_); refine goesL_ (some 12) rfl rfl Try.func11 (by kernel_rfl) rfl #[] rfl (by (try simp only [List.map_toArray, List.map_cons, List.map_nil]); first | done | rfl | (simp only [List.length_drop, List.length_take]; rfl)) ?_; (with_reducible refine (ambrylaw10_known.calls k  false _ A3.out).mono ?_); rintro e w59 ⟨rfl, hb⟩; refine ⟨_, rfl, ?_⟩; have n0_ := Aside0.mk (below_step (by repeat (first | (with_reducible first | exact HB.out | apply below_alloc | apply pw_below_drewN | apply below_drew1) | exact HB.out)) hb); clear HB; have HB := n0_; clear n0_; (try clear hb); (try clear hb2); (try clear hk); (try clear hi)))
    go_ret
    exact ⟨by first | rfl | (simp [errW_none, errW_some] <;> rfl) | (simp [*, errW_none, errW_some] <;> rfl), by repeat (first | (with_reducible first | exact HB.out | apply below_alloc | apply pw_below_drewN | apply below_drew1) | exact HB.out)⟩

end Go.Proofs.Ytbnilemmgmhbfaa.H
