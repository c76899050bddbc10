-- PRINTED by print.py (a twelfth state) out of the translation. Not trusted: Lean checks it.
import Derived.Test.YtdhajdgcgjbdnaaDoorGx0
import Derived.Test.YtdhajdgcgjbdnaaDoorGx3
import Derived.Test.YtdhajdgcgjbdnaaDoorGx4
import Derived.Test.YtdhajdgcgjbdnaaDoorGx5
namespace Go.Proofs.YtdhajdgcgjbdnaaDoor.G
open Go.RowKit Go.Proofs.YtdhajdgcgjbdnaaDoorW.PrintWords Go.Proofs.YtdhajdgcgjbdnaaDoorW.PrintLast Go.Proofs.YtdhajdgcgjbdnaaDoorW.PrintMore
attribute [local go_sem] max2_int min2_int max_two min_two max_three min_three max_four min_four   -- for this text's walks alone
set_option linter.unusedVariables false
set_option linter.unusedSimpArgs false

/-! ### ambryref10_Parse: function 28 -/
mutual
def ambryref10_Parse.l0 : Nat → List ByteArray → List (S68) → Int → Option ((List (S68)) × Int)
  | 0, _, _, _ => none
  | k + 1, x0, x4, x5 => if x5 < (x0.length : Int) then (if 0 ≤ x5 then (ambryref10_Parse.l1 k x0 x4 x5 (rdOf ByteArray.empty x0 x5) 0) else (none)) else (some (x4, 0))
def ambryref10_Parse.j2 : Nat → List ByteArray → List (S68) → Int → ByteArray → Int → Option ((List (S68)) × Int)
  | 0, _, _, _, _, _ => none
  | k + 1, x0, x4, x5, x6, x7 => if x7 = (x6.size : Int) then (some (([] : List (S68)), 90)) else (if 0 ≤ x7 then (if x7 ≤ (x6.size : Int) then ((ambryref10_Token.f k (x6.extract 0 (x7 : Int).toNat)).bind fun t193 => (if t193 = true then (if 0 ≤ (wrap64 (x7 + 1)) then (if (wrap64 (x7 + 1)) ≤ (x6.size : Int) then ((ambryref10_Trim.f k (x6.extract ((wrap64 (x7 + 1)) : Int).toNat x6.size)).bind fun t194 => ((ambryref10_Value.f k t194).bind fun t195 => (if t195 = true then ((ambryref10_Trim.f k (x6.extract ((wrap64 (x7 + 1)) : Int).toNat x6.size)).bind fun t196 => (if x4.length < 4398046511104 then (ambryref10_Parse.l0 k x0 (x4 ++ [(⟨x6.extract 0 (x7 : Int).toNat, t196⟩ : S68)]) (wrap64 (x5 + 1))) else (none))) else (some (([] : List (S68)), 90))))) else (none)) else (none)) else (some (([] : List (S68)), 90)))) else (none)) else (none))
def ambryref10_Parse.l1 : Nat → List ByteArray → List (S68) → Int → ByteArray → Int → Option ((List (S68)) × Int)
  | 0, _, _, _, _, _ => none
  | k + 1, x0, x4, x5, x6, x7 => if x7 < (x6.size : Int) then (if 0 ≤ x7 then (if (bt x6 x7) = 58 then (ambryref10_Parse.j2 k x0 x4 x5 x6 x7) else (ambryref10_Parse.l1 k x0 x4 x5 x6 (wrap64 (x7 + 1)))) else (none)) else (ambryref10_Parse.j2 k x0 x4 x5 x6 x7)
end
def ambryref10_Parse.f (k : Nat) (l0 : List ByteArray) : Option ((List (S68)) × Int) := if (l0.length : Int) > 100 then (some (([] : List (S68)), 91)) else (ambryref10_Parse.l0 k l0 ([] : List (S68)) 0)
theorem ambryref10_Parse.mono_l : ∀ k, (∀ y0 y1 y2, LeO (ambryref10_Parse.l0 k y0 y1 y2) (ambryref10_Parse.l0 (k + 1) y0 y1 y2)) ∧ (∀ y0 y1 y2 y3 y4, LeO (ambryref10_Parse.j2 k y0 y1 y2 y3 y4) (ambryref10_Parse.j2 (k + 1) y0 y1 y2 y3 y4)) ∧ (∀ y0 y1 y2 y3 y4, LeO (ambryref10_Parse.l1 k y0 y1 y2 y3 y4) (ambryref10_Parse.l1 (k + 1) y0 y1 y2 y3 y4))
  | 0 => ⟨fun _ _ _ r h => by simp [ambryref10_Parse.l0] at h, fun _ _ _ _ _ r h => by simp [ambryref10_Parse.j2] at h, fun _ _ _ _ _ r h => by simp [ambryref10_Parse.l1] at h⟩
  | k + 1 => by
    obtain ⟨ih0, ih1, ih2⟩ := ambryref10_Parse.mono_l k
    refine ⟨?_, ?_, ?_⟩
    · intro y0 y1 y2
      unfold ambryref10_Parse.l0
      repeat' first
      | (with_reducible exact ih0 _ _ _)
      | (with_reducible exact ih1 _ _ _ _ _)
      | (with_reducible exact ih2 _ _ _ _ _)
      | (with_reducible exact ambryref10_Token.mono _ _)
      | (with_reducible exact ambryref10_Trim.mono _ _)
      | (with_reducible exact ambryref10_Value.mono _ _)
      | (with_reducible exact LeO.refl _)
      | (with_reducible exact LeO.none _)
      | (with_reducible refine LeO.ite ?_ ?_)
      | (with_reducible refine LeO.bind ?_ (fun _ => ?_))
      | exact ih0 _ _ _
      | exact ih1 _ _ _ _ _
      | exact ih2 _ _ _ _ _
      | exact ambryref10_Token.mono _ _
      | exact ambryref10_Trim.mono _ _
      | exact ambryref10_Value.mono _ _
      | exact LeO.none _
      | refine LeO.ite ?_ ?_
      | refine LeO.bind ?_ (fun _ => ?_)
    · intro y0 y1 y2 y3 y4
      unfold ambryref10_Parse.j2
      repeat' first
      | (with_reducible exact ih0 _ _ _)
      | (with_reducible exact ih1 _ _ _ _ _)
      | (with_reducible exact ih2 _ _ _ _ _)
      | (with_reducible exact ambryref10_Token.mono _ _)
      | (with_reducible exact ambryref10_Trim.mono _ _)
      | (with_reducible exact ambryref10_Value.mono _ _)
      | (with_reducible exact LeO.refl _)
      | (with_reducible exact LeO.none _)
      | (with_reducible refine LeO.ite ?_ ?_)
      | (with_reducible refine LeO.bind ?_ (fun _ => ?_))
      | exact ih0 _ _ _
      | exact ih1 _ _ _ _ _
      | exact ih2 _ _ _ _ _
      | exact ambryref10_Token.mono _ _
      | exact ambryref10_Trim.mono _ _
      | exact ambryref10_Value.mono _ _
      | exact LeO.none _
      | refine LeO.ite ?_ ?_
      | refine LeO.bind ?_ (fun _ => ?_)
    · intro y0 y1 y2 y3 y4
      unfold ambryref10_Parse.l1
      repeat' first
      | (with_reducible exact ih0 _ _ _)
      | (with_reducible exact ih1 _ _ _ _ _)
      | (with_reducible exact ih2 _ _ _ _ _)
      | (with_reducible exact ambryref10_Token.mono _ _)
      | (with_reducible exact ambryref10_Trim.mono _ _)
      | (with_reducible exact ambryref10_Value.mono _ _)
      | (with_reducible exact LeO.refl _)
      | (with_reducible exact LeO.none _)
      | (with_reducible refine LeO.ite ?_ ?_)
      | (with_reducible refine LeO.bind ?_ (fun _ => ?_))
      | exact ih0 _ _ _
      | exact ih1 _ _ _ _ _
      | exact ih2 _ _ _ _ _
      | exact ambryref10_Token.mono _ _
      | exact ambryref10_Trim.mono _ _
      | exact ambryref10_Value.mono _ _
      | exact LeO.none _
      | refine LeO.ite ?_ ?_
      | refine LeO.bind ?_ (fun _ => ?_)
theorem ambryref10_Parse.mono : ∀ a0 k, LeO (ambryref10_Parse.f k a0) (ambryref10_Parse.f (k + 1) a0) := by
  intro a0 k
  obtain ⟨ih0, ih1, ih2⟩ := ambryref10_Parse.mono_l k
  unfold ambryref10_Parse.f
  repeat' first
      | (with_reducible exact ih0 _ _ _)
      | (with_reducible exact ih1 _ _ _ _ _)
      | (with_reducible exact ih2 _ _ _ _ _)
      | (with_reducible exact ambryref10_Token.mono _ _)
      | (with_reducible exact ambryref10_Trim.mono _ _)
      | (with_reducible exact ambryref10_Value.mono _ _)
      | (with_reducible exact LeO.refl _)
      | (with_reducible exact LeO.none _)
      | (with_reducible refine LeO.ite ?_ ?_)
      | (with_reducible refine LeO.bind ?_ (fun _ => ?_))
      | exact ih0 _ _ _
      | exact ih1 _ _ _ _ _
      | exact ih2 _ _ _ _ _
      | exact ambryref10_Token.mono _ _
      | exact ambryref10_Trim.mono _ _
      | exact ambryref10_Value.mono _ _
      | exact LeO.none _
      | refine LeO.ite ?_ ?_
      | refine LeO.bind ?_ (fun _ => ?_)
def ambryref10_Parse.T13 : Bool × List (List Nat × List Nat) := (true, [([], []), ([], []), ([], []), ([1, 2], [1, 2]), ([], []), ([], []), ([5], [5]), ([4, 6], [4, 6]), ([7], [7]), ([3, 8], [3, 8]), ([9], [9]), ([0, 10, 8], [0, 10]), ([11, 11, 0, 1, 2, 3, 4, 5, 6, 7, 8, 9, 10, 11], [0, 11])])
def ambryref10_Parse.B13 : List Nat := [0, 0, 0, 6, 0, 0, 32, 112, 240, 510, 1022, 2047, 4095]
theorem ambryref10_Parse.tab13 : rtab .any (opsOf Tryd.f28 13) = ambryref10_Parse.T13 := by kernel_rfl
theorem ambryref10_Parse.bits13 : waitsOk ambryref10_Parse.T13.2 ambryref10_Parse.B13 = true := by kernel_rfl
set_option maxHeartbeats 8000000 in
set_option maxRecDepth 100000 in
theorem ambryref10_Parse.calls (k : Nat) (A0 : Option Addr) (c0 : Nat) (l0 : List ByteArray) (r1 : List (S68)) (r2 : Int) (w : World) (hr0 : Kd.C Kd.string w A0 l0.length l0) (hc0 : l0.length ≤ c0) (h : ambryref10_Parse.f k l0 = some (r1, r2)) :
    Calls Tryd.prog 28 #[.slice A0 l0.length c0] w fun e w' => ∃ v0_ : Value, e = .returned (.tuple #[v0_, .int .i64 r2]) ∧ Kd.R k68 68 w' w.heap.size (fun _ => True) v0_ r1 ∧ Below w.heap.size w w' := by
  have hu68 := Tryd.underlying68
  have HR0 := Aside0.mk hr0
  have HC0 := Aside0.mk hc0
  clear hr0 hc0
  have HB := Aside0.mk (Below.refl w.heap.size w)
  have H : (if (l0.length : Int) > 100 then (some (([] : List (S68)), 91)) else (ambryref10_Parse.l0 k l0 ([] : List (S68)) 0)) = some (r1, r2) := h
  clear h
  by_cases c2 : (l0.length : Int) > 100
  · rw [if_pos c2] at H
    have c2b0 : decide (100 < (l0.length : Int)) = true := decide_eq_true c2
    have c2b1 : decide (100 < l0.length) = true := decide_eq_true (by omega)
    clear c2
    simp only [Option.some.injEq, Prod.mk.injEq] at H
    obtain ⟨rfl, rfl⟩ := H
    go_enter Tryd.func28, Tryd.ntmps28
    go_wp2
    go_ret2
    exact ⟨_, by first | rfl | (simp [errW_none, errW_some] <;> rfl) | (simp [*, errW_none, errW_some] <;> rfl), by first | exact Kd.R_nil _ _ _ _ _ | exact Kd.N_nil _ _ _ _ _ | exact Kd.V_nil _ _ _ _ _ | exact Kd.Q_nil _ _ _ _ _ | exact Kd.S_nil _ _ _ _ _, by repeat (first | (with_reducible first | exact HB.out | apply below_alloc | apply pw_below_drewN | apply below_drew1) | exact HB.out)⟩
  · rw [if_neg c2] at H
    have c2b0 : decide (100 < (l0.length : Int)) = false := decide_eq_false c2
    have c2b1 : decide (100 < l0.length) = false := decide_eq_false (by omega)
    clear c2
    have H' := Aside0.mk H
    clear H
    go_enter Tryd.func28, Tryd.ntmps28
    go_wp2
    go_loopg [4, 5] k (fun kq v4 v5 w' => ∃ (x4_1 : List (S68)) (x5_1 : Int), v5 = .int .i64 x5_1 ∧ Aside0 (ambryref10_Parse.l0 kq l0 x4_1 x5_1 = some (r1, r2)) ∧ Aside0 (kq ≤ k) ∧ Aside0 (Kd.R k68 68 w' w.heap.size (fun _ => True) v4 x4_1) ∧ Aside0 (Below w.heap.size w w'))
    case atStart => exact ⟨(([] : List (S68))), (0), (by first | rfl | (simp; done) | (simp [*]; done)), H', ⟨Nat.le_refl _⟩, ⟨by first | exact Kd.R_nil _ _ _ _ _ | exact Kd.N_nil _ _ _ _ _ | exact Kd.V_nil _ _ _ _ _ | exact Kd.Q_nil _ _ _ _ _ | exact Kd.S_nil _ _ _ _ _⟩, ⟨by repeat (first | (with_reducible first | exact HB.out | apply below_alloc | apply pw_below_drewN | apply below_drew1) | exact HB.out)⟩⟩
    case round =>
      clear H'
      try clear c2
      try clear c2b0
      try clear c2b1
      try clear p2
      obtain ⟨x4_1, x5_1, rfl, HA, HK1, HO_4, HB⟩ := hrel
      cases gk with
      | zero => exact absurd HA.out (by simp [ambryref10_Parse.l0])
      | succ k1 =>
        have H := HA.out
        clear HA
        simp only [ambryref10_Parse.l0] at H
        by_cases c3 : x5_1 < (l0.length : Int)
        · rw [if_pos c3] at H
          have c3b0 : decide (x5_1 < (l0.length : Int)) = true := decide_eq_true c3
          clear c3
          by_cases c4 : 0 ≤ x5_1
          · rw [if_pos c4] at H
            have c4b0 : decide (0 ≤ x5_1) = true := decide_eq_true c4
            clear c4
            have HC5 := Aside0.mk H
            clear H
            have p192 : 0 ≤ (x5_1 : Int) := of_decide_eq_true (by first | (with_reducible assumption) | assumption)
            have q192 : x5_1 < (l0.length : Int) := of_decide_eq_true (by first | (with_reducible assumption) | assumption)
            obtain ⟨ad192, e192, hx192_0⟩ := Kd.at_string HR0.out x5_1 p192 q192
            cases e192
            (try replace hx192_0 := (HB.out.cell (World.block_lt_of_cell? w _ hx192_0)).trans hx192_0)
            replace p192 := eq_true p192
            replace q192 := eq_true q192
            go_upto_block 2 with (fail)
            go_cut [7] (fun v7 wc => ∃ (kq : Nat) (x7_4 : Int), v7 = .int .i64 x7_4 ∧ Aside0 (ambryref10_Parse.j2 kq l0 x4_1 x5_1 (rdOf ByteArray.empty l0 x5_1) x7_4 = some (r1, r2)) ∧ Aside0 (kq ≤ k1) ∧ Aside0 (Kd.R k68 68 wc w.heap.size (fun _ => True) u4 x4_1) ∧ Aside0 (Below w.heap.size w wc))
            case first =>
              have H := HC5.out
              clear HC5
              have H' := Aside0.mk H
              clear H
              go_wp2
              go_loopg [7] k1 (fun kq v7 w' => ∃ (x7_2 : Int), v7 = .int .i64 x7_2 ∧ Aside0 (ambryref10_Parse.l1 kq l0 x4_1 x5_1 (rdOf ByteArray.empty l0 x5_1) x7_2 = some (r1, r2)) ∧ Aside0 (kq ≤ k1) ∧ Aside0 (Kd.R k68 68 w' w.heap.size (fun _ => True) u4 x4_1) ∧ Aside0 (Below w.heap.size w w'))
              case atStart => exact ⟨(0), (by first | rfl | (simp; done) | (simp [*]; done)), H', ⟨Nat.le_refl _⟩, ⟨by (with_reducible repeat (first | apply Kd.R_alloc | apply Kd.R_drewN | apply Kd.R_drew)); exact HO_4.out⟩, ⟨by repeat (first | (with_reducible first | exact HB.out | apply below_alloc | apply pw_below_drewN | apply below_drew1) | exact HB.out)⟩⟩
              case round =>
                clear H'
                try clear p1
                try clear q1
                try clear hx1
                try clear c2
                try clear c2b0
                try clear c2b1
                try clear p2
                try clear c3
                try clear c3b0
                try clear c4
                try clear c4b0
                try clear hx192_0
                try clear p192
                try clear p2
                try clear q192
                obtain ⟨x7_2, rfl, HA, HK2, HO_4, HB⟩ := hrel
                cases gk with
                | zero => exact absurd HA.out (by simp [ambryref10_Parse.l1])
                | succ k2 =>
                  have H := HA.out
                  clear HA
                  simp only [ambryref10_Parse.l1] at H
                  by_cases c6 : x7_2 < ((rdOf ByteArray.empty l0 x5_1).size : Int)
                  · rw [if_pos c6] at H
                    have c6b0 : decide (x7_2 < ((rdOf ByteArray.empty l0 x5_1).size : Int)) = true := decide_eq_true c6
                    clear c6
                    (first | rw [c6b0] | (simp only [i64_w, i32_w]; rw [c6b0]) | skip)
                    by_cases c7 : 0 ≤ x7_2
                    · rw [if_pos c7] at H
                      have c7b0 : decide (0 ≤ x7_2) = true := decide_eq_true c7
                      clear c7
                      by_cases c9 : (bt (rdOf ByteArray.empty l0 x5_1) x7_2) = 58
                      · rw [if_pos c9] at H
                        have c9b0 : ((bt (rdOf ByteArray.empty l0 x5_1) x7_2) == 58) = true := beq_iff_eq.mpr c9
                        have c9b1 : ((bt (rdOf ByteArray.empty l0 x5_1) x7_2) != 58) = false := bne_eq_false_iff_eq.mpr c9
                        clear c9
                        have H' := Aside0.mk H
                        clear H
                        have p8 : 0 ≤ (x7_2 : Int) := of_decide_eq_true (by first | (with_reducible assumption) | assumption)
                        have q8 : x7_2 < ((rdOf ByteArray.empty l0 x5_1).size : Int) := of_decide_eq_true (by first | (with_reducible assumption) | assumption)
                        have hx8 := bt_at (rdOf ByteArray.empty l0 x5_1) x7_2
                        replace p8 := eq_true p8
                        replace q8 := eq_true q8
                        go_wp2
                        go_meet
                        case rel => exact ⟨_, (x7_2), (by first | rfl | (simp; done) | (simp [*]; done)), H', ⟨by have := HK1.out; have := HK2.out; first | omega | exact Nat.le_refl _⟩, ⟨by (with_reducible repeat (first | apply Kd.R_alloc | apply Kd.R_drewN | apply Kd.R_drew)); exact HO_4.out⟩, ⟨by repeat (first | (with_reducible first | exact HB.out | apply below_alloc | apply pw_below_drewN | apply below_drew1) | exact HB.out)⟩⟩
                      · rw [if_neg c9] at H
                        have c9b0 : ((bt (rdOf ByteArray.empty l0 x5_1) x7_2) == 58) = false := beq_eq_false_iff_ne.mpr c9
                        have c9b1 : ((bt (rdOf ByteArray.empty l0 x5_1) x7_2) != 58) = true := bne_iff_ne.mpr c9
                        have H' := Aside0.mk H
                        clear H
                        have p8 : 0 ≤ (x7_2 : Int) := of_decide_eq_true (by first | (with_reducible assumption) | assumption)
                        have q8 : x7_2 < ((rdOf ByteArray.empty l0 x5_1).size : Int) := of_decide_eq_true (by first | (with_reducible assumption) | assumption)
                        have hx8 := bt_at (rdOf ByteArray.empty l0 x5_1) x7_2
                        replace p8 := eq_true p8
                        replace q8 := eq_true q8
                        go_wp2
                        go_roundg k2
                        case measure => have := HK1.out; have := HK2.out; omega
                        case rel => exact ⟨(wrap64 (x7_2 + 1)), (by first | rfl | (simp; done) | (simp [*]; done)), H', ⟨by have := HK1.out; have := HK2.out; omega⟩, ⟨by (with_reducible repeat (first | apply Kd.R_alloc | apply Kd.R_drewN | apply Kd.R_drew)); exact HO_4.out⟩, ⟨by repeat (first | (with_reducible first | exact HB.out | apply below_alloc | apply pw_below_drewN | apply below_drew1) | exact HB.out)⟩⟩
                    · rw [if_neg c7] at H
                      exact absurd H (by simp)
                  · rw [if_neg c6] at H
                    have c6b0 : decide (x7_2 < ((rdOf ByteArray.empty l0 x5_1).size : Int)) = false := decide_eq_false c6
                    clear c6
                    (first | rw [c6b0] | (simp only [i64_w, i32_w]; rw [c6b0]) | skip)
                    have H' := Aside0.mk H
                    clear H
                    go_wp2
                    go_meet
                    case rel => exact ⟨_, (x7_2), (by first | rfl | (simp; done) | (simp [*]; done)), H', ⟨by have := HK1.out; have := HK2.out; first | omega | exact Nat.le_refl _⟩, ⟨by (with_reducible repeat (first | apply Kd.R_alloc | apply Kd.R_drewN | apply Kd.R_drew)); exact HO_4.out⟩, ⟨by repeat (first | (with_reducible first | exact HB.out | apply below_alloc | apply pw_below_drewN | apply below_drew1) | exact HB.out)⟩⟩
            case rest =>
              clear HC5
              try clear p1
              try clear q1
              try clear hx1
              try clear c2
              try clear c2b0
              try clear c2b1
              try clear p2
              try clear c3
              try clear c3b0
              try clear c4
              try clear c4b0
              try clear c6
              try clear c6b0
              try clear p6
              try clear c7
              try clear c7b0
              try clear p8
              try clear q8
              try clear hx8
              try clear c9
              try clear c9b0
              try clear c9b1
              try clear hx192_0
              try clear p1
              try clear p192
              try clear p2
              try clear p8
              try clear q1
              try clear q192
              try clear q8
              obtain ⟨kq, x7_4, rfl, HA, HJ4, HO_4, HB⟩ := hcut
              cases kq with
              | zero => exact absurd HA.out (by simp [ambryref10_Parse.j2])
              | succ kj4 =>
                have H := HA.out
                clear HA
                simp only [ambryref10_Parse.j2] at H
                by_cases c10 : x7_4 = ((rdOf ByteArray.empty l0 x5_1).size : Int)
                · rw [if_pos c10] at H
                  have c10b0 : (x7_4 == ((rdOf ByteArray.empty l0 x5_1).size : Int)) = true := beq_iff_eq.mpr c10
                  have c10b1 : (x7_4 != ((rdOf ByteArray.empty l0 x5_1).size : Int)) = false := bne_eq_false_iff_eq.mpr c10
                  clear c10
                  simp only [Option.some.injEq, Prod.mk.injEq] at H
                  obtain ⟨rfl, rfl⟩ := H
                  go_wp2
                  go_ret2
                  exact ⟨_, by first | rfl | (simp [errW_none, errW_some] <;> rfl) | (simp [*, errW_none, errW_some] <;> rfl), by first | exact Kd.R_nil _ _ _ _ _ | exact Kd.N_nil _ _ _ _ _ | exact Kd.V_nil _ _ _ _ _ | exact Kd.Q_nil _ _ _ _ _ | exact Kd.S_nil _ _ _ _ _, by repeat (first | (with_reducible first | exact HB.out | apply below_alloc | apply pw_below_drewN | apply below_drew1) | exact HB.out)⟩
                · rw [if_neg c10] at H
                  have c10b0 : (x7_4 == ((rdOf ByteArray.empty l0 x5_1).size : Int)) = false := beq_eq_false_iff_ne.mpr c10
                  have c10b1 : (x7_4 != ((rdOf ByteArray.empty l0 x5_1).size : Int)) = true := bne_iff_ne.mpr c10
                  by_cases c11 : 0 ≤ x7_4
                  · rw [if_pos c11] at H
                    have c11b0 := eq_true c11
                    have c11b1 : decide (0 ≤ x7_4) = true := decide_eq_true c11
                    clear c11
                    by_cases c12 : x7_4 ≤ ((rdOf ByteArray.empty l0 x5_1).size : Int)
                    · rw [if_pos c12] at H
                      have c12b0 := eq_true c12
                      have c12b1 : decide (x7_4 ≤ ((rdOf ByteArray.empty l0 x5_1).size : Int)) = true := decide_eq_true c12
                      clear c12
                      replace H := Option.bind_eq_some_iff.mp H
                      obtain ⟨t193, A130, H⟩ := H
                      replace H : (if t193 = true then (if 0 ≤ (wrap64 (x7_4 + 1)) then (if (wrap64 (x7_4 + 1)) ≤ ((rdOf ByteArray.empty l0 x5_1).size : Int) then ((ambryref10_Trim.f kj4 ((rdOf ByteArray.empty l0 x5_1).extract ((wrap64 (x7_4 + 1)) : Int).toNat (rdOf ByteArray.empty l0 x5_1).size)).bind fun t194 => ((ambryref10_Value.f kj4 t194).bind fun t195 => (if t195 = true then ((ambryref10_Trim.f kj4 ((rdOf ByteArray.empty l0 x5_1).extract ((wrap64 (x7_4 + 1)) : Int).toNat (rdOf ByteArray.empty l0 x5_1).size)).bind fun t196 => (if x4_1.length < 4398046511104 then (ambryref10_Parse.l0 kj4 l0 (x4_1 ++ [(⟨(rdOf ByteArray.empty l0 x5_1).extract 0 (x7_4 : Int).toNat, t196⟩ : S68)]) (wrap64 (x5_1 + 1))) else (none))) else (some (([] : List (S68)), 90))))) else (none)) else (none)) else (some (([] : List (S68)), 90))) = some (r1, r2) := H
                      have A13 := Aside0.mk A130
                      clear A130
                      by_cases c14 : t193 = true
                      · subst c14
                        have H1 : (if 0 ≤ (wrap64 (x7_4 + 1)) then (if (wrap64 (x7_4 + 1)) ≤ ((rdOf ByteArray.empty l0 x5_1).size : Int) then ((ambryref10_Trim.f kj4 ((rdOf ByteArray.empty l0 x5_1).extract ((wrap64 (x7_4 + 1)) : Int).toNat (rdOf ByteArray.empty l0 x5_1).size)).bind fun t194 => ((ambryref10_Value.f kj4 t194).bind fun t195 => (if t195 = true then ((ambryref10_Trim.f kj4 ((rdOf ByteArray.empty l0 x5_1).extract ((wrap64 (x7_4 + 1)) : Int).toNat (rdOf ByteArray.empty l0 x5_1).size)).bind fun t196 => (if x4_1.length < 4398046511104 then (ambryref10_Parse.l0 kj4 l0 (x4_1 ++ [(⟨(rdOf ByteArray.empty l0 x5_1).extract 0 (x7_4 : Int).toNat, t196⟩ : S68)]) (wrap64 (x5_1 + 1))) else (none))) else (some (([] : List (S68)), 90))))) else (none)) else (none)) = some (r1, r2) := by rw [if_pos rfl] at H; exact H
                        clear H
                        have H := H1
                        clear H1
                        obtain ⟨ji15, hji15⟩ : ∃ j_ : Int, (wrap64 (x7_4 + 1)) = j_ := ⟨_, rfl⟩
                        replace H : (if 0 ≤ (ji15) then (if (ji15) ≤ ((rdOf ByteArray.empty l0 x5_1).size : Int) then ((ambryref10_Trim.f kj4 ((rdOf ByteArray.empty l0 x5_1).extract ((ji15) : Int).toNat (rdOf ByteArray.empty l0 x5_1).size)).bind fun t194 => ((ambryref10_Value.f kj4 t194).bind fun t195 => (if t195 = true then ((ambryref10_Trim.f kj4 ((rdOf ByteArray.empty l0 x5_1).extract ((ji15) : Int).toNat (rdOf ByteArray.empty l0 x5_1).size)).bind fun t196 => (if x4_1.length < 4398046511104 then (ambryref10_Parse.l0 kj4 l0 (x4_1 ++ [(⟨(rdOf ByteArray.empty l0 x5_1).extract 0 (x7_4 : Int).toNat, t196⟩ : S68)]) (wrap64 (x5_1 + 1))) else (none))) else (some (([] : List (S68)), 90))))) else (none)) else (none)) = some (r1, r2) := by first | (rw [hji15] at H; exact H) | (simp only [hji15] at H ⊢; exact H)
                        (try rw [hji15] at A13)
                        have hji15w : (IntKind.i64.wrap (x7_4 + 1)) = ji15 := (i64_w _).trans hji15
                        by_cases c16 : 0 ≤ (ji15)
                        · rw [if_pos c16] at H
                          have c16b0 := eq_true c16
                          have c16b1 : decide (0 ≤ (ji15)) = true := decide_eq_true c16
                          clear c16
                          by_cases c17 : (ji15) ≤ ((rdOf ByteArray.empty l0 x5_1).size : Int)
                          · rw [if_pos c17] at H
                            have c17b0 := eq_true c17
                            have c17b1 : decide ((ji15) ≤ ((rdOf ByteArray.empty l0 x5_1).size : Int)) = true := decide_eq_true c17
                            clear c17
                            replace H := Option.bind_eq_some_iff.mp H
                            obtain ⟨t194, A180, H⟩ := H
                            replace H : ((ambryref10_Value.f kj4 t194).bind fun t195 => (if t195 = true then ((ambryref10_Trim.f kj4 ((rdOf ByteArray.empty l0 x5_1).extract ((ji15) : Int).toNat (rdOf ByteArray.empty l0 x5_1).size)).bind fun t196 => (if x4_1.length < 4398046511104 then (ambryref10_Parse.l0 kj4 l0 (x4_1 ++ [(⟨(rdOf ByteArray.empty l0 x5_1).extract 0 (x7_4 : Int).toNat, t196⟩ : S68)]) (wrap64 (x5_1 + 1))) else (none))) else (some (([] : List (S68)), 90)))) = some (r1, r2) := H
                            have A18 := Aside0.mk A180
                            clear A180
                            replace H := Option.bind_eq_some_iff.mp H
                            obtain ⟨t195, A190, H⟩ := H
                            replace H : (if t195 = true then ((ambryref10_Trim.f kj4 ((rdOf ByteArray.empty l0 x5_1).extract ((ji15) : Int).toNat (rdOf ByteArray.empty l0 x5_1).size)).bind fun t196 => (if x4_1.length < 4398046511104 then (ambryref10_Parse.l0 kj4 l0 (x4_1 ++ [(⟨(rdOf ByteArray.empty l0 x5_1).extract 0 (x7_4 : Int).toNat, t196⟩ : S68)]) (wrap64 (x5_1 + 1))) else (none))) else (some (([] : List (S68)), 90))) = some (r1, r2) := H
                            have A19 := Aside0.mk A190
                            clear A190
                            by_cases c20 : t195 = true
                            · subst c20
                              have H1 : ((ambryref10_Trim.f kj4 ((rdOf ByteArray.empty l0 x5_1).extract ((ji15) : Int).toNat (rdOf ByteArray.empty l0 x5_1).size)).bind fun t196 => (if x4_1.length < 4398046511104 then (ambryref10_Parse.l0 kj4 l0 (x4_1 ++ [(⟨(rdOf ByteArray.empty l0 x5_1).extract 0 (x7_4 : Int).toNat, t196⟩ : S68)]) (wrap64 (x5_1 + 1))) else (none))) = some (r1, r2) := by rw [if_pos rfl] at H; exact H
                              clear H
                              have H := H1
                              clear H1
                              have c21b0 := eq_true (of_decide_eq_true (by first | (with_reducible assumption) | assumption) : 0 ≤ x7_4)
                              have c22b0 := eq_true (of_decide_eq_true (by first | (with_reducible assumption) | assumption) : x7_4 ≤ ((rdOf ByteArray.empty l0 x5_1).size : Int))
                              have c23b0 := eq_true (of_decide_eq_true (by first | (with_reducible assumption) | assumption) : 0 ≤ (ji15))
                              have c24b0 := eq_true (of_decide_eq_true (by first | (with_reducible assumption) | assumption) : (ji15) ≤ ((rdOf ByteArray.empty l0 x5_1).size : Int))
                              replace H := Option.bind_eq_some_iff.mp H
                              obtain ⟨t196, A250, H⟩ := H
                              replace H : (if x4_1.length < 4398046511104 then (ambryref10_Parse.l0 kj4 l0 (x4_1 ++ [(⟨(rdOf ByteArray.empty l0 x5_1).extract 0 (x7_4 : Int).toNat, t196⟩ : S68)]) (wrap64 (x5_1 + 1))) else (none)) = some (r1, r2) := H
                              have A25 := Aside0.mk A250
                              clear A250
                              by_cases c26 : x4_1.length < 4398046511104
                              · rw [if_pos c26] at H
                                have LMc26 := Aside0.mk c26
                                clear c26
                                obtain ⟨y197, hy197⟩ : ∃ y_ : List (S68), y_ = (x4_1 ++ [(⟨(rdOf ByteArray.empty l0 x5_1).extract 0 (x7_4 : Int).toNat, t196⟩ : S68)]) := ⟨_, rfl⟩
                                replace H : (ambryref10_Parse.l0 kj4 l0 y197 (wrap64 (x5_1 + 1))) = some (r1, r2) := by first | (rw [hy197]; with_reducible exact H) | (have H2_ := (Option.bind_some _ _).symm.trans H; rw [hy197]; with_reducible exact H2_) | (have H2_ := (Option.bind_some _ _).symm.trans H; with_reducible exact H2_) | with_reducible exact H | (rw [hy197]; exact H) | exact H
                                have Ny197 := Aside0.mk hy197
                                clear hy197
                                have H' := Aside0.mk H
                                clear H
                                try go_wp2_with (first | (go_at_call 14; (with_reducible refine (ambryref10_Token.calls kj4 ((rdOf ByteArray.empty l0 x5_1).extract 0 (x7_4 : Int).toNat) true _ A13.out).mono ?_); rintro e w' ⟨rfl, ⟨nd, rfl⟩⟩) | (go_at_call 38; (with_reducible refine (ambryref10_Trim.calls kj4 ((rdOf ByteArray.empty l0 x5_1).extract ((ji15) : Int).toNat (rdOf ByteArray.empty l0 x5_1).size) t194 _ A18.out).mono ?_); rintro e w' ⟨rfl, ⟨nd, rfl⟩⟩) | (go_at_call 15; (with_reducible refine (ambryref10_Value.calls kj4 t194 true _ A19.out).mono ?_); rintro e w' ⟨rfl, ⟨nd, rfl⟩⟩))
                                (try (rw [drewN_self wc]; generalize hq_ : World.drewN wc _ = wc; have n0_ : Aside0 (Kd.R k68 68 wc w.heap.size (fun _ => True) u4 x4_1) := ⟨by rw [← hq_]; exact (by (with_reducible repeat (first | apply Kd.R_alloc | apply Kd.R_drewN | apply Kd.R_drew)); exact HO_4.out)⟩; have n1_ : Aside0 (Below w.heap.size w wc) := ⟨by rw [← hq_]; exact (by repeat (first | (with_reducible first | exact HB.out | apply below_alloc | apply pw_below_drewN | apply below_drew1) | exact HB.out))⟩; clear HO_4 HB hq_; have HO_4 := n0_; have HB := n1_; clear n0_ n1_))
                                have n0_ := Aside0.mk (Kd.R_drew HO_4.out)
                                have n1_ := Aside0.mk (below_drew1 HB.out)
                                clear HO_4
                                clear HB
                                have HO_4 := n0_
                                have HB := n1_
                                clear n0_ n1_
                                refine start_ (n := 13) (S := fun w' => True) (ds := []) #[false, false, false, false, false, false, false, false, false, false, false, false, false] (by kernel_rfl) rfl rfl trivial (fun hHeld => ?_); refine with_tabW ambryref10_Parse.tab13 ambryref10_Parse.bits13 (fun HT_ HW_ => ?_)
                                generalize wc.drew = w27 at HO_4 HB hHeld ⊢
                                refine pure_ (i := 0) (N := some 53) (v := ?_) (a' := ?_) #[true, false, false, false, false, false, false, false, false, false, false, false, false] rfl rfl (any_of HT_.out (by kernel_rfl)) (fun _ _ _ h => h) (Or.inl ⟨by rfl, ?_⟩) ?_ ?_
                                rotate_left
                                · intro w'
                                  (try simp only [IntKind.wrap_u8])
                                  go_simp
                                  with_reducible rfl
                                rotate_left
                                · simp only [Act.put, List.setIfInBounds_toArray, List.set_cons_zero, List.set_cons_succ, i64_w, i32_w]
                                  rfl
                                refine pure_ (i := 1) (N := some 54) (v := ?_) (a' := ?_) #[true, true, false, false, false, false, false, false, false, false, false, false, false] rfl rfl (any_of HT_.out (by kernel_rfl)) (fun _ _ _ h => h) (Or.inl ⟨by rfl, ?_⟩) ?_ ?_
                                rotate_left
                                · intro w'
                                  (try simp only [IntKind.wrap_u8])
                                  go_simp
                                  with_reducible rfl
                                rotate_left
                                · simp only [Act.put, List.setIfInBounds_toArray, List.set_cons_zero, List.set_cons_succ, i64_w, i32_w]
                                  rfl
                                refine pure_ (i := 2) (N := some 55) (v := ?_) (a' := ?_) #[true, true, true, false, false, false, false, false, false, false, false, false, false] rfl rfl (any_of HT_.out (by kernel_rfl)) (fun _ _ _ h => h) (Or.inl ⟨by rfl, ?_⟩) ?_ ?_
                                rotate_left
                                · intro w'
                                  (try simp only [IntKind.wrap_u8])
                                  go_simp
                                  with_reducible rfl
                                rotate_left
                                · simp only [Act.put, List.setIfInBounds_toArray, List.set_cons_zero, List.set_cons_succ, i64_w, i32_w]
                                  rfl
                                refine pure_ (i := 3) (N := some 56) (v := ?_) (a' := ?_) #[true, true, true, true, false, false, false, false, false, false, false, false, false] rfl rfl (any_of HT_.out (by kernel_rfl)) (fun _ _ _ h => h) (Or.inl ⟨by rfl, ?_⟩) ?_ ?_
                                rotate_left
                                · intro w'
                                  (try simp only [IntKind.wrap_u8])
                                  go_simp
                                  with_reducible rfl
                                rotate_left
                                · simp only [Act.put, List.setIfInBounds_toArray, List.set_cons_zero, List.set_cons_succ, i64_w, i32_w]
                                  rfl
                                refine pure_ (i := 4) (N := some 57) (v := ?_) (a' := ?_) #[true, true, true, true, true, false, false, false, false, false, false, false, false] rfl rfl (any_of HT_.out (by kernel_rfl)) (fun _ _ _ h => h) (Or.inl ⟨by rfl, ?_⟩) ?_ ?_
                                rotate_left
                                · intro w'
                                  (try simp only [IntKind.wrap_u8])
                                  go_simp
                                  with_reducible rfl
                                rotate_left
                                · simp only [Act.put, List.setIfInBounds_toArray, List.set_cons_zero, List.set_cons_succ, i64_w, i32_w]
                                  rfl
                                refine pure_ (i := 5) (N := some 58) (v := ?_) (a' := ?_) #[true, true, true, true, true, true, false, false, false, false, false, false, false] rfl rfl (any_of HT_.out (by kernel_rfl)) (fun _ _ _ h => h) (Or.inl ⟨by rfl, ?_⟩) ?_ ?_
                                rotate_left
                                · intro w'
                                  (try simp only [IntKind.wrap_u8])
                                  go_simp
                                  with_reducible rfl
                                rotate_left
                                · simp only [Act.put, List.setIfInBounds_toArray, List.set_cons_zero, List.set_cons_succ, i64_w, i32_w]
                                  rfl
                                refine pure_ (i := 6) (N := some 59) (v := ?_) (a' := ?_) #[true, true, true, true, true, true, true, false, false, false, false, false, false] rfl rfl (any_of HT_.out (by kernel_rfl)) (fun _ _ _ h => h) (Or.inl ⟨by rfl, ?_⟩) ?_ ?_
                                rotate_left
                                · intro w'
                                  (try simp only [IntKind.wrap_u8])
                                  go_simp
                                  with_reducible rfl
                                rotate_left
                                · simp only [Act.put, List.setIfInBounds_toArray, List.set_cons_zero, List.set_cons_succ, i64_w, i32_w]
                                  rfl
                                refine pure_ (i := 7) (N := some 60) (v := ?_) (a' := ?_) #[true, true, true, true, true, true, true, true, false, false, false, false, false] rfl rfl (any_of HT_.out (by kernel_rfl)) (fun _ _ _ h => h) (Or.inl ⟨by rfl, ?_⟩) ?_ ?_
                                rotate_left
                                · intro w'
                                  (try simp only [IntKind.wrap_u8])
                                  go_simp
                                  with_reducible rfl
                                rotate_left
                                · simp only [Act.put, List.setIfInBounds_toArray, List.set_cons_zero, List.set_cons_succ, i64_w, i32_w]
                                  rfl
                                refine one_ (i := 8) (N := some 61) #[true, true, true, true, true, true, true, true, true, false, false, false, false] rfl rfl (one_of HT_.out (by kernel_rfl)) (by decide) (fun K hK => ?_)
                                refine goes_ Tryd.func38 (by kernel_rfl) rfl #[.string ((rdOf ByteArray.empty l0 x5_1).extract ((ji15) : Int).toNat (rdOf ByteArray.empty l0 x5_1).size)] (by rfl) rfl rfl (by (try simp only [List.map_toArray, List.map_cons, List.map_nil]); first | done | (simp only [hji15]; rfl) | rfl | (simp only [List.length_drop, List.length_take]; rfl)) ?_
                                with_reducible refine (ambryref10_Trim.calls kj4 ((rdOf ByteArray.empty l0 x5_1).extract ((ji15) : Int).toNat (rdOf ByteArray.empty l0 x5_1).size) t196 _ A25.out).mono ?_
                                rintro e w' ⟨rfl, ⟨nd, rfl⟩⟩
                                refine ⟨_, rfl, ?_⟩
                                refine hK.out _ _ trivial (fun hHeld => ?_)
                                clear hK K
                                refine norm_ (a' := ?_) ?_ ?_
                                rotate_left
                                · show Act.put _ (some 61) _ = _
                                  simp only [Act.put, List.setIfInBounds_toArray, List.set_cons_zero, List.set_cons_succ, i64_w, i32_w]
                                  rfl
                                refine pure_ (i := 9) (N := some 62) (v := ?_) (a' := ?_) #[true, true, true, true, true, true, true, true, true, true, false, false, false] rfl rfl (any_of HT_.out (by kernel_rfl)) (fun _ _ _ h => h) (Or.inl ⟨by rfl, ?_⟩) ?_ ?_
                                rotate_left
                                · intro w'
                                  (try simp only [IntKind.wrap_u8])
                                  go_simp
                                  with_reducible rfl
                                rotate_left
                                · simp only [Act.put, List.setIfInBounds_toArray, List.set_cons_zero, List.set_cons_succ, i64_w, i32_w]
                                  rfl
                                refine one_ (i := 10) (N := some 63) #[true, true, true, true, true, true, true, true, true, true, true, false, false] rfl rfl (one_of HT_.out (by kernel_rfl)) (by decide) (fun K hK => ?_)
                                refine value_ (w1 := ?_) (v := ?_) (by rfl) rfl ?_ ?_
                                rotate_left 2
                                · go_simp
                                  constructor
                                  · rfl
                                  · rfl
                                refine hK.out _ _ trivial (fun hHeld => ?_)
                                clear hK K
                                refine norm_ (a' := ?_) ?_ ?_
                                rotate_left
                                · show Act.put _ (some 63) _ = _
                                  simp only [Act.put, List.setIfInBounds_toArray, List.set_cons_zero, List.set_cons_succ, i64_w, i32_w]
                                  rfl
                                refine one_ (i := 11) (N := some 64) #[true, true, true, true, true, true, true, true, true, true, true, true, false] rfl rfl (one_of HT_.out (by kernel_rfl)) (by decide) (fun K hK => ?_)
                                refine Kd.R_append_step k68 (w0 := w) w.heap.size (by rfl) (.tmp 53) (.tmp 63) 57 68 (.agg #[(.string ⟨#[]⟩), (.string ⟨#[]⟩)]) 32 rfl Tryd.underlying57 info68 rfl (by decide) (by omega) u4 x4_1 (⟨(rdOf ByteArray.empty l0 x5_1).extract 0 (x7_4 : Int).toNat, t196⟩ : S68) [.string ((rdOf ByteArray.empty l0 x5_1).extract 0 (x7_4 : Int).toNat), .string t196] (fun _ => True) (fun _ => False) rfl rfl ?aP (fun _ hk => hk.elim) ?aF ?aO ?aB ?aS ?aL ?_
                                (case aP => exact k68_mkM _ _ _ (⟨(rdOf ByteArray.empty l0 x5_1).extract 0 (x7_4 : Int).toNat, t196⟩ : S68))
                                (case aB => exact (by repeat (first | (with_reducible first | exact HB.out | apply below_alloc | apply pw_below_drewN | apply below_drew1) | exact HB.out)))
                                (case aF => exact (fun _ _ => trivial))
                                (case aO => exact (by (with_reducible repeat (first | apply Kd.R_alloc | apply Kd.R_drewN | apply Kd.R_drew)); exact HO_4.out))
                                (case aS => exact (below_size (by repeat (first | (with_reducible first | exact HB.out | apply below_alloc | apply pw_below_drewN | apply below_drew1) | exact HB.out))))
                                (case aL => have := LMc26.out; omega)
                                intro v198 w28 ho hb hg hat
                                rw [← Ny197.out] at ho
                                have n0_ := Aside0.mk (hb)
                                have n1_ := Aside0.mk (ho)
                                clear HB
                                clear HO_4
                                have HB := n0_
                                have HO199 := n1_
                                clear n0_ n1_
                                clear ho hb hg hat
                                refine hK.out _ _ trivial (fun hHeld => ?_)
                                clear hK K
                                refine norm_ (a' := ?_) ?_ ?_
                                rotate_left
                                · show Act.put _ (some 64) _ = _
                                  simp only [Act.put, List.setIfInBounds_toArray, List.set_cons_zero, List.set_cons_succ, i64_w, i32_w]
                                  rfl
                                refine pure_ (i := 12) (N := some 4) (v := ?_) (a' := ?_) #[true, true, true, true, true, true, true, true, true, true, true, true, true] rfl rfl (any_of HT_.out (by kernel_rfl)) (fun _ _ _ h => h) (Or.inl ⟨by rfl, ?_⟩) ?_ ?_
                                rotate_left
                                · intro w'
                                  (try simp only [IntKind.wrap_u8])
                                  go_simp
                                  with_reducible rfl
                                rotate_left
                                · simp only [Act.put, List.setIfInBounds_toArray, List.set_cons_zero, List.set_cons_succ, i64_w, i32_w]
                                  rfl
                                refine done_ (done_of HT_.out (by kernel_rfl)) ?_
                                try go_wp2
                                go_roundg kj4
                                case measure => have := HK1.out; have := HJ4.out; omega
                                case rel => exact ⟨(y197), (wrap64 (x5_1 + 1)), (by first | rfl | (simp; done) | (simp [*]; done)), H', ⟨by have := HK1.out; have := HJ4.out; omega⟩, ⟨by (with_reducible repeat (first | apply Kd.R_alloc | apply Kd.R_drewN | apply Kd.R_drew)); exact HO199.out⟩, ⟨by repeat (first | (with_reducible first | exact HB.out | apply below_alloc | apply pw_below_drewN | apply below_drew1) | exact HB.out)⟩⟩
                              · rw [if_neg c26] at H
                                exact absurd H (by simp)
                            · replace c20 := Bool.eq_false_iff.mpr c20
                              subst c20
                              have H1 : (some (([] : List (S68)), 90)) = some (r1, r2) := by rw [if_neg (show ¬ (false = true) by decide)] at H; exact H
                              clear H
                              have H := H1
                              clear H1
                              simp only [Option.some.injEq, Prod.mk.injEq] at H
                              obtain ⟨rfl, rfl⟩ := H
                              go_wp2_with (first | (go_at_call 14; (with_reducible refine (ambryref10_Token.calls kj4 ((rdOf ByteArray.empty l0 x5_1).extract 0 (x7_4 : Int).toNat) true _ A13.out).mono ?_); rintro e w' ⟨rfl, ⟨nd, rfl⟩⟩) | (go_at_call 38; (with_reducible refine (ambryref10_Trim.calls kj4 ((rdOf ByteArray.empty l0 x5_1).extract ((ji15) : Int).toNat (rdOf ByteArray.empty l0 x5_1).size) t194 _ A18.out).mono ?_); rintro e w' ⟨rfl, ⟨nd, rfl⟩⟩) | (go_at_call 15; (with_reducible refine (ambryref10_Value.calls kj4 t194 false _ A19.out).mono ?_); rintro e w' ⟨rfl, ⟨nd, rfl⟩⟩))
                              go_ret2
                              exact ⟨_, by first | rfl | (simp [errW_none, errW_some] <;> rfl) | (simp only [← hji15]; first | rfl | (simp [errW_none, errW_some] <;> rfl)) | (simp [*, errW_none, errW_some] <;> rfl), by first | exact Kd.R_nil _ _ _ _ _ | exact Kd.N_nil _ _ _ _ _ | exact Kd.V_nil _ _ _ _ _ | exact Kd.Q_nil _ _ _ _ _ | exact Kd.S_nil _ _ _ _ _, by repeat (first | (with_reducible first | exact HB.out | apply below_alloc | apply pw_below_drewN | apply below_drew1) | exact HB.out)⟩
                          · rw [if_neg c17] at H
                            exact absurd H (by simp)
                        · rw [if_neg c16] at H
                          exact absurd H (by simp)
                      · replace c14 := Bool.eq_false_iff.mpr c14
                        subst c14
                        have H1 : (some (([] : List (S68)), 90)) = some (r1, r2) := by rw [if_neg (show ¬ (false = true) by decide)] at H; exact H
                        clear H
                        have H := H1
                        clear H1
                        simp only [Option.some.injEq, Prod.mk.injEq] at H
                        obtain ⟨rfl, rfl⟩ := H
                        go_wp2_with (first | (go_at_call 14; (with_reducible refine (ambryref10_Token.calls kj4 ((rdOf ByteArray.empty l0 x5_1).extract 0 (x7_4 : Int).toNat) false _ A13.out).mono ?_); rintro e w' ⟨rfl, ⟨nd, rfl⟩⟩))
                        go_ret2
                        exact ⟨_, by first | rfl | (simp [errW_none, errW_some] <;> rfl) | (simp [*, errW_none, errW_some] <;> rfl), by first | exact Kd.R_nil _ _ _ _ _ | exact Kd.N_nil _ _ _ _ _ | exact Kd.V_nil _ _ _ _ _ | exact Kd.Q_nil _ _ _ _ _ | exact Kd.S_nil _ _ _ _ _, by repeat (first | (with_reducible first | exact HB.out | apply below_alloc | apply pw_below_drewN | apply below_drew1) | exact HB.out)⟩
                    · rw [if_neg c12] at H
                      exact absurd H (by simp)
                  · rw [if_neg c11] at H
                    exact absurd H (by simp)
          · rw [if_neg c4] at H
            exact absurd H (by simp)
        · rw [if_neg c3] at H
          have c3b0 : decide (x5_1 < (l0.length : Int)) = false := decide_eq_false c3
          clear c3
          simp only [Option.some.injEq, Prod.mk.injEq] at H
          obtain ⟨rfl, rfl⟩ := H
          go_wp2
          go_ret2
          exact ⟨_, by first | rfl | (simp [errW_none, errW_some] <;> rfl) | (simp [*, errW_none, errW_some] <;> rfl), by (with_reducible repeat (first | apply Kd.R_alloc | apply Kd.R_drewN | apply Kd.R_drew)); exact HO_4.out, by repeat (first | (with_reducible first | exact HB.out | apply below_alloc | apply pw_below_drewN | apply below_drew1) | exact HB.out)⟩

end Go.Proofs.YtdhajdgcgjbdnaaDoor.G
