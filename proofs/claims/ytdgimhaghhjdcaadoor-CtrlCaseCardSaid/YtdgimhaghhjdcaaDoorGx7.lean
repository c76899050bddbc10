-- PRINTED by print.py (a twelfth state) out of the translation. Not trusted: Lean checks it.
import Derived.Test.YtdgimhaghhjdcaaDoorGx0
import Derived.Test.YtdgimhaghhjdcaaDoorGx5
import Derived.Test.YtdgimhaghhjdcaaDoorGx6
namespace Go.Proofs.YtdgimhaghhjdcaaDoor.G
open Go.RowKit Go.Proofs.YtdgimhaghhjdcaaDoorW.PrintWords Go.Proofs.YtdgimhaghhjdcaaDoorW.PrintLast Go.Proofs.YtdgimhaghhjdcaaDoorW.PrintMore
attribute [local go_sem] max2_int min2_int max_two min_two max_three min_three max_four min_four   -- for this text's walks alone
set_option linter.unusedVariables false
set_option linter.unusedSimpArgs false

/-! ### ambryref10_List: function 27 -/
mutual
def ambryref10_List.l0 : Nat → List ByteArray → List ByteArray → Int → Option (List ByteArray)
  | 0, _, _, _ => none
  | k + 1, x5, x6, x7 => if x7 < (x6.length : Int) then (if 0 ≤ x7 then (ambryref10_List.l1 k x5 x6 x7 (rdOf ByteArray.empty x6 x7) 0 false 0) else (none)) else (some x5)
def ambryref10_List.l1 : Nat → List ByteArray → List ByteArray → Int → ByteArray → Int → Bool → Int → Option (List ByteArray)
  | 0, _, _, _, _, _, _, _ => none
  | k + 1, x5, x6, x7, x8, x9, x10, x11 => if x11 ≤ (x8.size : Int) then (if x11 < (x8.size : Int) then (if 0 ≤ x11 then (if (bt x8 x11) = 44 then (ambryref10_List.j2 k x5 x6 x7 x8 x9 x10 x11 x10) else (ambryref10_List.j2 k x5 x6 x7 x8 x9 x10 x11 true)) else (none)) else (ambryref10_List.j2 k x5 x6 x7 x8 x9 x10 x11 false)) else (ambryref10_List.l0 k x5 x6 (wrap64 (x7 + 1)))
def ambryref10_List.j2 : Nat → List ByteArray → List ByteArray → Int → ByteArray → Int → Bool → Int → Bool → Option (List ByteArray)
  | 0, _, _, _, _, _, _, _, _ => none
  | k + 1, x5, x6, x7, x8, x9, x10, x11, x44 => if x44 = true then (if 0 ≤ x11 then (if x11 < (x8.size : Int) then (if (bt x8 x11) = 34 then (ambryref10_List.l1 k x5 x6 x7 x8 x9 (!x10) (wrap64 (x11 + 1))) else (if (bt x8 x11) = 92 then (if x10 = true then (ambryref10_List.j3 k x5 x6 x7 x8 x9 x10 x11 (decide ((wrap64 (x11 + 1)) < (x8.size : Int)))) else (ambryref10_List.j3 k x5 x6 x7 x8 x9 x10 x11 false)) else (ambryref10_List.j3 k x5 x6 x7 x8 x9 x10 x11 false))) else (none)) else (none)) else (if 0 ≤ x9 then (if x9 ≤ (mn x11 (x8.size : Int)) then (if (mn x11 (x8.size : Int)) ≤ (x8.size : Int) then ((ambryref10_Trim.f k (x8.extract (x9 : Int).toNat ((mn x11 (x8.size : Int)) : Int).toNat)).bind fun t197 => (if t197.toList = ([] : List UInt8) then (ambryref10_List.l1 k x5 x6 x7 x8 (wrap64 (x11 + 1)) x10 (wrap64 (x11 + 1))) else (if x5.length < 8796093022208 then (ambryref10_List.l1 k (x5 ++ [t197]) x6 x7 x8 (wrap64 (x11 + 1)) x10 (wrap64 (x11 + 1))) else (none)))) else (none)) else (none)) else (none))
def ambryref10_List.j3 : Nat → List ByteArray → List ByteArray → Int → ByteArray → Int → Bool → Int → Bool → Option (List ByteArray)
  | 0, _, _, _, _, _, _, _, _ => none
  | k + 1, x5, x6, x7, x8, x9, x10, x11, x52 => if x52 = true then (ambryref10_List.l1 k x5 x6 x7 x8 x9 x10 (wrap64 ((wrap64 (x11 + 1)) + 1))) else (ambryref10_List.l1 k x5 x6 x7 x8 x9 x10 (wrap64 (x11 + 1)))
end
def ambryref10_List.f (k : Nat) (l0 : List (S29)) (a1 : ByteArray) : Option (List ByteArray) := (ambryref10_All.f k l0 a1).bind fun t193 => (ambryref10_List.l0 k ([] : List ByteArray) t193 0)
theorem ambryref10_List.mono_l : ∀ k, (∀ y0 y1 y2, LeO (ambryref10_List.l0 k y0 y1 y2) (ambryref10_List.l0 (k + 1) y0 y1 y2)) ∧ (∀ y0 y1 y2 y3 y4 y5 y6, LeO (ambryref10_List.l1 k y0 y1 y2 y3 y4 y5 y6) (ambryref10_List.l1 (k + 1) y0 y1 y2 y3 y4 y5 y6)) ∧ (∀ y0 y1 y2 y3 y4 y5 y6 y7, LeO (ambryref10_List.j2 k y0 y1 y2 y3 y4 y5 y6 y7) (ambryref10_List.j2 (k + 1) y0 y1 y2 y3 y4 y5 y6 y7)) ∧ (∀ y0 y1 y2 y3 y4 y5 y6 y7, LeO (ambryref10_List.j3 k y0 y1 y2 y3 y4 y5 y6 y7) (ambryref10_List.j3 (k + 1) y0 y1 y2 y3 y4 y5 y6 y7))
  | 0 => ⟨fun _ _ _ r h => by simp [ambryref10_List.l0] at h, fun _ _ _ _ _ _ _ r h => by simp [ambryref10_List.l1] at h, fun _ _ _ _ _ _ _ _ r h => by simp [ambryref10_List.j2] at h, fun _ _ _ _ _ _ _ _ r h => by simp [ambryref10_List.j3] at h⟩
  | k + 1 => by
    obtain ⟨ih0, ih1, ih2, ih3⟩ := ambryref10_List.mono_l k
    refine ⟨?_, ?_, ?_, ?_⟩
    · intro y0 y1 y2
      unfold ambryref10_List.l0
      repeat' first
      | (with_reducible exact ih0 _ _ _)
      | (with_reducible exact ih1 _ _ _ _ _ _ _)
      | (with_reducible exact ih2 _ _ _ _ _ _ _ _)
      | (with_reducible exact ih3 _ _ _ _ _ _ _ _)
      | (with_reducible exact ambryref10_All.mono _ _ _)
      | (with_reducible exact ambryref10_Trim.mono _ _)
      | (with_reducible exact LeO.refl _)
      | (with_reducible exact LeO.none _)
      | (with_reducible refine LeO.ite ?_ ?_)
      | (with_reducible refine LeO.bind ?_ (fun _ => ?_))
      | exact ih0 _ _ _
      | exact ih1 _ _ _ _ _ _ _
      | exact ih2 _ _ _ _ _ _ _ _
      | exact ih3 _ _ _ _ _ _ _ _
      | exact ambryref10_All.mono _ _ _
      | exact ambryref10_Trim.mono _ _
      | exact LeO.none _
      | refine LeO.ite ?_ ?_
      | refine LeO.bind ?_ (fun _ => ?_)
    · intro y0 y1 y2 y3 y4 y5 y6
      unfold ambryref10_List.l1
      repeat' first
      | (with_reducible exact ih0 _ _ _)
      | (with_reducible exact ih1 _ _ _ _ _ _ _)
      | (with_reducible exact ih2 _ _ _ _ _ _ _ _)
      | (with_reducible exact ih3 _ _ _ _ _ _ _ _)
      | (with_reducible exact ambryref10_All.mono _ _ _)
      | (with_reducible exact ambryref10_Trim.mono _ _)
      | (with_reducible exact LeO.refl _)
      | (with_reducible exact LeO.none _)
      | (with_reducible refine LeO.ite ?_ ?_)
      | (with_reducible refine LeO.bind ?_ (fun _ => ?_))
      | exact ih0 _ _ _
      | exact ih1 _ _ _ _ _ _ _
      | exact ih2 _ _ _ _ _ _ _ _
      | exact ih3 _ _ _ _ _ _ _ _
      | exact ambryref10_All.mono _ _ _
      | exact ambryref10_Trim.mono _ _
      | exact LeO.none _
      | refine LeO.ite ?_ ?_
      | refine LeO.bind ?_ (fun _ => ?_)
    · intro y0 y1 y2 y3 y4 y5 y6 y7
      unfold ambryref10_List.j2
      repeat' first
      | (with_reducible exact ih0 _ _ _)
      | (with_reducible exact ih1 _ _ _ _ _ _ _)
      | (with_reducible exact ih2 _ _ _ _ _ _ _ _)
      | (with_reducible exact ih3 _ _ _ _ _ _ _ _)
      | (with_reducible exact ambryref10_All.mono _ _ _)
      | (with_reducible exact ambryref10_Trim.mono _ _)
      | (with_reducible exact LeO.refl _)
      | (with_reducible exact LeO.none _)
      | (with_reducible refine LeO.ite ?_ ?_)
      | (with_reducible refine LeO.bind ?_ (fun _ => ?_))
      | exact ih0 _ _ _
      | exact ih1 _ _ _ _ _ _ _
      | exact ih2 _ _ _ _ _ _ _ _
      | exact ih3 _ _ _ _ _ _ _ _
      | exact ambryref10_All.mono _ _ _
      | exact ambryref10_Trim.mono _ _
      | exact LeO.none _
      | refine LeO.ite ?_ ?_
      | refine LeO.bind ?_ (fun _ => ?_)
    · intro y0 y1 y2 y3 y4 y5 y6 y7
      unfold ambryref10_List.j3
      repeat' first
      | (with_reducible exact ih0 _ _ _)
      | (with_reducible exact ih1 _ _ _ _ _ _ _)
      | (with_reducible exact ih2 _ _ _ _ _ _ _ _)
      | (with_reducible exact ih3 _ _ _ _ _ _ _ _)
      | (with_reducible exact ambryref10_All.mono _ _ _)
      | (with_reducible exact ambryref10_Trim.mono _ _)
      | (with_reducible exact LeO.refl _)
      | (with_reducible exact LeO.none _)
      | (with_reducible refine LeO.ite ?_ ?_)
      | (with_reducible refine LeO.bind ?_ (fun _ => ?_))
      | exact ih0 _ _ _
      | exact ih1 _ _ _ _ _ _ _
      | exact ih2 _ _ _ _ _ _ _ _
      | exact ih3 _ _ _ _ _ _ _ _
      | exact ambryref10_All.mono _ _ _
      | exact ambryref10_Trim.mono _ _
      | exact LeO.none _
      | refine LeO.ite ?_ ?_
      | refine LeO.bind ?_ (fun _ => ?_)
theorem ambryref10_List.mono : ∀ a0 a1 k, LeO (ambryref10_List.f k a0 a1) (ambryref10_List.f (k + 1) a0 a1) := by
  intro a0 a1 k
  obtain ⟨ih0, ih1, ih2, ih3⟩ := ambryref10_List.mono_l k
  unfold ambryref10_List.f
  repeat' first
      | (with_reducible exact ih0 _ _ _)
      | (with_reducible exact ih1 _ _ _ _ _ _ _)
      | (with_reducible exact ih2 _ _ _ _ _ _ _ _)
      | (with_reducible exact ih3 _ _ _ _ _ _ _ _)
      | (with_reducible exact ambryref10_All.mono _ _ _)
      | (with_reducible exact ambryref10_Trim.mono _ _)
      | (with_reducible exact LeO.refl _)
      | (with_reducible exact LeO.none _)
      | (with_reducible refine LeO.ite ?_ ?_)
      | (with_reducible refine LeO.bind ?_ (fun _ => ?_))
      | exact ih0 _ _ _
      | exact ih1 _ _ _ _ _ _ _
      | exact ih2 _ _ _ _ _ _ _ _
      | exact ih3 _ _ _ _ _ _ _ _
      | exact ambryref10_All.mono _ _ _
      | exact ambryref10_Trim.mono _ _
      | exact LeO.none _
      | refine LeO.ite ?_ ?_
      | refine LeO.bind ?_ (fun _ => ?_)
set_option maxHeartbeats 8000000 in
set_option maxRecDepth 100000 in
theorem ambryref10_List.calls (k : Nat) (A0 : Option Addr) (c0 : Nat) (l0 : List (S29)) (a1 : ByteArray) (r : List ByteArray) (w : World) (hr0 : Kd.C k29 w A0 l0.length l0) (hc0 : l0.length ≤ c0) (h : ambryref10_List.f k l0 a1 = some r) :
    Calls Tryd.prog 27 #[.slice A0 l0.length c0, .string a1] w fun e w' => ∃ v0_ : Value, e = .returned (v0_) ∧ Kd.R Kd.string 9 w' w.heap.size (fun _ => True) v0_ r ∧ Below w.heap.size w w' := by
  have HR0 := Aside0.mk hr0
  have HC0 := Aside0.mk hc0
  clear hr0 hc0
  have HB := Aside0.mk (Below.refl w.heap.size w)
  have H : ((ambryref10_All.f k l0 a1).bind fun t193 => (ambryref10_List.l0 k ([] : List ByteArray) t193 0)) = some r := h
  clear h
  replace H := Option.bind_eq_some_iff.mp H
  obtain ⟨t193, A30, H⟩ := H
  replace H : (ambryref10_List.l0 k ([] : List ByteArray) t193 0) = some r := H
  have A3 := Aside0.mk A30
  clear A30
  have H' := Aside0.mk H
  clear H
  go_enter Tryd.func27, Tryd.ntmps27
  go_wp2_with (first | ((with_reducible refine gate_callee (f := 45) rfl ?_); refine goesL_ (some 15) rfl rfl Tryd.func45 (by kernel_rfl) rfl #[.slice A0 l0.length c0, .string a1] rfl (by (try simp only [List.map_toArray, List.map_cons, List.map_nil]); first | done | rfl | (simp only [List.length_drop, List.length_take]; rfl)) ?_; (with_reducible refine (ambryref10_All.calls k _ _ l0 a1 t193 _ ?side1 ?side2 A3.out).mono ?_); (case side1 => repeat (first | exact HR0.out | (with_reducible refine Kd.C_alloc ?_ _) | (with_reducible refine Kd.C_drewN ?_ _) | (with_reducible refine Kd.C_drew ?_))); (case side2 => exact HC0.out); rintro e w4 ⟨v194, rfl, ho0, hb⟩; refine ⟨_, rfl, ?_⟩; have n0_ := Aside0.mk (Kd.R_lower ho0 (below_size (by repeat (first | (with_reducible first | exact HB.out | apply below_alloc | apply pw_below_drewN | apply below_drew1) | exact HB.out)))); have n1_ := Aside0.mk (below_step (by repeat (first | (with_reducible first | exact HB.out | apply below_alloc | apply pw_below_drewN | apply below_drew1) | exact HB.out)) hb); clear HB; have HO195 := n0_; have HB := n1_; clear n0_ n1_; (try clear hb); (try clear hb2); (try clear hk); (try clear hi); (try clear ho0)))
  go_loopg [5, 7] k (fun kq v5 v7 w' => ∃ (x5_1 : List ByteArray) (x7_1 : Int), v7 = .int .i64 x7_1 ∧ Aside0 (ambryref10_List.l0 kq x5_1 t193 x7_1 = some r) ∧ Aside0 (kq ≤ k) ∧ Aside0 (Kd.R Kd.string 9 w' w.heap.size (fun k_ => some k_ ≠ (v194 : Value).ownBlock) v5 x5_1) ∧ Aside0 (Kd.R Kd.string 9 w' w.heap.size (fun k_ => some k_ ≠ (v5 : Value).ownBlock) v194 t193) ∧ Aside0 (Below w.heap.size w w'))
  case atStart => exact ⟨(([] : List ByteArray)), (0), (by first | rfl | (simp; done) | (simp [*]; done)), H', ⟨Nat.le_refl _⟩, ⟨by first | exact Kd.R_nil _ _ _ _ _ | exact Kd.N_nil _ _ _ _ _ | exact Kd.V_nil _ _ _ _ _ | exact Kd.Q_nil _ _ _ _ _ | exact Kd.S_nil _ _ _ _ _⟩, ⟨by (with_reducible repeat (first | apply Kd.R_alloc | apply Kd.R_drewN | apply Kd.R_drew)); exact Kd.R_mono HO195.out (fun _ hk => (by simp [Value.ownBlock]))⟩, ⟨by repeat (first | (with_reducible first | exact HB.out | apply below_alloc | apply pw_below_drewN | apply below_drew1) | exact HB.out)⟩⟩
  case round =>
    clear H'
    try clear c2
    try clear p2
    try clear c4
    obtain ⟨x5_1, x7_1, rfl, HA, HK1, HO_5, HO_6, HB⟩ := hrel
    cases gk with
    | zero => exact absurd HA.out (by simp [ambryref10_List.l0])
    | succ k1 =>
      have H := HA.out
      clear HA
      simp only [ambryref10_List.l0] at H
      by_cases c5 : x7_1 < (t193.length : Int)
      · rw [if_pos c5] at H
        have c5b0 : decide (x7_1 < (t193.length : Int)) = true := decide_eq_true c5
        clear c5
        by_cases c6 : 0 ≤ x7_1
        · rw [if_pos c6] at H
          have c6b0 : decide (0 ≤ x7_1) = true := decide_eq_true c6
          clear c6
          have H' := Aside0.mk H
          clear H
          obtain ⟨Ao7, co7, eo7⟩ := Kd.R_slice HO_6.out
          subst eo7
          have p196 : 0 ≤ (x7_1 : Int) := of_decide_eq_true (by first | (with_reducible assumption) | assumption)
          have q196 : x7_1 < (t193.length : Int) := of_decide_eq_true (by first | (with_reducible assumption) | assumption)
          obtain ⟨ad196, e196, hx196_0⟩ := Kd.at_string (Kd.R_reads' HO_6.out).2.2 x7_1 p196 q196
          cases e196
          replace p196 := eq_true p196
          replace q196 := eq_true q196
          go_wp2
          go_loopg [5, 9, 10, 11] k1 (fun kq v5 v9 v10 v11 w' => ∃ (x5_2 : List ByteArray) (x9_2 : Int) (x10_2 : Bool) (x11_2 : Int), v9 = .int .i64 x9_2 ∧ v10 = .bool x10_2 ∧ v11 = .int .i64 x11_2 ∧ Aside0 (ambryref10_List.l1 kq x5_2 t193 x7_1 (rdOf ByteArray.empty t193 x7_1) x9_2 x10_2 x11_2 = some r) ∧ Aside0 (kq ≤ k1) ∧ Aside0 (Kd.R Kd.string 9 w' w.heap.size (fun k_ => some k_ ≠ ((.slice (some ad196) t193.length co7) : Value).ownBlock) v5 x5_2) ∧ Aside0 (Kd.R Kd.string 9 w' w.heap.size (fun k_ => some k_ ≠ (v5 : Value).ownBlock) (.slice (some ad196) t193.length co7) t193) ∧ Aside0 (Below w.heap.size w w'))
          case atStart => exact ⟨(x5_1), (0), (false), (0), (by first | rfl | (simp; done) | (simp [*]; done)), (by first | rfl | (simp; done) | (simp [*]; done)), (by first | rfl | (simp; done) | (simp [*]; done)), H', ⟨Nat.le_refl _⟩, ⟨by (with_reducible repeat (first | apply Kd.R_alloc | apply Kd.R_drewN | apply Kd.R_drew)); exact HO_5.out⟩, ⟨by (with_reducible repeat (first | apply Kd.R_alloc | apply Kd.R_drewN | apply Kd.R_drew)); exact HO_6.out⟩, ⟨by repeat (first | (with_reducible first | exact HB.out | apply below_alloc | apply pw_below_drewN | apply below_drew1) | exact HB.out)⟩⟩
          case round =>
            clear H'
            try clear p1
            try clear q1
            try clear hx1
            try clear c2
            try clear p2
            try clear c4
            try clear c5
            try clear c5b0
            try clear c6
            try clear c6b0
            try clear hx196_0
            try clear p196
            try clear p2
            try clear q196
            obtain ⟨x5_2, x9_2, x10_2, x11_2, rfl, rfl, rfl, HA, HK2, HO_5, HO_6, HB⟩ := hrel
            cases gk with
            | zero => exact absurd HA.out (by simp [ambryref10_List.l1])
            | succ k2 =>
              have H := HA.out
              clear HA
              simp only [ambryref10_List.l1] at H
              by_cases c8 : x11_2 ≤ ((rdOf ByteArray.empty t193 x7_1).size : Int)
              · rw [if_pos c8] at H
                have c8b0 : decide (x11_2 ≤ ((rdOf ByteArray.empty t193 x7_1).size : Int)) = true := decide_eq_true c8
                clear c8
                have HC9 := Aside0.mk H
                clear H
                go_upto_region 11 with (fail)
                go_cut [44] (fun v44 wc => ∃ (kq : Nat) (x44_8 : Bool), v44 = .bool x44_8 ∧ Aside0 (ambryref10_List.j2 kq x5_2 t193 x7_1 (rdOf ByteArray.empty t193 x7_1) x9_2 x10_2 x11_2 x44_8 = some r) ∧ Aside0 (kq ≤ k2) ∧ Aside0 (Kd.R Kd.string 9 wc w.heap.size (fun k_ => some k_ ≠ ((.slice (some ad196) t193.length co7) : Value).ownBlock) u5 x5_2) ∧ Aside0 (Kd.R Kd.string 9 wc w.heap.size (fun k_ => some k_ ≠ (u5 : Value).ownBlock) (.slice (some ad196) t193.length co7) t193) ∧ Aside0 (Below w.heap.size w wc))
                case first =>
                  have H := HC9.out
                  clear HC9
                  by_cases c10 : x11_2 < ((rdOf ByteArray.empty t193 x7_1).size : Int)
                  · rw [if_pos c10] at H
                    have c10b0 : decide (x11_2 < ((rdOf ByteArray.empty t193 x7_1).size : Int)) = true := decide_eq_true c10
                    clear c10
                    (first | rw [c10b0] | (simp only [i64_w, i32_w]; rw [c10b0]) | skip)
                    by_cases c11 : 0 ≤ x11_2
                    · rw [if_pos c11] at H
                      have c11b0 : decide (0 ≤ x11_2) = true := decide_eq_true c11
                      clear c11
                      by_cases c13 : (bt (rdOf ByteArray.empty t193 x7_1) x11_2) = 44
                      · rw [if_pos c13] at H
                        have c13b0 : ((bt (rdOf ByteArray.empty t193 x7_1) x11_2) == 44) = true := beq_iff_eq.mpr c13
                        have c13b1 : ((bt (rdOf ByteArray.empty t193 x7_1) x11_2) != 44) = false := bne_eq_false_iff_eq.mpr c13
                        clear c13
                        have H' := Aside0.mk H
                        clear H
                        have p12 : 0 ≤ (x11_2 : Int) := of_decide_eq_true (by first | (with_reducible assumption) | assumption)
                        have q12 : x11_2 < ((rdOf ByteArray.empty t193 x7_1).size : Int) := of_decide_eq_true (by first | (with_reducible assumption) | assumption)
                        have hx12 := bt_at (rdOf ByteArray.empty t193 x7_1) x11_2
                        replace p12 := eq_true p12
                        replace q12 := eq_true q12
                        go_wp2
                        go_meet
                        case rel => exact ⟨_, (x10_2), (by first | rfl | (simp; done) | (simp [*]; done)), H', ⟨by have := HK1.out; have := HK2.out; first | omega | exact Nat.le_refl _⟩, ⟨by (with_reducible repeat (first | apply Kd.R_alloc | apply Kd.R_drewN | apply Kd.R_drew)); exact HO_5.out⟩, ⟨by (with_reducible repeat (first | apply Kd.R_alloc | apply Kd.R_drewN | apply Kd.R_drew)); exact HO_6.out⟩, ⟨by repeat (first | (with_reducible first | exact HB.out | apply below_alloc | apply pw_below_drewN | apply below_drew1) | exact HB.out)⟩⟩
                      · rw [if_neg c13] at H
                        have c13b0 : ((bt (rdOf ByteArray.empty t193 x7_1) x11_2) == 44) = false := beq_eq_false_iff_ne.mpr c13
                        have c13b1 : ((bt (rdOf ByteArray.empty t193 x7_1) x11_2) != 44) = true := bne_iff_ne.mpr c13
                        have H' := Aside0.mk H
                        clear H
                        have p12 : 0 ≤ (x11_2 : Int) := of_decide_eq_true (by first | (with_reducible assumption) | assumption)
                        have q12 : x11_2 < ((rdOf ByteArray.empty t193 x7_1).size : Int) := of_decide_eq_true (by first | (with_reducible assumption) | assumption)
                        have hx12 := bt_at (rdOf ByteArray.empty t193 x7_1) x11_2
                        replace p12 := eq_true p12
                        replace q12 := eq_true q12
                        go_wp2
                        go_meet
                        case rel => exact ⟨_, (true), (by first | rfl | (simp; done) | (simp [*]; done)), H', ⟨by have := HK1.out; have := HK2.out; first | omega | exact Nat.le_refl _⟩, ⟨by (with_reducible repeat (first | apply Kd.R_alloc | apply Kd.R_drewN | apply Kd.R_drew)); exact HO_5.out⟩, ⟨by (with_reducible repeat (first | apply Kd.R_alloc | apply Kd.R_drewN | apply Kd.R_drew)); exact HO_6.out⟩, ⟨by repeat (first | (with_reducible first | exact HB.out | apply below_alloc | apply pw_below_drewN | apply below_drew1) | exact HB.out)⟩⟩
                    · rw [if_neg c11] at H
                      exact absurd H (by simp)
                  · rw [if_neg c10] at H
                    have c10b0 : decide (x11_2 < ((rdOf ByteArray.empty t193 x7_1).size : Int)) = false := decide_eq_false c10
                    clear c10
                    (first | rw [c10b0] | (simp only [i64_w, i32_w]; rw [c10b0]) | skip)
                    have H' := Aside0.mk H
                    clear H
                    go_wp2
                    go_meet
                    case rel => exact ⟨_, (false), (by first | rfl | (simp; done) | (simp [*]; done)), H', ⟨by have := HK1.out; have := HK2.out; first | omega | exact Nat.le_refl _⟩, ⟨by (with_reducible repeat (first | apply Kd.R_alloc | apply Kd.R_drewN | apply Kd.R_drew)); exact HO_5.out⟩, ⟨by (with_reducible repeat (first | apply Kd.R_alloc | apply Kd.R_drewN | apply Kd.R_drew)); exact HO_6.out⟩, ⟨by repeat (first | (with_reducible first | exact HB.out | apply below_alloc | apply pw_below_drewN | apply below_drew1) | exact HB.out)⟩⟩
                case rest =>
                  clear HC9
                  try clear c1
                  try clear p1
                  try clear q1
                  try clear hx1
                  try clear c2
                  try clear p2
                  try clear c4
                  try clear c5
                  try clear c5b0
                  try clear c6
                  try clear c6b0
                  try clear c8
                  try clear c8b0
                  try clear c10
                  try clear c10b0
                  try clear c11
                  try clear c11b0
                  try clear p12
                  try clear q12
                  try clear hx12
                  try clear c13
                  try clear c13b0
                  try clear c13b1
                  try clear hx196_0
                  try clear p1
                  try clear p12
                  try clear p196
                  try clear p2
                  try clear q1
                  try clear q12
                  try clear q196
                  obtain ⟨kq, x44_8, rfl, HA, HJ8, HO_5, HO_6, HB⟩ := hcut
                  cases kq with
                  | zero => exact absurd HA.out (by simp [ambryref10_List.j2])
                  | succ kj8 =>
                    have H := HA.out
                    clear HA
                    simp only [ambryref10_List.j2] at H
                    by_cases c14 : x44_8 = true
                    · subst c14
                      have H1 : (if 0 ≤ x11_2 then (if x11_2 < ((rdOf ByteArray.empty t193 x7_1).size : Int) then (if (bt (rdOf ByteArray.empty t193 x7_1) x11_2) = 34 then (ambryref10_List.l1 kj8 x5_2 t193 x7_1 (rdOf ByteArray.empty t193 x7_1) x9_2 (!x10_2) (wrap64 (x11_2 + 1))) else (if (bt (rdOf ByteArray.empty t193 x7_1) x11_2) = 92 then (if x10_2 = true then (ambryref10_List.j3 kj8 x5_2 t193 x7_1 (rdOf ByteArray.empty t193 x7_1) x9_2 x10_2 x11_2 (decide ((wrap64 (x11_2 + 1)) < ((rdOf ByteArray.empty t193 x7_1).size : Int)))) else (ambryref10_List.j3 kj8 x5_2 t193 x7_1 (rdOf ByteArray.empty t193 x7_1) x9_2 x10_2 x11_2 false)) else (ambryref10_List.j3 kj8 x5_2 t193 x7_1 (rdOf ByteArray.empty t193 x7_1) x9_2 x10_2 x11_2 false))) else (none)) else (none)) = some r := by rw [if_pos rfl] at H; exact H
                      clear H
                      have H := H1
                      clear H1
                      by_cases c15 : 0 ≤ x11_2
                      · rw [if_pos c15] at H
                        have c15b0 : decide (0 ≤ x11_2) = true := decide_eq_true c15
                        clear c15
                        by_cases c16 : x11_2 < ((rdOf ByteArray.empty t193 x7_1).size : Int)
                        · rw [if_pos c16] at H
                          have c16b0 : decide (x11_2 < ((rdOf ByteArray.empty t193 x7_1).size : Int)) = true := decide_eq_true c16
                          clear c16
                          by_cases c18 : (bt (rdOf ByteArray.empty t193 x7_1) x11_2) = 34
                          · rw [if_pos c18] at H
                            have c18b0 : ((bt (rdOf ByteArray.empty t193 x7_1) x11_2) == 34) = true := beq_iff_eq.mpr c18
                            have c18b1 : ((bt (rdOf ByteArray.empty t193 x7_1) x11_2) != 34) = false := bne_eq_false_iff_eq.mpr c18
                            clear c18
                            have H' := Aside0.mk H
                            clear H
                            have p17 : 0 ≤ (x11_2 : Int) := of_decide_eq_true (by first | (with_reducible assumption) | assumption)
                            have q17 : x11_2 < ((rdOf ByteArray.empty t193 x7_1).size : Int) := of_decide_eq_true (by first | (with_reducible assumption) | assumption)
                            have hx17 := bt_at (rdOf ByteArray.empty t193 x7_1) x11_2
                            replace p17 := eq_true p17
                            replace q17 := eq_true q17
                            go_wp2
                            go_roundg kj8
                            case measure => have := HK1.out; have := HK2.out; have := HJ8.out; omega
                            case rel => exact ⟨(x5_2), (x9_2), (!x10_2), (wrap64 (x11_2 + 1)), (by first | rfl | (simp; done) | (simp [*]; done)), (by first | rfl | (simp; done) | (simp [*]; done)), (by first | rfl | (simp; done) | (simp [*]; done)), H', ⟨by have := HK1.out; have := HK2.out; have := HJ8.out; omega⟩, ⟨by (with_reducible repeat (first | apply Kd.R_alloc | apply Kd.R_drewN | apply Kd.R_drew)); exact HO_5.out⟩, ⟨by (with_reducible repeat (first | apply Kd.R_alloc | apply Kd.R_drewN | apply Kd.R_drew)); exact HO_6.out⟩, ⟨by repeat (first | (with_reducible first | exact HB.out | apply below_alloc | apply pw_below_drewN | apply below_drew1) | exact HB.out)⟩⟩
                          · rw [if_neg c18] at H
                            have c18b0 : ((bt (rdOf ByteArray.empty t193 x7_1) x11_2) == 34) = false := beq_eq_false_iff_ne.mpr c18
                            have c18b1 : ((bt (rdOf ByteArray.empty t193 x7_1) x11_2) != 34) = true := bne_iff_ne.mpr c18
                            have HC19 := Aside0.mk H
                            clear H
                            have p17 : 0 ≤ (x11_2 : Int) := of_decide_eq_true (by first | (with_reducible assumption) | assumption)
                            have q17 : x11_2 < ((rdOf ByteArray.empty t193 x7_1).size : Int) := of_decide_eq_true (by first | (with_reducible assumption) | assumption)
                            have hx17 := bt_at (rdOf ByteArray.empty t193 x7_1) x11_2
                            replace p17 := eq_true p17
                            replace q17 := eq_true q17
                            go_upto_region 14 with (fail)
                            go_cut [52] (fun v52 wc => ∃ (kq : Nat) (x52_18 : Bool), v52 = .bool x52_18 ∧ Aside0 (ambryref10_List.j3 kq x5_2 t193 x7_1 (rdOf ByteArray.empty t193 x7_1) x9_2 x10_2 x11_2 x52_18 = some r) ∧ Aside0 (kq ≤ kj8) ∧ Aside0 (Kd.R Kd.string 9 wc w.heap.size (fun k_ => some k_ ≠ ((.slice (some ad196) t193.length co7) : Value).ownBlock) u5 x5_2) ∧ Aside0 (Kd.R Kd.string 9 wc w.heap.size (fun k_ => some k_ ≠ (u5 : Value).ownBlock) (.slice (some ad196) t193.length co7) t193) ∧ Aside0 (Below w.heap.size w wc))
                            case first =>
                              have H := HC19.out
                              clear HC19
                              by_cases c21 : (bt (rdOf ByteArray.empty t193 x7_1) x11_2) = 92
                              · rw [if_pos c21] at H
                                have c21b0 : ((bt (rdOf ByteArray.empty t193 x7_1) x11_2) == 92) = true := beq_iff_eq.mpr c21
                                have c21b1 : ((bt (rdOf ByteArray.empty t193 x7_1) x11_2) != 92) = false := bne_eq_false_iff_eq.mpr c21
                                clear c21
                                (first | rw [c21b0] | (simp only [i64_w, i32_w]; rw [c21b0]) | skip)
                                by_cases c22 : x10_2 = true
                                · subst c22
                                  have H1 : (ambryref10_List.j3 kj8 x5_2 t193 x7_1 (rdOf ByteArray.empty t193 x7_1) x9_2 true x11_2 (decide ((wrap64 (x11_2 + 1)) < ((rdOf ByteArray.empty t193 x7_1).size : Int)))) = some r := by rw [if_pos rfl] at H; exact H
                                  clear H
                                  have H := H1
                                  clear H1
                                  have H' := Aside0.mk H
                                  clear H
                                  have p20 : 0 ≤ (x11_2 : Int) := of_decide_eq_true (by first | (with_reducible assumption) | assumption)
                                  have q20 : x11_2 < ((rdOf ByteArray.empty t193 x7_1).size : Int) := of_decide_eq_true (by first | (with_reducible assumption) | assumption)
                                  have hx20 := bt_at (rdOf ByteArray.empty t193 x7_1) x11_2
                                  replace p20 := eq_true p20
                                  replace q20 := eq_true q20
                                  go_wp2
                                  go_meet
                                  case rel => exact ⟨_, (decide ((wrap64 (x11_2 + 1)) < ((rdOf ByteArray.empty t193 x7_1).size : Int))), (by first | rfl | (simp; done) | (simp [*]; done)), H', ⟨by have := HK1.out; have := HK2.out; have := HJ8.out; first | omega | exact Nat.le_refl _⟩, ⟨by (with_reducible repeat (first | apply Kd.R_alloc | apply Kd.R_drewN | apply Kd.R_drew)); exact HO_5.out⟩, ⟨by (with_reducible repeat (first | apply Kd.R_alloc | apply Kd.R_drewN | apply Kd.R_drew)); exact HO_6.out⟩, ⟨by repeat (first | (with_reducible first | exact HB.out | apply below_alloc | apply pw_below_drewN | apply below_drew1) | exact HB.out)⟩⟩
                                · replace c22 := Bool.eq_false_iff.mpr c22
                                  subst c22
                                  have H1 : (ambryref10_List.j3 kj8 x5_2 t193 x7_1 (rdOf ByteArray.empty t193 x7_1) x9_2 false x11_2 false) = some r := by rw [if_neg (show ¬ (false = true) by decide)] at H; exact H
                                  clear H
                                  have H := H1
                                  clear H1
                                  have H' := Aside0.mk H
                                  clear H
                                  have p20 : 0 ≤ (x11_2 : Int) := of_decide_eq_true (by first | (with_reducible assumption) | assumption)
                                  have q20 : x11_2 < ((rdOf ByteArray.empty t193 x7_1).size : Int) := of_decide_eq_true (by first | (with_reducible assumption) | assumption)
                                  have hx20 := bt_at (rdOf ByteArray.empty t193 x7_1) x11_2
                                  replace p20 := eq_true p20
                                  replace q20 := eq_true q20
                                  go_wp2
                                  go_meet
                                  case rel => exact ⟨_, (false), (by first | rfl | (simp; done) | (simp [*]; done)), H', ⟨by have := HK1.out; have := HK2.out; have := HJ8.out; first | omega | exact Nat.le_refl _⟩, ⟨by (with_reducible repeat (first | apply Kd.R_alloc | apply Kd.R_drewN | apply Kd.R_drew)); exact HO_5.out⟩, ⟨by (with_reducible repeat (first | apply Kd.R_alloc | apply Kd.R_drewN | apply Kd.R_drew)); exact HO_6.out⟩, ⟨by repeat (first | (with_reducible first | exact HB.out | apply below_alloc | apply pw_below_drewN | apply below_drew1) | exact HB.out)⟩⟩
                              · rw [if_neg c21] at H
                                have c21b0 : ((bt (rdOf ByteArray.empty t193 x7_1) x11_2) == 92) = false := beq_eq_false_iff_ne.mpr c21
                                have c21b1 : ((bt (rdOf ByteArray.empty t193 x7_1) x11_2) != 92) = true := bne_iff_ne.mpr c21
                                (first | rw [c21b0] | (simp only [i64_w, i32_w]; rw [c21b0]) | skip)
                                have H' := Aside0.mk H
                                clear H
                                have p20 : 0 ≤ (x11_2 : Int) := of_decide_eq_true (by first | (with_reducible assumption) | assumption)
                                have q20 : x11_2 < ((rdOf ByteArray.empty t193 x7_1).size : Int) := of_decide_eq_true (by first | (with_reducible assumption) | assumption)
                                have hx20 := bt_at (rdOf ByteArray.empty t193 x7_1) x11_2
                                replace p20 := eq_true p20
                                replace q20 := eq_true q20
                                go_wp2
                                go_meet
                                case rel => exact ⟨_, (false), (by first | rfl | (simp; done) | (simp [*]; done)), H', ⟨by have := HK1.out; have := HK2.out; have := HJ8.out; first | omega | exact Nat.le_refl _⟩, ⟨by (with_reducible repeat (first | apply Kd.R_alloc | apply Kd.R_drewN | apply Kd.R_drew)); exact HO_5.out⟩, ⟨by (with_reducible repeat (first | apply Kd.R_alloc | apply Kd.R_drewN | apply Kd.R_drew)); exact HO_6.out⟩, ⟨by repeat (first | (with_reducible first | exact HB.out | apply below_alloc | apply pw_below_drewN | apply below_drew1) | exact HB.out)⟩⟩
                            case rest =>
                              clear HC19
                              try clear c1
                              try clear p1
                              try clear q1
                              try clear hx1
                              try clear c2
                              try clear p2
                              try clear q2
                              try clear hx2
                              try clear c4
                              try clear c5
                              try clear c5b0
                              try clear c6
                              try clear c6b0
                              try clear p6
                              try clear c8
                              try clear c8b0
                              try clear c10
                              try clear c10b0
                              try clear c11
                              try clear c11b0
                              try clear p12
                              try clear q12
                              try clear hx12
                              try clear c13
                              try clear c13b0
                              try clear c13b1
                              try clear c14
                              try clear c15
                              try clear c15b0
                              try clear c16
                              try clear c16b0
                              try clear p17
                              try clear q17
                              try clear hx17
                              try clear c18
                              try clear c18b0
                              try clear c18b1
                              try clear p19
                              try clear q19
                              try clear hx19
                              try clear p20
                              try clear q20
                              try clear hx20
                              try clear c21
                              try clear c21b0
                              try clear c21b1
                              try clear c22
                              try clear hx196_0
                              try clear p1
                              try clear p12
                              try clear p17
                              try clear p196
                              try clear p2
                              try clear p20
                              try clear q1
                              try clear q12
                              try clear q17
                              try clear q196
                              try clear q20
                              obtain ⟨kq, x52_18, rfl, HA, HJ18, HO_5, HO_6, HB⟩ := hcut
                              cases kq with
                              | zero => exact absurd HA.out (by simp [ambryref10_List.j3])
                              | succ kj18 =>
                                have H := HA.out
                                clear HA
                                simp only [ambryref10_List.j3] at H
                                by_cases c23 : x52_18 = true
                                · subst c23
                                  have H1 : (ambryref10_List.l1 kj18 x5_2 t193 x7_1 (rdOf ByteArray.empty t193 x7_1) x9_2 x10_2 (wrap64 ((wrap64 (x11_2 + 1)) + 1))) = some r := by rw [if_pos rfl] at H; exact H
                                  clear H
                                  have H := H1
                                  clear H1
                                  have H' := Aside0.mk H
                                  clear H
                                  go_wp2
                                  go_roundg kj18
                                  case measure => have := HK1.out; have := HK2.out; have := HJ8.out; have := HJ18.out; omega
                                  case rel => exact ⟨(x5_2), (x9_2), (x10_2), (wrap64 ((wrap64 (x11_2 + 1)) + 1)), (by first | rfl | (simp; done) | (simp [*]; done)), (by first | rfl | (simp; done) | (simp [*]; done)), (by first | rfl | (simp; done) | (simp [*]; done)), H', ⟨by have := HK1.out; have := HK2.out; have := HJ8.out; have := HJ18.out; omega⟩, ⟨by (with_reducible repeat (first | apply Kd.R_alloc | apply Kd.R_drewN | apply Kd.R_drew)); exact HO_5.out⟩, ⟨by (with_reducible repeat (first | apply Kd.R_alloc | apply Kd.R_drewN | apply Kd.R_drew)); exact HO_6.out⟩, ⟨by repeat (first | (with_reducible first | exact HB.out | apply below_alloc | apply pw_below_drewN | apply below_drew1) | exact HB.out)⟩⟩
                                · replace c23 := Bool.eq_false_iff.mpr c23
                                  subst c23
                                  have H1 : (ambryref10_List.l1 kj18 x5_2 t193 x7_1 (rdOf ByteArray.empty t193 x7_1) x9_2 x10_2 (wrap64 (x11_2 + 1))) = some r := by rw [if_neg (show ¬ (false = true) by decide)] at H; exact H
                                  clear H
                                  have H := H1
                                  clear H1
                                  have H' := Aside0.mk H
                                  clear H
                                  go_wp2
                                  go_roundg kj18
                                  case measure => have := HK1.out; have := HK2.out; have := HJ8.out; have := HJ18.out; omega
                                  case rel => exact ⟨(x5_2), (x9_2), (x10_2), (wrap64 (x11_2 + 1)), (by first | rfl | (simp; done) | (simp [*]; done)), (by first | rfl | (simp; done) | (simp [*]; done)), (by first | rfl | (simp; done) | (simp [*]; done)), H', ⟨by have := HK1.out; have := HK2.out; have := HJ8.out; have := HJ18.out; omega⟩, ⟨by (with_reducible repeat (first | apply Kd.R_alloc | apply Kd.R_drewN | apply Kd.R_drew)); exact HO_5.out⟩, ⟨by (with_reducible repeat (first | apply Kd.R_alloc | apply Kd.R_drewN | apply Kd.R_drew)); exact HO_6.out⟩, ⟨by repeat (first | (with_reducible first | exact HB.out | apply below_alloc | apply pw_below_drewN | apply below_drew1) | exact HB.out)⟩⟩
                        · rw [if_neg c16] at H
                          exact absurd H (by simp)
                      · rw [if_neg c15] at H
                        exact absurd H (by simp)
                    · replace c14 := Bool.eq_false_iff.mpr c14
                      subst c14
                      have H1 : (if 0 ≤ x9_2 then (if x9_2 ≤ (mn x11_2 ((rdOf ByteArray.empty t193 x7_1).size : Int)) then (if (mn x11_2 ((rdOf ByteArray.empty t193 x7_1).size : Int)) ≤ ((rdOf ByteArray.empty t193 x7_1).size : Int) then ((ambryref10_Trim.f kj8 ((rdOf ByteArray.empty t193 x7_1).extract (x9_2 : Int).toNat ((mn x11_2 ((rdOf ByteArray.empty t193 x7_1).size : Int)) : Int).toNat)).bind fun t197 => (if t197.toList = ([] : List UInt8) then (ambryref10_List.l1 kj8 x5_2 t193 x7_1 (rdOf ByteArray.empty t193 x7_1) (wrap64 (x11_2 + 1)) x10_2 (wrap64 (x11_2 + 1))) else (if x5_2.length < 8796093022208 then (ambryref10_List.l1 kj8 (x5_2 ++ [t197]) t193 x7_1 (rdOf ByteArray.empty t193 x7_1) (wrap64 (x11_2 + 1)) x10_2 (wrap64 (x11_2 + 1))) else (none)))) else (none)) else (none)) else (none)) = some r := by rw [if_neg (show ¬ (false = true) by decide)] at H; exact H
                      clear H
                      have H := H1
                      clear H1
                      obtain ⟨ji24, hji24⟩ : ∃ j_ : Int, (mn x11_2 ((rdOf ByteArray.empty t193 x7_1).size : Int)) = j_ := ⟨_, rfl⟩
                      replace H : (if 0 ≤ x9_2 then (if x9_2 ≤ (ji24) then (if (ji24) ≤ ((rdOf ByteArray.empty t193 x7_1).size : Int) then ((ambryref10_Trim.f kj8 ((rdOf ByteArray.empty t193 x7_1).extract (x9_2 : Int).toNat ((ji24) : Int).toNat)).bind fun t197 => (if t197.toList = ([] : List UInt8) then (ambryref10_List.l1 kj8 x5_2 t193 x7_1 (rdOf ByteArray.empty t193 x7_1) (wrap64 (x11_2 + 1)) x10_2 (wrap64 (x11_2 + 1))) else (if x5_2.length < 8796093022208 then (ambryref10_List.l1 kj8 (x5_2 ++ [t197]) t193 x7_1 (rdOf ByteArray.empty t193 x7_1) (wrap64 (x11_2 + 1)) x10_2 (wrap64 (x11_2 + 1))) else (none)))) else (none)) else (none)) else (none)) = some r := by first | (rw [hji24] at H; exact H) | (simp only [hji24] at H ⊢; exact H)
                      have hji24_ : (if ((rdOf ByteArray.empty t193 x7_1).size : Int) < x11_2 then ((rdOf ByteArray.empty t193 x7_1).size : Int) else x11_2) = ji24 := hji24
                      by_cases c25 : 0 ≤ x9_2
                      · rw [if_pos c25] at H
                        have c25b0 := eq_true c25
                        have c25b1 : decide (0 ≤ x9_2) = true := decide_eq_true c25
                        clear c25
                        by_cases c26 : x9_2 ≤ (ji24)
                        · rw [if_pos c26] at H
                          have c26b0 := eq_true c26
                          have c26b1 : decide (x9_2 ≤ (ji24)) = true := decide_eq_true c26
                          clear c26
                          by_cases c27 : (ji24) ≤ ((rdOf ByteArray.empty t193 x7_1).size : Int)
                          · rw [if_pos c27] at H
                            have c27b0 := eq_true c27
                            have c27b1 : decide ((ji24) ≤ ((rdOf ByteArray.empty t193 x7_1).size : Int)) = true := decide_eq_true c27
                            clear c27
                            replace H := Option.bind_eq_some_iff.mp H
                            obtain ⟨t197, A280, H⟩ := H
                            replace H : (if t197.toList = ([] : List UInt8) then (ambryref10_List.l1 kj8 x5_2 t193 x7_1 (rdOf ByteArray.empty t193 x7_1) (wrap64 (x11_2 + 1)) x10_2 (wrap64 (x11_2 + 1))) else (if x5_2.length < 8796093022208 then (ambryref10_List.l1 kj8 (x5_2 ++ [t197]) t193 x7_1 (rdOf ByteArray.empty t193 x7_1) (wrap64 (x11_2 + 1)) x10_2 (wrap64 (x11_2 + 1))) else (none))) = some r := H
                            have A28 := Aside0.mk A280
                            clear A280
                            by_cases c29 : t197.toList = ([] : List UInt8)
                            · rw [if_pos c29] at H
                              have c29b0 : (t197.toList == ([] : List UInt8)) = true := beq_iff_eq.mpr c29
                              have c29b1 : (t197.toList != ([] : List UInt8)) = false := bne_eq_false_iff_eq.mpr c29
                              clear c29
                              have H' := Aside0.mk H
                              clear H
                              go_wp2_with (first | ((with_reducible refine gate_callee (f := 46) rfl ?_); refine goesL_ (some 76) rfl rfl Tryd.func46 (by kernel_rfl) rfl #[.string ((rdOf ByteArray.empty t193 x7_1).extract (x9_2 : Int).toNat ((ji24) : Int).toNat)] rfl (by (try simp only [List.map_toArray, List.map_cons, List.map_nil]); first | done | (simp only [hji24]; rfl) | rfl | (simp only [List.length_drop, List.length_take]; rfl)) ?_; (with_reducible refine (ambryref10_Trim.calls kj8 ((rdOf ByteArray.empty t193 x7_1).extract (x9_2 : Int).toNat ((ji24) : Int).toNat) t197 _ A28.out).mono ?_); rintro e w' ⟨rfl, ⟨nd, rfl⟩⟩; refine ⟨_, rfl, ?_⟩))
                              go_roundg kj8
                              case measure => have := HK1.out; have := HK2.out; have := HJ8.out; omega
                              case rel => exact ⟨(x5_2), (wrap64 (x11_2 + 1)), (x10_2), (wrap64 (x11_2 + 1)), (by first | rfl | (simp; done) | (simp [*]; done)), (by first | rfl | (simp; done) | (simp [*]; done)), (by first | rfl | (simp; done) | (simp [*]; done)), H', ⟨by have := HK1.out; have := HK2.out; have := HJ8.out; omega⟩, ⟨by (with_reducible repeat (first | apply Kd.R_alloc | apply Kd.R_drewN | apply Kd.R_drew)); exact HO_5.out⟩, ⟨by (with_reducible repeat (first | apply Kd.R_alloc | apply Kd.R_drewN | apply Kd.R_drew)); exact HO_6.out⟩, ⟨by repeat (first | (with_reducible first | exact HB.out | apply below_alloc | apply pw_below_drewN | apply below_drew1) | exact HB.out)⟩⟩
                            · rw [if_neg c29] at H
                              have c29b0 : (t197.toList == ([] : List UInt8)) = false := beq_eq_false_iff_ne.mpr c29
                              have c29b1 : (t197.toList != ([] : List UInt8)) = true := bne_iff_ne.mpr c29
                              by_cases c30 : x5_2.length < 8796093022208
                              · rw [if_pos c30] at H
                                have LMc30 := Aside0.mk c30
                                clear c30
                                obtain ⟨y198, hy198⟩ : ∃ y_ : List ByteArray, y_ = (x5_2 ++ [t197]) := ⟨_, rfl⟩
                                replace H : (ambryref10_List.l1 kj8 y198 t193 x7_1 (rdOf ByteArray.empty t193 x7_1) (wrap64 (x11_2 + 1)) x10_2 (wrap64 (x11_2 + 1))) = some r := by first | (rw [hy198]; with_reducible exact H) | (have H2_ := (Option.bind_some _ _).symm.trans H; rw [hy198]; with_reducible exact H2_) | (have H2_ := (Option.bind_some _ _).symm.trans H; with_reducible exact H2_) | with_reducible exact H | (rw [hy198]; exact H) | exact H
                                have Ny198 := Aside0.mk hy198
                                clear hy198
                                have H' := Aside0.mk H
                                clear H
                                go_wp2_with (first | ((with_reducible refine gate_callee (f := 46) rfl ?_); refine goesL_ (some 76) rfl rfl Tryd.func46 (by kernel_rfl) rfl #[.string ((rdOf ByteArray.empty t193 x7_1).extract (x9_2 : Int).toNat ((ji24) : Int).toNat)] rfl (by (try simp only [List.map_toArray, List.map_cons, List.map_nil]); first | done | (simp only [hji24]; rfl) | rfl | (simp only [List.length_drop, List.length_take]; rfl)) ?_; (with_reducible refine (ambryref10_Trim.calls kj8 ((rdOf ByteArray.empty t193 x7_1).extract (x9_2 : Int).toNat ((ji24) : Int).toNat) t197 _ A28.out).mono ?_); rintro e w' ⟨rfl, ⟨nd, rfl⟩⟩; refine ⟨_, rfl, ?_⟩) | ((with_reducible refine gate_builtin (b := .append) (xs := #[.tmp 79, .tmp 81]) rfl ?_); (try (refine gate_guard (by rfl) ?_; dsimp only)); at_builtin; refine Kd.R_append Kd.string (w0 := w) w.heap.size rfl (.tmp 79) (.tmp 81) 33 9 (.string ⟨#[]⟩) 16 rfl Tryd.underlying33 info9 rfl (by decide) (by omega) u5 x5_2 t197 [.string t197] (fun k_ => some k_ ≠ (.slice (some ad196) t193.length co7 : Value).ownBlock) (fun _ => False) rfl rfl ?aP (fun _ hk => hk.elim) ?aF ?aO ?aB ?aS ?aL ?_; (case aP => exact rfl); (case aB => exact (by repeat (first | (with_reducible first | exact HB.out | apply below_alloc | apply pw_below_drewN | apply below_drew1) | exact HB.out))); (case aF => exact (fun k_ hk => Kd.fresh' (Kd.R_lt (by (with_reducible repeat (first | apply Kd.R_alloc | apply Kd.R_drewN | apply Kd.R_drew)); exact HO_6.out)) k_ hk)); (case aO => exact (by (with_reducible repeat (first | apply Kd.R_alloc | apply Kd.R_drewN | apply Kd.R_drew)); exact HO_5.out)); (case aS => exact (below_size (by repeat (first | (with_reducible first | exact HB.out | apply below_alloc | apply pw_below_drewN | apply below_drew1) | exact HB.out)))); (case aL => have := LMc30.out; omega); intro v199 w31 ho hb hg hat; rw [← Ny198.out] at ho; have n0_ := Aside0.mk (Kd.R_after (ok := (fun _ => True)) (by (with_reducible repeat (first | apply Kd.R_alloc | apply Kd.R_drewN | apply Kd.R_drew)); exact Kd.R_mono HO_6.out (fun _ hk => ⟨trivial, hk⟩)) hg hat); have n1_ := Aside0.mk (hb); have n2_ := Aside0.mk (ho); clear HO_6; clear HB; clear HO_5; have HO_6 := n0_; have HB := n1_; have HO200 := n2_; clear n0_ n1_ n2_; clear ho hb hg hat))
                                go_roundg kj8
                                case measure => have := HK1.out; have := HK2.out; have := HJ8.out; omega
                                case rel => exact ⟨(y198), (wrap64 (x11_2 + 1)), (x10_2), (wrap64 (x11_2 + 1)), (by first | rfl | (simp; done) | (simp [*]; done)), (by first | rfl | (simp; done) | (simp [*]; done)), (by first | rfl | (simp; done) | (simp [*]; done)), H', ⟨by have := HK1.out; have := HK2.out; have := HJ8.out; omega⟩, ⟨by (with_reducible repeat (first | apply Kd.R_alloc | apply Kd.R_drewN | apply Kd.R_drew)); exact HO200.out⟩, ⟨by (with_reducible repeat (first | apply Kd.R_alloc | apply Kd.R_drewN | apply Kd.R_drew)); exact Kd.R_mono HO_6.out (fun _ hk => hk.2)⟩, ⟨by repeat (first | (with_reducible first | exact HB.out | apply below_alloc | apply pw_below_drewN | apply below_drew1) | exact HB.out)⟩⟩
                              · rw [if_neg c30] at H
                                exact absurd H (by simp)
                          · rw [if_neg c27] at H
                            exact absurd H (by simp)
                        · rw [if_neg c26] at H
                          exact absurd H (by simp)
                      · rw [if_neg c25] at H
                        exact absurd H (by simp)
              · rw [if_neg c8] at H
                have c8b0 : decide (x11_2 ≤ ((rdOf ByteArray.empty t193 x7_1).size : Int)) = false := decide_eq_false c8
                clear c8
                have H' := Aside0.mk H
                clear H
                go_wp2
                go_roundg k2
                case measure => have := HK1.out; have := HK2.out; omega
                case rel => exact ⟨(x5_2), (wrap64 (x7_1 + 1)), (by first | rfl | (simp; done) | (simp [*]; done)), H', ⟨by have := HK1.out; have := HK2.out; omega⟩, ⟨by (with_reducible repeat (first | apply Kd.R_alloc | apply Kd.R_drewN | apply Kd.R_drew)); exact HO_5.out⟩, ⟨by (with_reducible repeat (first | apply Kd.R_alloc | apply Kd.R_drewN | apply Kd.R_drew)); exact HO_6.out⟩, ⟨by repeat (first | (with_reducible first | exact HB.out | apply below_alloc | apply pw_below_drewN | apply below_drew1) | exact HB.out)⟩⟩
        · rw [if_neg c6] at H
          exact absurd H (by simp)
      · rw [if_neg c5] at H
        have c5b0 : decide (x7_1 < (t193.length : Int)) = false := decide_eq_false c5
        clear c5
        obtain rfl := Option.some.inj H
        obtain ⟨Ao32, co32, eo32⟩ := Kd.R_slice HO_6.out
        subst eo32
        go_wp2
        go_ret
        exact ⟨_, by first | rfl | (simp [errW_none, errW_some] <;> rfl) | (simp [*, errW_none, errW_some] <;> rfl), by (with_reducible repeat (first | apply Kd.R_alloc | apply Kd.R_drewN | apply Kd.R_drew)); exact Kd.R_mono HO_5.out (fun _ hk => trivial), by repeat (first | (with_reducible first | exact HB.out | apply below_alloc | apply pw_below_drewN | apply below_drew1) | exact HB.out)⟩

end Go.Proofs.YtdgimhaghhjdcaaDoor.G
