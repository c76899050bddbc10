-- PRINTED by print.py (a twelfth state) out of the translation. Not trusted: Lean checks it.
import Derived.Test.YtefijfanjekchaaGx0
import Derived.Test.YtefijfanjekchaaGx4
namespace Go.Proofs.Ytefijfanjekchaa.G
open Go.RowKit Go.Proofs.YtefijfanjekchaaW.PrintWords Go.Proofs.YtefijfanjekchaaW.PrintLast Go.Proofs.YtefijfanjekchaaW.PrintMore
attribute [local go_sem] max2_int min2_int max_two min_two max_three min_three max_four min_four   -- for this text's walks alone
set_option linter.unusedVariables false
set_option linter.unusedSimpArgs false

/-! ### ambryref10_List: function 26 -/
mutual
def ambryref10_List.l0 : Nat → List ByteArray → List ByteArray → Int → Option (List ByteArray)
  | 0, _, _, _ => none
  | k + 1, x5, x6, x7 => if x7 < (x6.length : Int) then (if 0 ≤ x7 then (ambryref10_List.l1 k x5 x6 x7 (rdOf ByteArray.empty x6 x7) 0 false 0) else (none)) else (some x5)
def ambryref10_List.l1 : Nat → List ByteArray → List ByteArray → Int → ByteArray → Int → Bool → Int → Option (List ByteArray)
  | 0, _, _, _, _, _, _, _ => none
  | k + 1, x5, x6, x7, x8, x9, x10, x11 => if x11 ≤ (x8.size : Int) then (if x11 < (x8.size : Int) then (if 0 ≤ x11 then (if (bt x8 x11) = 44 then (ambryref10_List.j2 k x5 x6 x7 x8 x9 x10 x11 x10) else (ambryref10_List.j2 k x5 x6 x7 x8 x9 x10 x11 true)) else (none)) else (ambryref10_List.j2 k x5 x6 x7 x8 x9 x10 x11 false)) else (ambryref10_List.l0 k x5 x6 (wrap64 (x7 + 1)))
def ambryref10_List.j2 : Nat → List ByteArray → List ByteArray → Int → ByteArray → Int → Bool → Int → Bool → Option (List ByteArray)
  | 0, _, _, _, _, _, _, _, _ => none
  | k + 1, x5, x6, x7, x8, x9, x10, x11, x44 => if x44 = true then (if 0 ≤ x11 then (if x11 < (x8.size : Int) then (if (bt x8 x11) = 34 then (ambryref10_List.l1 k x5 x6 x7 x8 x9 (!x10) (wrap64 (x11 + 1))) else (if (bt x8 x11) = 92 then (if x10 = true then (ambryref10_List.j3 k x5 x6 x7 x8 x9 x10 x11 (decide ((wrap64 (x11 + 1)) < (x8.size : Int)))) else (ambryref10_List.j3 k x5 x6 x7 x8 x9 x10 x11 false)) else (ambryref10_List.j3 k x5 x6 x7 x8 x9 x10 x11 false))) else (none)) else (none)) else (if 0 ≤ x9 then (if x9 ≤ (mn x11 (x8.size : Int)) then (if (mn x11 (x8.size : Int)) ≤ (x8.size : Int) then ((ambryref10_Trim.f k (x8.extract (x9 : Int).toNat ((mn x11 (x8.size : Int)) : Int).toNat)).bind fun t154 => (if t154.toList = ([] : List UInt8) then (ambryref10_List.l1 k x5 x6 x7 x8 (wrap64 (x11 + 1)) x10 (wrap64 (x11 + 1))) else (if x5.length < 8796093022208 then (ambryref10_List.l1 k (x5 ++ [t154]) x6 x7 x8 (wrap64 (x11 + 1)) x10 (wrap64 (x11 + 1))) else (none)))) else (none)) else (none)) else (none))
def ambryref10_List.j3 : Nat → List ByteArray → List ByteArray → Int → ByteArray → Int → Bool → Int → Bool → Option (List ByteArray)
  | 0, _, _, _, _, _, _, _, _ => none
  | k + 1, x5, x6, x7, x8, x9, x10, x11, x52 => if x52 = true then (ambryref10_List.l1 k x5 x6 x7 x8 x9 x10 (wrap64 ((wrap64 (x11 + 1)) + 1))) else (ambryref10_List.l1 k x5 x6 x7 x8 x9 x10 (wrap64 (x11 + 1)))
end
def ambryref10_List.f (k : Nat) (l0 : List (S38)) (a1 : ByteArray) : Option (List ByteArray) := (ambryref10_All.f k l0 a1).bind fun t150 => (ambryref10_List.l0 k ([] : List ByteArray) t150 0)
theorem ambryref10_List.mono_l : ∀ k, (∀ y0 y1 y2, LeO (ambryref10_List.l0 k y0 y1 y2) (ambryref10_List.l0 (k + 1) y0 y1 y2)) ∧ (∀ y0 y1 y2 y3 y4 y5 y6, LeO (ambryref10_List.l1 k y0 y1 y2 y3 y4 y5 y6) (ambryref10_List.l1 (k + 1) y0 y1 y2 y3 y4 y5 y6)) ∧ (∀ y0 y1 y2 y3 y4 y5 y6 y7, LeO (ambryref10_List.j2 k y0 y1 y2 y3 y4 y5 y6 y7) (ambryref10_List.j2 (k + 1) y0 y1 y2 y3 y4 y5 y6 y7)) ∧ (∀ y0 y1 y2 y3 y4 y5 y6 y7, LeO (ambryref10_List.j3 k y0 y1 y2 y3 y4 y5 y6 y7) (ambryref10_List.j3 (k + 1) y0 y1 y2 y3 y4 y5 y6 y7))
  | 0 => ⟨fun _ _ _ r h => by simp [ambryref10_List.l0] at h, fun _ _ _ _ _ _ _ r h => by simp [ambryref10_List.l1] at h, fun _ _ _ _ _ _ _ _ r h => by simp [ambryref10_List.j2] at h, fun _ _ _ _ _ _ _ _ r h => by simp [ambryref10_List.j3] at h⟩
  | k + 1 => by
    obtain ⟨ih0, ih1, ih2, ih3⟩ := ambryref10_List.mono_l k
    refine ⟨?_, ?_, ?_, ?_⟩
    · intro y0 y1 y2
      unfold ambryref10_List.l0
      repeat' first
      | (with_reducible exact ih0 _ _ _)
      | (with_reducible exact ih1 _ _ _ _ _ _ _)
      | (with_reducible exact ih2 _ _ _ _ _ _ _ _)
      | (with_reducible exact ih3 _ _ _ _ _ _ _ _)
      | (with_reducible exact ambryref10_All.mono _ _ _)
      | (with_reducible exact ambryref10_Trim.mono _ _)
      | (with_reducible exact LeO.refl _)
      | (with_reducible exact LeO.none _)
      | (with_reducible refine LeO.ite ?_ ?_)
      | (with_reducible refine LeO.bind ?_ (fun _ => ?_))
      | exact ih0 _ _ _
      | exact ih1 _ _ _ _ _ _ _
      | exact ih2 _ _ _ _ _ _ _ _
      | exact ih3 _ _ _ _ _ _ _ _
      | exact ambryref10_All.mono _ _ _
      | exact ambryref10_Trim.mono _ _
      | exact LeO.none _
      | refine LeO.ite ?_ ?_
      | refine LeO.bind ?_ (fun _ => ?_)
    · intro y0 y1 y2 y3 y4 y5 y6
      unfold ambryref10_List.l1
      repeat' first
      | (with_reducible exact ih0 _ _ _)
      | (with_reducible exact ih1 _ _ _ _ _ _ _)
      | (with_reducible exact ih2 _ _ _ _ _ _ _ _)
      | (with_reducible exact ih3 _ _ _ _ _ _ _ _)
      | (with_reducible exact ambryref10_All.mono _ _ _)
      | (with_reducible exact ambryref10_Trim.mono _ _)
      | (with_reducible exact LeO.refl _)
      | (with_reducible exact LeO.none _)
      | (with_reducible refine LeO.ite ?_ ?_)
      | (with_reducible refine LeO.bind ?_ (fun _ => ?_))
      | exact ih0 _ _ _
      | exact ih1 _ _ _ _ _ _ _
      | exact ih2 _ _ _ _ _ _ _ _
      | exact ih3 _ _ _ _ _ _ _ _
      | exact ambryref10_All.mono _ _ _
      | exact ambryref10_Trim.mono _ _
      | exact LeO.none _
      | refine LeO.ite ?_ ?_
      | refine LeO.bind ?_ (fun _ => ?_)
    · intro y0 y1 y2 y3 y4 y5 y6 y7
      unfold ambryref10_List.j2
      repeat' first
      | (with_reducible exact ih0 _ _ _)
      | (with_reducible exact ih1 _ _ _ _ _ _ _)
      | (with_reducible exact ih2 _ _ _ _ _ _ _ _)
      | (with_reducible exact ih3 _ _ _ _ _ _ _ _)
      | (with_reducible exact ambryref10_All.mono _ _ _)
      | (with_reducible exact ambryref10_Trim.mono _ _)
      | (with_reducible exact LeO.refl _)
      | (with_reducible exact LeO.none _)
      | (with_reducible refine LeO.ite ?_ ?_)
      | (with_reducible refine LeO.bind ?_ (fun _ => ?_))
      | exact ih0 _ _ _
      | exact ih1 _ _ _ _ _ _ _
      | exact ih2 _ _ _ _ _ _ _ _
      | exact ih3 _ _ _ _ _ _ _ _
      | exact ambryref10_All.mono _ _ _
      | exact ambryref10_Trim.mono _ _
      | exact LeO.none _
      | refine LeO.ite ?_ ?_
      | refine LeO.bind ?_ (fun _ => ?_)
    · intro y0 y1 y2 y3 y4 y5 y6 y7
      unfold ambryref10_List.j3
      repeat' first
      | (with_reducible exact ih0 _ _ _)
      | (with_reducible exact ih1 _ _ _ _ _ _ _)
      | (with_reducible exact ih2 _ _ _ _ _ _ _ _)
      | (with_reducible exact ih3 _ _ _ _ _ _ _ _)
      | (with_reducible exact ambryref10_All.mono _ _ _)
      | (with_reducible exact ambryref10_Trim.mono _ _)
      | (with_reducible exact LeO.refl _)
      | (with_reducible exact LeO.none _)
      | (with_reducible refine LeO.ite ?_ ?_)
      | (with_reducible refine LeO.bind ?_ (fun _ => ?_))
      | exact ih0 _ _ _
      | exact ih1 _ _ _ _ _ _ _
      | exact ih2 _ _ _ _ _ _ _ _
      | exact ih3 _ _ _ _ _ _ _ _
      | exact ambryref10_All.mono _ _ _
      | exact ambryref10_Trim.mono _ _
      | exact LeO.none _
      | refine LeO.ite ?_ ?_
      | refine LeO.bind ?_ (fun _ => ?_)
theorem ambryref10_List.mono : ∀ a0 a1 k, LeO (ambryref10_List.f k a0 a1) (ambryref10_List.f (k + 1) a0 a1) := by
  intro a0 a1 k
  obtain ⟨ih0, ih1, ih2, ih3⟩ := ambryref10_List.mono_l k
  unfold ambryref10_List.f
  repeat' first
      | (with_reducible exact ih0 _ _ _)
      | (with_reducible exact ih1 _ _ _ _ _ _ _)
      | (with_reducible exact ih2 _ _ _ _ _ _ _ _)
      | (with_reducible exact ih3 _ _ _ _ _ _ _ _)
      | (with_reducible exact ambryref10_All.mono _ _ _)
      | (with_reducible exact ambryref10_Trim.mono _ _)
      | (with_reducible exact LeO.refl _)
      | (with_reducible exact LeO.none _)
      | (with_reducible refine LeO.ite ?_ ?_)
      | (with_reducible refine LeO.bind ?_ (fun _ => ?_))
      | exact ih0 _ _ _
      | exact ih1 _ _ _ _ _ _ _
      | exact ih2 _ _ _ _ _ _ _ _
      | exact ih3 _ _ _ _ _ _ _ _
      | exact ambryref10_All.mono _ _ _
      | exact ambryref10_Trim.mono _ _
      | exact LeO.none _
      | refine LeO.ite ?_ ?_
      | refine LeO.bind ?_ (fun _ => ?_)
set_option maxHeartbeats 8000000 in
set_option maxRecDepth 100000 in
theorem ambryref10_List.calls (k : Nat) (A0 : Option Addr) (c0 : Nat) (l0 : List (S38)) (a1 : ByteArray) (r : List ByteArray) (w : World) (hr0 : Kd.C k38 w A0 l0.length l0) (hc0 : l0.length ≤ c0) (h : ambryref10_List.f k l0 a1 = some r) :
    Calls Try.prog 26 #[.slice A0 l0.length c0, .string a1] w fun e w' => ∃ v0_ : Value, e = .returned (v0_) ∧ Kd.R Kd.string 9 w' w.heap.size (fun _ => True) v0_ r ∧ Below w.heap.size w w' := by
  have HR0 := Aside0.mk hr0
  have HC0 := Aside0.mk hc0
  clear hr0 hc0
  have HB := Aside0.mk (Below.refl w.heap.size w)
  have H : ((ambryref10_All.f k l0 a1).bind fun t150 => (ambryref10_List.l0 k ([] : List ByteArray) t150 0)) = some r := h
  clear h
  replace H := Option.bind_eq_some_iff.mp H
  obtain ⟨t150, A30, H⟩ := H
  replace H : (ambryref10_List.l0 k ([] : List ByteArray) t150 0) = some r := H
  have A3 := Aside0.mk A30
  clear A30
  have H' := Aside0.mk H
  clear H
  go_enter Try.func26, Try.ntmps26
  go_wp2_with (first | ((with_reducible refine gate_callee (f := 31) rfl ?_); refine goesL_ (some 15) rfl rfl Try.func31 (by kernel_rfl) rfl #[.slice A0 l0.length c0, .string a1] rfl (by (try simp only [List.map_toArray, List.map_cons, List.map_nil]); first | done | rfl | (simp only [List.length_drop, List.length_take]; rfl)) ?_; (with_reducible refine (ambryref10_All.calls k _ _ l0 a1 t150 _ ?side1 ?side2 A3.out).mono ?_); (case side1 => repeat (first | exact HR0.out | (with_reducible refine Kd.C_alloc ?_ _) | (with_reducible refine Kd.C_drewN ?_ _) | (with_reducible refine Kd.C_drew ?_))); (case side2 => exact HC0.out); rintro e w4 ⟨v151, rfl, ho0, hb⟩; refine ⟨_, rfl, ?_⟩; have n0_ := Aside0.mk (Kd.R_lower ho0 (below_size (by repeat (first | (with_reducible first | exact HB.out | apply below_alloc | apply pw_below_drewN | apply below_drew1) | exact HB.out)))); have n1_ := Aside0.mk (below_step (by repeat (first | (with_reducible first | exact HB.out | apply below_alloc | apply pw_below_drewN | apply below_drew1) | exact HB.out)) hb); clear HB; have HO152 := n0_; have HB := n1_; clear n0_ n1_; (try clear hb); (try clear hb2); (try clear hk); (try clear hi); (try clear ho0)))
  go_loopg [5, 7] k (fun kq v5 v7 w' => ∃ (x5_1 : List ByteArray) (x7_1 : Int), v7 = .int .i64 x7_1 ∧ Aside0 (ambryref10_List.l0 kq x5_1 t150 x7_1 = some r) ∧ Aside0 (kq ≤ k) ∧ Aside0 (Kd.R Kd.string 9 w' w.heap.size (fun k_ => some k_ ≠ (v151 : Value).ownBlock) v5 x5_1) ∧ Aside0 (Kd.R Kd.string 9 w' w.heap.size (fun k_ => some k_ ≠ (v5 : Value).ownBlock) v151 t150) ∧ Aside0 (Below w.heap.size w w'))
  case atStart => exact ⟨(([] : List ByteArray)), (0), (by first | rfl | (simp; done) | (simp [*]; done)), H', ⟨Nat.le_refl _⟩, ⟨by first | exact Kd.R_nil _ _ _ _ _ | exact Kd.N_nil _ _ _ _ _ | exact Kd.V_nil _ _ _ _ _ | exact Kd.Q_nil _ _ _ _ _ | exact Kd.S_nil _ _ _ _ _⟩, ⟨by (with_reducible repeat (first | apply Kd.R_alloc | apply Kd.R_drewN | apply Kd.R_drew)); exact Kd.R_mono HO152.out (fun _ hk => (by simp [Value.ownBlock]))⟩, ⟨by repeat (first | (with_reducible first | exact HB.out | apply below_alloc | apply pw_below_drewN | apply below_drew1) | exact HB.out)⟩⟩
  case round =>
    clear H'
    try clear c2
    try clear p2
    try clear c3
    obtain ⟨x5_1, x7_1, rfl, HA, HK1, HO_5, HO_6, HB⟩ := hrel
    cases gk with
    | zero => exact absurd HA.out (by simp [ambryref10_List.l0])
    | succ k1 =>
      have H := HA.out
      clear HA
      simp only [ambryref10_List.l0] at H
      by_cases c5 : x7_1 < (t150.length : Int)
      · rw [if_pos c5] at H
        have c5b0 : decide (x7_1 < (t150.length : Int)) = true := decide_eq_true c5
        clear c5
        by_cases c6 : 0 ≤ x7_1
        · rw [if_pos c6] at H
          have c6b0 : decide (0 ≤ x7_1) = true := decide_eq_true c6
          clear c6
          have H' := Aside0.mk H
          clear H
          obtain ⟨Ao7, co7, eo7⟩ := Kd.R_slice HO_6.out
          subst eo7
          have p153 : 0 ≤ (x7_1 : Int) := of_decide_eq_true (by first | (with_reducible assumption) | assumption)
          have q153 : x7_1 < (t150.length : Int) := of_decide_eq_true (by first | (with_reducible assumption) | assumption)
          obtain ⟨ad153, e153, hx153_0⟩ := Kd.at_string (Kd.R_reads' HO_6.out).2.2 x7_1 p153 q153
          cases e153
          replace p153 := eq_true p153
          replace q153 := eq_true q153
          go_wp2
          go_loopg [5, 9, 10, 11] k1 (fun kq v5 v9 v10 v11 w' => ∃ (x5_2 : List ByteArray) (x9_2 : Int) (x10_2 : Bool) (x11_2 : Int), v9 = .int .i64 x9_2 ∧ v10 = .bool x10_2 ∧ v11 = .int .i64 x11_2 ∧ Aside0 (ambryref10_List.l1 kq x5_2 t150 x7_1 (rdOf ByteArray.empty t150 x7_1) x9_2 x10_2 x11_2 = some r) ∧ Aside0 (kq ≤ k1) ∧ Aside0 (Kd.R Kd.string 9 w' w.heap.size (fun k_ => some k_ ≠ ((.slice (some ad153) t150.length co7) : Value).ownBlock) v5 x5_2) ∧ Aside0 (Kd.R Kd.string 9 w' w.heap.size (fun k_ => some k_ ≠ (v5 : Value).ownBlock) (.slice (some ad153) t150.length co7) t150) ∧ Aside0 (Below w.heap.size w w'))
          case atStart => exact ⟨(x5_1), (0), (false), (0), (by first | rfl | (simp; done) | (simp [*]; done)), (by first | rfl | (simp; done) | (simp [*]; done)), (by first | rfl | (simp; done) | (simp [*]; done)), H', ⟨Nat.le_refl _⟩, ⟨by (with_reducible repeat (first | apply Kd.R_alloc | apply Kd.R_drewN | apply Kd.R_drew)); exact HO_5.out⟩, ⟨by (with_reducible repeat (first | apply Kd.R_alloc | apply Kd.R_drewN | apply Kd.R_drew)); exact HO_6.out⟩, ⟨by repeat (first | (with_reducible first | exact HB.out | apply below_alloc | apply pw_below_drewN | apply below_drew1) | exact HB.out)⟩⟩
          case round =>
            clear H'
            try clear p1
            try clear q1
            try clear hx1
            try clear c2
            try clear p2
            try clear c3
            try clear c5
            try clear c5b0
            try clear c6
            try clear c6b0
            try clear hx153_0
            try clear p153
            try clear p2
            try clear q153
            obtain ⟨x5_2, x9_2, x10_2, x11_2, rfl, rfl, rfl, HA, HK2, HO_5, HO_6, HB⟩ := hrel
            cases gk with
            | zero => exact absurd HA.out (by simp [ambryref10_List.l1])
            | succ k2 =>
              have H := HA.out
              clear HA
              simp only [ambryref10_List.l1] at H
              by_cases c8 : x11_2 ≤ ((rdOf ByteArray.empty t150 x7_1).size : Int)
              · rw [if_pos c8] at H
                have c8b0 : decide (x11_2 ≤ ((rdOf ByteArray.empty t150 x7_1).size : Int)) = true := decide_eq_true c8
                clear c8
                have HC9 := Aside0.mk H
                clear H
                go_upto_region 11 with (fail)
                go_cut [44] (fun v44 wc => ∃ (kq : Nat) (x44_8 : Bool), v44 = .bool x44_8 ∧ Aside0 (ambryref10_List.j2 kq x5_2 t150 x7_1 (rdOf ByteArray.empty t150 x7_1) x9_2 x10_2 x11_2 x44_8 = some r) ∧ Aside0 (kq ≤ k2) ∧ Aside0 (Kd.R Kd.string 9 wc w.heap.size (fun k_ => some k_ ≠ ((.slice (some ad153) t150.length co7) : Value).ownBlock) u5 x5_2) ∧ Aside0 (Kd.R Kd.string 9 wc w.heap.size (fun k_ => some k_ ≠ (u5 : Value).ownBlock) (.slice (some ad153) t150.length co7) t150) ∧ Aside0 (Below w.heap.size w wc))
                case first =>
                  have H := HC9.out
                  clear HC9
                  by_cases c10 : x11_2 < ((rdOf ByteArray.empty t150 x7_1).size : Int)
                  · rw [if_pos c10] at H
                    have c10b0 : decide (x11_2 < ((rdOf ByteArray.empty t150 x7_1).size : Int)) = true := decide_eq_true c10
                    clear c10
                    (first | rw [c10b0] | (simp only [i64_w, i32_w]; rw [c10b0]) | skip)
                    by_cases c11 : 0 ≤ x11_2
                    · rw [if_pos c11] at H
                      have c11b0 : decide (0 ≤ x11_2) = true := decide_eq_true c11
                      clear c11
                      by_cases c13 : (bt (rdOf ByteArray.empty t150 x7_1) x11_2) = 44
                      · rw [if_pos c13] at H
                        have c13b0 : ((bt (rdOf ByteArray.empty t150 x7_1) x11_2) == 44) = true := beq_iff_eq.mpr c13
                        have c13b1 : ((bt (rdOf ByteArray.empty t150 x7_1) x11_2) != 44) = false := bne_eq_false_iff_eq.mpr c13
                        clear c13
                        have H' := Aside0.mk H
                        clear H
                        have p12 : 0 ≤ (x11_2 : Int) := of_decide_eq_true (by first | (with_reducible assumption) | assumption)
                        have q12 : x11_2 < ((rdOf ByteArray.empty t150 x7_1).size : Int) := of_decide_eq_true (by first | (with_reducible assumption) | assumption)
                        have hx12 := bt_at (rdOf ByteArray.empty t150 x7_1) x11_2
                        replace p12 := eq_true p12
                        replace q12 := eq_true q12
                        go_wp2
                        go_meet
                        case rel => exact ⟨_, (x10_2), (by first | rfl | (simp; done) | (simp [*]; done)), H', ⟨by have := HK1.out; have := HK2.out; first | omega | exact Nat.le_refl _⟩, ⟨by (with_reducible repeat (first | apply Kd.R_alloc | apply Kd.R_drewN | apply Kd.R_drew)); exact HO_5.out⟩, ⟨by (with_reducible repeat (first | apply Kd.R_alloc | apply Kd.R_drewN | apply Kd.R_drew)); exact HO_6.out⟩, ⟨by repeat (first | (with_reducible first | exact HB.out | apply below_alloc | apply pw_below_drewN | apply below_drew1) | exact HB.out)⟩⟩
                      · rw [if_neg c13] at H
                        have c13b0 : ((bt (rdOf ByteArray.empty t150 x7_1) x11_2) == 44) = false := beq_eq_false_iff_ne.mpr c13
                        have c13b1 : ((bt (rdOf ByteArray.empty t150 x7_1) x11_2) != 44) = true := bne_iff_ne.mpr c13
                        have H' := Aside0.mk H
                        clear H
                        have p12 : 0 ≤ (x11_2 : Int) := of_decide_eq_true (by first | (with_reducible assumption) | assumption)
                        have q12 : x11_2 < ((rdOf ByteArray.empty t150 x7_1).size : Int) := of_decide_eq_true (by first | (with_reducible assumption) | assumption)
                        have hx12 := bt_at (rdOf ByteArray.empty t150 x7_1) x11_2
                        replace p12 := eq_true p12
                        replace q12 := eq_true q12
                        go_wp2
                        go_meet
                        case rel => exact ⟨_, (true), (by first | rfl | (simp; done) | (simp [*]; done)), H', ⟨by have := HK1.out; have := HK2.out; first | omega | exact Nat.le_refl _⟩, ⟨by (with_reducible repeat (first | apply Kd.R_alloc | apply Kd.R_drewN | apply Kd.R_drew)); exact HO_5.out⟩, ⟨by (with_reducible repeat (first | apply Kd.R_alloc | apply Kd.R_drewN | apply Kd.R_drew)); exact HO_6.out⟩, ⟨by repeat (first | (with_reducible first | exact HB.out | apply below_alloc | apply pw_below_drewN | apply below_drew1) | exact HB.out)⟩⟩
                    · rw [if_neg c11] at H
                      exact absurd H (by simp)
                  · rw [if_neg c10] at H
                    have c10b0 : decide (x11_2 < ((rdOf ByteArray.empty t150 x7_1).size : Int)) = false := decide_eq_false c10
                    clear c10
                    (first | rw [c10b0] | (simp only [i64_w, i32_w]; rw [c10b0]) | skip)
                    have H' := Aside0.mk H
                    clear H
                    go_wp2
                    go_meet
                    case rel => exact ⟨_, (false), (by first | rfl | (simp; done) | (simp [*]; done)), H', ⟨by have := HK1.out; have := HK2.out; first | omega | exact Nat.le_refl _⟩, ⟨by (with_reducible repeat (first | apply Kd.R_alloc | apply Kd.R_drewN | apply Kd.R_drew)); exact HO_5.out⟩, ⟨by (with_reducible repeat (first | apply Kd.R_alloc | apply Kd.R_drewN | apply Kd.R_drew)); exact HO_6.out⟩, ⟨by repeat (first | (with_reducible first | exact HB.out | apply below_alloc | apply pw_below_drewN | apply below_drew1) | exact HB.out)⟩⟩
                case rest =>
                  clear HC9
                  try clear c1
                  try clear p1
                  try clear q1
                  try clear hx1
                  try clear c2
                  try clear p2
                  try clear c3
                  try clear c5
                  try clear c5b0
                  try clear c6
                  try clear c6b0
                  try clear c8
                  try clear c8b0
                  try clear c10
                  try clear c10b0
                  try clear c11
                  try clear c11b0
                  try clear p12
                  try clear q12
                  try clear hx12
                  try clear c13
                  try clear c13b0
                  try clear c13b1
                  try clear hx153_0
                  try clear p1
                  try clear p12
                  try clear p153
                  try clear p2
                  try clear q1
                  try clear q12
                  try clear q153
                  obtain ⟨kq, x44_8, rfl, HA, HJ8, HO_5, HO_6, HB⟩ := hcut
                  cases kq with
                  | zero => exact absurd HA.out (by simp [ambryref10_List.j2])
                  | succ kj8 =>
                    have H := HA.out
                    clear HA
                    simp only [ambryref10_List.j2] at H
                    by_cases c14 : x44_8 = true
                    · subst c14
                      have H1 : (if 0 ≤ x11_2 then (if x11_2 < ((rdOf ByteArray.empty t150 x7_1).size : Int) then (if (bt (rdOf ByteArray.empty t150 x7_1) x11_2) = 34 then (ambryref10_List.l1 kj8 x5_2 t150 x7_1 (rdOf ByteArray.empty t150 x7_1) x9_2 (!x10_2) (wrap64 (x11_2 + 1))) else (if (bt (rdOf ByteArray.empty t150 x7_1) x11_2) = 92 then (if x10_2 = true then (ambryref10_List.j3 kj8 x5_2 t150 x7_1 (rdOf ByteArray.empty t150 x7_1) x9_2 x10_2 x11_2 (decide ((wrap64 (x11_2 + 1)) < ((rdOf ByteArray.empty t150 x7_1).size : Int)))) else (ambryref10_List.j3 kj8 x5_2 t150 x7_1 (rdOf ByteArray.empty t150 x7_1) x9_2 x10_2 x11_2 false)) else (ambryref10_List.j3 kj8 x5_2 t150 x7_1 (rdOf ByteArray.empty t150 x7_1) x9_2 x10_2 x11_2 false))) else (none)) else (none)) = some r := by rw [if_pos rfl] at H; exact H
                      clear H
                      have H := H1
                      clear H1
                      by_cases c15 : 0 ≤ x11_2
                      · rw [if_pos c15] at H
                        have c15b0 : decide (0 ≤ x11_2) = true := decide_eq_true c15
                        clear c15
                        by_cases c16 : x11_2 < ((rdOf ByteArray.empty t150 x7_1).size : Int)
                        · rw [if_pos c16] at H
                          have c16b0 : decide (x11_2 < ((rdOf ByteArray.empty t150 x7_1).size : Int)) = true := decide_eq_true c16
                          clear c16
                          by_cases c18 : (bt (rdOf ByteArray.empty t150 x7_1) x11_2) = 34
                          · rw [if_pos c18] at H
                            have c18b0 : ((bt (rdOf ByteArray.empty t150 x7_1) x11_2) == 34) = true := beq_iff_eq.mpr c18
                            have c18b1 : ((bt (rdOf ByteArray.empty t150 x7_1) x11_2) != 34) = false := bne_eq_false_iff_eq.mpr c18
                            clear c18
                            have H' := Aside0.mk H
                            clear H
                            have p17 : 0 ≤ (x11_2 : Int) := of_decide_eq_true (by first | (with_reducible assumption) | assumption)
                            have q17 : x11_2 < ((rdOf ByteArray.empty t150 x7_1).size : Int) := of_decide_eq_true (by first | (with_reducible assumption) | assumption)
                            have hx17 := bt_at (rdOf ByteArray.empty t150 x7_1) x11_2
                            replace p17 := eq_true p17
                            replace q17 := eq_true q17
                            go_wp2
                            go_roundg kj8
                            case measure => have := HK1.out; have := HK2.out; have := HJ8.out; omega
                            case rel => exact ⟨(x5_2), (x9_2), (!x10_2), (wrap64 (x11_2 + 1)), (by first | rfl | (simp; done) | (simp [*]; done)), (by first | rfl | (simp; done) | (simp [*]; done)), (by first | rfl | (simp; done) | (simp [*]; done)), H', ⟨by have := HK1.out; have := HK2.out; have := HJ8.out; omega⟩, ⟨by (with_reducible repeat (first | apply Kd.R_alloc | apply Kd.R_drewN | apply Kd.R_drew)); exact HO_5.out⟩, ⟨by (with_reducible repeat (first | apply Kd.R_alloc | apply Kd.R_drewN | apply Kd.R_drew)); exact HO_6.out⟩, ⟨by repeat (first | (with_reducible first | exact HB.out | apply below_alloc | apply pw_below_drewN | apply below_drew1) | exact HB.out)⟩⟩
                          · rw [if_neg c18] at H
                            have c18b0 : ((bt (rdOf ByteArray.empty t150 x7_1) x11_2) == 34) = false := beq_eq_false_iff_ne.mpr c18
                            have c18b1 : ((bt (rdOf ByteArray.empty t150 x7_1) x11_2) != 34) = true := bne_iff_ne.mpr c18
                            have HC19 := Aside0.mk H
                            clear H
                            have p17 : 0 ≤ (x11_2 : Int) := of_decide_eq_true (by first | (with_reducible assumption) | assumption)
                            have q17 : x11_2 < ((rdOf ByteArray.empty t150 x7_1).size : Int) := of_decide_eq_true (by first | (with_reducible assumption) | assumption)
                            have hx17 := bt_at (rdOf ByteArray.empty t150 x7_1) x11_2
                            replace p17 := eq_true p17
                            replace q17 := eq_true q17
                            go_upto_region 14 with (fail)
                            go_cut [52] (fun v52 wc => ∃ (kq : Nat) (x52_18 : Bool), v52 = .bool x52_18 ∧ Aside0 (ambryref10_List.j3 kq x5_2 t150 x7_1 (rdOf ByteArray.empty t150 x7_1) x9_2 x10_2 x11_2 x52_18 = some r) ∧ Aside0 (kq ≤ kj8) ∧ Aside0 (Kd.R Kd.string 9 wc w.heap.size (fun k_ => some k_ ≠ ((.slice (some ad153) t150.length co7) : Value).ownBlock) u5 x5_2) ∧ Aside0 (Kd.R Kd.string 9 wc w.heap.size (fun k_ => some k_ ≠ (u5 : Value).ownBlock) (.slice (some ad153) t150.length co7) t150) ∧ Aside0 (Below w.heap.size w wc))
                            case first =>
                              have H := HC19.out
                              clear HC19
                              by_cases c21 : (bt (rdOf ByteArray.empty t150 x7_1) x11_2) = 92
                              · rw [if_pos c21] at H
                                have c21b0 : ((bt (rdOf ByteArray.empty t150 x7_1) x11_2) == 92) = true := beq_iff_eq.mpr c21
                                have c21b1 : ((bt (rdOf ByteArray.empty t150 x7_1) x11_2) != 92) = false := bne_eq_false_iff_eq.mpr c21
                                clear c21
                                (first | rw [c21b0] | (simp only [i64_w, i32_w]; rw [c21b0]) | skip)
                                by_cases c22 : x10_2 = true
                                · subst c22
                                  have H1 : (ambryref10_List.j3 kj8 x5_2 t150 x7_1 (rdOf ByteArray.empty t150 x7_1) x9_2 true x11_2 (decide ((wrap64 (x11_2 + 1)) < ((rdOf ByteArray.empty t150 x7_1).size : Int)))) = some r := by rw [if_pos rfl] at H; exact H
                                  clear H
                                  have H := H1
                                  clear H1
                                  have H' := Aside0.mk H
                                  clear H
                                  have p20 : 0 ≤ (x11_2 : Int) := of_decide_eq_true (by first | (with_reducible assumption) | assumption)
                                  have q20 : x11_2 < ((rdOf ByteArray.empty t150 x7_1).size : Int) := of_decide_eq_true (by first | (with_reducible assumption) | assumption)
                                  have hx20 := bt_at (rdOf ByteArray.empty t150 x7_1) x11_2
                                  replace p20 := eq_true p20
                                  replace q20 := eq_true q20
                                  go_wp2
                                  go_meet
                                  case rel => exact ⟨_, (decide ((wrap64 (x11_2 + 1)) < ((rdOf ByteArray.empty t150 x7_1).size : Int))), (by first | rfl | (simp; done) | (simp [*]; done)), H', ⟨by have := HK1.out; have := HK2.out; have := HJ8.out; first | omega | exact Nat.le_refl _⟩, ⟨by (with_reducible repeat (first | apply Kd.R_alloc | apply Kd.R_drewN | apply Kd.R_drew)); exact HO_5.out⟩, ⟨by (with_reducible repeat (first | apply Kd.R_alloc | apply Kd.R_drewN | apply Kd.R_drew)); exact HO_6.out⟩, ⟨by repeat (first | (with_reducible first | exact HB.out | apply below_alloc | apply pw_below_drewN | apply below_drew1) | exact HB.out)⟩⟩
                                · replace c22 := Bool.eq_false_iff.mpr c22
                                  subst c22
                                  have H1 : (ambryref10_List.j3 kj8 x5_2 t150 x7_1 (rdOf ByteArray.empty t150 x7_1) x9_2 false x11_2 false) = some r := by rw [if_neg (show ¬ (false = true) by decide)] at H; exact H
                                  clear H
                                  have H := H1
                                  clear H1
                                  have H' := Aside0.mk H
                                  clear H
                                  have p20 : 0 ≤ (x11_2 : Int) := of_decide_eq_true (by first | (with_reducible assumption) | assumption)
                                  have q20 : x11_2 < ((rdOf ByteArray.empty t150 x7_1).size : Int) := of_decide_eq_true (by first | (with_reducible assumption) | assumption)
                                  have hx20 := bt_at (rdOf ByteArray.empty t150 x7_1) x11_2
                                  replace p20 := eq_true p20
                                  replace q20 := eq_true q20
                                  go_wp2
                                  go_meet
                                  case rel => exact ⟨_, (false), (by first | rfl | (simp; done) | (simp [*]; done)), H', ⟨by have := HK1.out; have := HK2.out; have := HJ8.out; first | omega | exact Nat.le_refl _⟩, ⟨by (with_reducible repeat (first | apply Kd.R_alloc | apply Kd.R_drewN | apply Kd.R_drew)); exact HO_5.out⟩, ⟨by (with_reducible repeat (first | apply Kd.R_alloc | apply Kd.R_drewN | apply Kd.R_drew)); exact HO_6.out⟩, ⟨by repeat (first | (with_reducible first | exact HB.out | apply below_alloc | apply pw_below_drewN | apply below_drew1) | exact HB.out)⟩⟩
                              · rw [if_neg c21] at H
                                have c21b0 : ((bt (rdOf ByteArray.empty t150 x7_1) x11_2) == 92) = false := beq_eq_false_iff_ne.mpr c21
                                have c21b1 : ((bt (rdOf ByteArray.empty t150 x7_1) x11_2) != 92) = true := bne_iff_ne.mpr c21
                                (first | rw [c21b0] | (simp only [i64_w, i32_w]; rw [c21b0]) | skip)
                                have H' := Aside0.mk H
                                clear H
                                have p20 : 0 ≤ (x11_2 : Int) := of_decide_eq_true (by first | (with_reducible assumption) | assumption)
                                have q20 : x11_2 < ((rdOf ByteArray.empty t150 x7_1).size : Int) := of_decide_eq_true (by first | (with_reducible assumption) | assumption)
                                have hx20 := bt_at (rdOf ByteArray.empty t150 x7_1) x11_2
                                replace p20 := eq_true p20
                                replace q20 := eq_true q20
                                go_wp2
                                go_meet
                                case rel => exact ⟨_, (false), (by first | rfl | (simp; done) | (simp [*]; done)), H', ⟨by have := HK1.out; have := HK2.out; have := HJ8.out; first | omega | exact Nat.le_refl _⟩, ⟨by (with_reducible repeat (first | apply Kd.R_alloc | apply Kd.R_drewN | apply Kd.R_drew)); exact HO_5.out⟩, ⟨by (with_reducible repeat (first | apply Kd.R_alloc | apply Kd.R_drewN | apply Kd.R_drew)); exact HO_6.out⟩, ⟨by repeat (first | (with_reducible first | exact HB.out | apply below_alloc | apply pw_below_drewN | apply below_drew1) | exact HB.out)⟩⟩
                            case rest =>
                              clear HC19
                              try clear c1
                              try clear p1
                              try clear q1
                              try clear hx1
                              try clear c2
                              try clear p2
                              try clear q2
                              try clear hx2
                              try clear c3
                              try clear c5
                              try clear c5b0
                              try clear c6
                              try clear c6b0
                              try clear p6
                              try clear c8
                              try clear c8b0
                              try clear c10
                              try clear c10b0
                              try clear c11
                              try clear c11b0
                              try clear p12
                              try clear q12
                              try clear hx12
                              try clear c13
                              try clear c13b0
                              try clear c13b1
                              try clear c14
                              try clear c15
                              try clear c15b0
                              try clear p15
                              try clear q15
                              try clear hx15
                              try clear c16
                              try clear c16b0
                              try clear p17
                              try clear q17
                              try clear hx17
                              try clear c18
                              try clear c18b0
                              try clear c18b1
                              try clear p20
                              try clear q20
                              try clear hx20
                              try clear c21
                              try clear c21b0
                              try clear c21b1
                              try clear c22
                              try clear hx153_0
                              try clear p1
                              try clear p12
                              try clear p153
                              try clear p17
                              try clear p2
                              try clear p20
                              try clear q1
                              try clear q12
                              try clear q153
                              try clear q17
                              try clear q20
                              obtain ⟨kq, x52_18, rfl, HA, HJ18, HO_5, HO_6, HB⟩ := hcut
                              cases kq with
                              | zero => exact absurd HA.out (by simp [ambryref10_List.j3])
                              | succ kj18 =>
                                have H := HA.out
                                clear HA
                                simp only [ambryref10_List.j3] at H
                                by_cases c23 : x52_18 = true
                                · subst c23
                                  have H1 : (ambryref10_List.l1 kj18 x5_2 t150 x7_1 (rdOf ByteArray.empty t150 x7_1) x9_2 x10_2 (wrap64 ((wrap64 (x11_2 + 1)) + 1))) = some r := by rw [if_pos rfl] at H; exact H
                                  clear H
                                  have H := H1
                                  clear H1
                                  have H' := Aside0.mk H
                                  clear H
                                  go_wp2
                                  go_roundg kj18
                                  case measure => have := HK1.out; have := HK2.out; have := HJ8.out; have := HJ18.out; omega
                                  case rel => exact ⟨(x5_2), (x9_2), (x10_2), (wrap64 ((wrap64 (x11_2 + 1)) + 1)), (by first | rfl | (simp; done) | (simp [*]; done)), (by first | rfl | (simp; done) | (simp [*]; done)), (by first | rfl | (simp; done) | (simp [*]; done)), H', ⟨by have := HK1.out; have := HK2.out; have := HJ8.out; have := HJ18.out; omega⟩, ⟨by (with_reducible repeat (first | apply Kd.R_alloc | apply Kd.R_drewN | apply Kd.R_drew)); exact HO_5.out⟩, ⟨by (with_reducible repeat (first | apply Kd.R_alloc | apply Kd.R_drewN | apply Kd.R_drew)); exact HO_6.out⟩, ⟨by repeat (first | (with_reducible first | exact HB.out | apply below_alloc | apply pw_below_drewN | apply below_drew1) | exact HB.out)⟩⟩
                                · replace c23 := Bool.eq_false_iff.mpr c23
                                  subst c23
                                  have H1 : (ambryref10_List.l1 kj18 x5_2 t150 x7_1 (rdOf ByteArray.empty t150 x7_1) x9_2 x10_2 (wrap64 (x11_2 + 1))) = some r := by rw [if_neg (show ¬ (false = true) by decide)] at H; exact H
                                  clear H
                                  have H := H1
                                  clear H1
                                  have H' := Aside0.mk H
                                  clear H
                                  go_wp2
                                  go_roundg kj18
                                  case measure => have := HK1.out; have := HK2.out; have := HJ8.out; have := HJ18.out; omega
                                  case rel => exact ⟨(x5_2), (x9_2), (x10_2), (wrap64 (x11_2 + 1)), (by first | rfl | (simp; done) | (simp [*]; done)), (by first | rfl | (simp; done) | (simp [*]; done)), (by first | rfl | (simp; done) | (simp [*]; done)), H', ⟨by have := HK1.out; have := HK2.out; have := HJ8.out; have := HJ18.out; omega⟩, ⟨by (with_reducible repeat (first | apply Kd.R_alloc | apply Kd.R_drewN | apply Kd.R_drew)); exact HO_5.out⟩, ⟨by (with_reducible repeat (first | apply Kd.R_alloc | apply Kd.R_drewN | apply Kd.R_drew)); exact HO_6.out⟩, ⟨by repeat (first | (with_reducible first | exact HB.out | apply below_alloc | apply pw_below_drewN | apply below_drew1) | exact HB.out)⟩⟩
                        · rw [if_neg c16] at H
                          exact absurd H (by simp)
                      · rw [if_neg c15] at H
                        exact absurd H (by simp)
                    · replace c14 := Bool.eq_false_iff.mpr c14
                      subst c14
                      have H1 : (if 0 ≤ x9_2 then (if x9_2 ≤ (mn x11_2 ((rdOf ByteArray.empty t150 x7_1).size : Int)) then (if (mn x11_2 ((rdOf ByteArray.empty t150 x7_1).size : Int)) ≤ ((rdOf ByteArray.empty t150 x7_1).size : Int) then ((ambryref10_Trim.f kj8 ((rdOf ByteArray.empty t150 x7_1).extract (x9_2 : Int).toNat ((mn x11_2 ((rdOf ByteArray.empty t150 x7_1).size : Int)) : Int).toNat)).bind fun t154 => (if t154.toList = ([] : List UInt8) then (ambryref10_List.l1 kj8 x5_2 t150 x7_1 (rdOf ByteArray.empty t150 x7_1) (wrap64 (x11_2 + 1)) x10_2 (wrap64 (x11_2 + 1))) else (if x5_2.length < 8796093022208 then (ambryref10_List.l1 kj8 (x5_2 ++ [t154]) t150 x7_1 (rdOf ByteArray.empty t150 x7_1) (wrap64 (x11_2 + 1)) x10_2 (wrap64 (x11_2 + 1))) else (none)))) else (none)) else (none)) else (none)) = some r := by rw [if_neg (show ¬ (false = true) by decide)] at H; exact H
                      clear H
                      have H := H1
                      clear H1
                      obtain ⟨ji24, hji24⟩ : ∃ j_ : Int, (mn x11_2 ((rdOf ByteArray.empty t150 x7_1).size : Int)) = j_ := ⟨_, rfl⟩
                      replace H : (if 0 ≤ x9_2 then (if x9_2 ≤ (ji24) then (if (ji24) ≤ ((rdOf ByteArray.empty t150 x7_1).size : Int) then ((ambryref10_Trim.f kj8 ((rdOf ByteArray.empty t150 x7_1).extract (x9_2 : Int).toNat ((ji24) : Int).toNat)).bind fun t154 => (if t154.toList = ([] : List UInt8) then (ambryref10_List.l1 kj8 x5_2 t150 x7_1 (rdOf ByteArray.empty t150 x7_1) (wrap64 (x11_2 + 1)) x10_2 (wrap64 (x11_2 + 1))) else (if x5_2.length < 8796093022208 then (ambryref10_List.l1 kj8 (x5_2 ++ [t154]) t150 x7_1 (rdOf ByteArray.empty t150 x7_1) (wrap64 (x11_2 + 1)) x10_2 (wrap64 (x11_2 + 1))) else (none)))) else (none)) else (none)) else (none)) = some r := by first | (rw [hji24] at H; exact H) | (simp only [hji24] at H ⊢; exact H)
                      have hji24_ : (if ((rdOf ByteArray.empty t150 x7_1).size : Int) < x11_2 then ((rdOf ByteArray.empty t150 x7_1).size : Int) else x11_2) = ji24 := hji24
                      by_cases c25 : 0 ≤ x9_2
                      · rw [if_pos c25] at H
                        have c25b0 := eq_true c25
                        have c25b1 : decide (0 ≤ x9_2) = true := decide_eq_true c25
                        clear c25
                        by_cases c26 : x9_2 ≤ (ji24)
                        · rw [if_pos c26] at H
                          have c26b0 := eq_true c26
                          have c26b1 : decide (x9_2 ≤ (ji24)) = true := decide_eq_true c26
                          clear c26
                          by_cases c27 : (ji24) ≤ ((rdOf ByteArray.empty t150 x7_1).size : Int)
                          · rw [if_pos c27] at H
                            have c27b0 := eq_true c27
                            have c27b1 : decide ((ji24) ≤ ((rdOf ByteArray.empty t150 x7_1).size : Int)) = true := decide_eq_true c27
                            clear c27
                            replace H := Option.bind_eq_some_iff.mp H
                            obtain ⟨t154, A280, H⟩ := H
                            replace H : (if t154.toList = ([] : List UInt8) then (ambryref10_List.l1 kj8 x5_2 t150 x7_1 (rdOf ByteArray.empty t150 x7_1) (wrap64 (x11_2 + 1)) x10_2 (wrap64 (x11_2 + 1))) else (if x5_2.length < 8796093022208 then (ambryref10_List.l1 kj8 (x5_2 ++ [t154]) t150 x7_1 (rdOf ByteArray.empty t150 x7_1) (wrap64 (x11_2 + 1)) x10_2 (wrap64 (x11_2 + 1))) else (none))) = some r := H
                            have A28 := Aside0.mk A280
                            clear A280
                            by_cases c29 : t154.toList = ([] : List UInt8)
                            · rw [if_pos c29] at H
                              have c29b0 : (t154.toList == ([] : List UInt8)) = true := beq_iff_eq.mpr c29
                              have c29b1 : (t154.toList != ([] : List UInt8)) = false := bne_eq_false_iff_eq.mpr c29
                              clear c29
                              have H' := Aside0.mk H
                              clear H
                              go_wp2_with (first | ((with_reducible refine gate_callee (f := 41) rfl ?_); refine goesL_ (some 76) rfl rfl Try.func41 (by kernel_rfl) rfl #[.string ((rdOf ByteArray.empty t150 x7_1).extract (x9_2 : Int).toNat ((ji24) : Int).toNat)] rfl (by (try simp only [List.map_toArray, List.map_cons, List.map_nil]); first | done | (simp only [hji24]; rfl) | rfl | (simp only [List.length_drop, List.length_take]; rfl)) ?_; (with_reducible refine (ambryref10_Trim.calls kj8 ((rdOf ByteArray.empty t150 x7_1).extract (x9_2 : Int).toNat ((ji24) : Int).toNat) t154 _ A28.out).mono ?_); rintro e w' ⟨rfl, ⟨nd, rfl⟩⟩; refine ⟨_, rfl, ?_⟩))
                              go_roundg kj8
                              case measure => have := HK1.out; have := HK2.out; have := HJ8.out; omega
                              case rel => exact ⟨(x5_2), (wrap64 (x11_2 + 1)), (x10_2), (wrap64 (x11_2 + 1)), (by first | rfl | (simp; done) | (simp [*]; done)), (by first | rfl | (simp; done) | (simp [*]; done)), (by first | rfl | (simp; done) | (simp [*]; done)), H', ⟨by have := HK1.out; have := HK2.out; have := HJ8.out; omega⟩, ⟨by (with_reducible repeat (first | apply Kd.R_alloc | apply Kd.R_drewN | apply Kd.R_drew)); exact HO_5.out⟩, ⟨by (with_reducible repeat (first | apply Kd.R_alloc | apply Kd.R_drewN | apply Kd.R_drew)); exact HO_6.out⟩, ⟨by repeat (first | (with_reducible first | exact HB.out | apply below_alloc | apply pw_below_drewN | apply below_drew1) | exact HB.out)⟩⟩
                            · rw [if_neg c29] at H
                              have c29b0 : (t154.toList == ([] : List UInt8)) = false := beq_eq_false_iff_ne.mpr c29
                              have c29b1 : (t154.toList != ([] : List UInt8)) = true := bne_iff_ne.mpr c29
                              by_cases c30 : x5_2.length < 8796093022208
                              · rw [if_pos c30] at H
                                have LMc30 := Aside0.mk c30
                                clear c30
                                obtain ⟨y155, hy155⟩ : ∃ y_ : List ByteArray, y_ = (x5_2 ++ [t154]) := ⟨_, rfl⟩
                                replace H : (ambryref10_List.l1 kj8 y155 t150 x7_1 (rdOf ByteArray.empty t150 x7_1) (wrap64 (x11_2 + 1)) x10_2 (wrap64 (x11_2 + 1))) = some r := by first | (rw [hy155]; with_reducible exact H) | (have H2_ := (Option.bind_some _ _).symm.trans H; rw [hy155]; with_reducible exact H2_) | (have H2_ := (Option.bind_some _ _).symm.trans H; with_reducible exact H2_) | with_reducible exact H | (rw [hy155]; exact H) | exact H
                                have Ny155 := Aside0.mk hy155
                                clear hy155
                                have H' := Aside0.mk H
                                clear H
                                go_wp2_with (first | ((with_reducible refine gate_callee (f := 41) rfl ?_); refine goesL_ (some 76) rfl rfl Try.func41 (by kernel_rfl) rfl #[.string ((rdOf ByteArray.empty t150 x7_1).extract (x9_2 : Int).toNat ((ji24) : Int).toNat)] rfl (by (try simp only [List.map_toArray, List.map_cons, List.map_nil]); first | done | (simp only [hji24]; rfl) | rfl | (simp only [List.length_drop, List.length_take]; rfl)) ?_; (with_reducible refine (ambryref10_Trim.calls kj8 ((rdOf ByteArray.empty t150 x7_1).extract (x9_2 : Int).toNat ((ji24) : Int).toNat) t154 _ A28.out).mono ?_); rintro e w' ⟨rfl, ⟨nd, rfl⟩⟩; refine ⟨_, rfl, ?_⟩) | ((with_reducible refine gate_builtin (b := .append) (xs := #[.tmp 79, .tmp 81]) rfl ?_); (try (refine gate_guard (by rfl) ?_; dsimp only)); at_builtin; refine Kd.R_append Kd.string (w0 := w) w.heap.size rfl (.tmp 79) (.tmp 81) 29 9 (.string ⟨#[]⟩) 16 rfl Try.underlying29 info9 rfl (by decide) (by omega) u5 x5_2 t154 [.string t154] (fun k_ => some k_ ≠ (.slice (some ad153) t150.length co7 : Value).ownBlock) (fun _ => False) rfl rfl ?aP (fun _ hk => hk.elim) ?aF ?aO ?aB ?aS ?aL ?_; (case aP => exact rfl); (case aB => exact (by repeat (first | (with_reducible first | exact HB.out | apply below_alloc | apply pw_below_drewN | apply below_drew1) | exact HB.out))); (case aF => exact (fun k_ hk => Kd.fresh' (Kd.R_lt (by (with_reducible repeat (first | apply Kd.R_alloc | apply Kd.R_drewN | apply Kd.R_drew)); exact HO_6.out)) k_ hk)); (case aO => exact (by (with_reducible repeat (first | apply Kd.R_alloc | apply Kd.R_drewN | apply Kd.R_drew)); exact HO_5.out)); (case aS => exact (below_size (by repeat (first | (with_reducible first | exact HB.out | apply below_alloc | apply pw_below_drewN | apply below_drew1) | exact HB.out)))); (case aL => have := LMc30.out; omega); intro v156 w31 ho hb hg hat; rw [← Ny155.out] at ho; have n0_ := Aside0.mk (Kd.R_after (ok := (fun _ => True)) (by (with_reducible repeat (first | apply Kd.R_alloc | apply Kd.R_drewN | apply Kd.R_drew)); exact Kd.R_mono HO_6.out (fun _ hk => ⟨trivial, hk⟩)) hg hat); have n1_ := Aside0.mk (hb); have n2_ := Aside0.mk (ho); clear HO_6; clear HB; clear HO_5; have HO_6 := n0_; have HB := n1_; have HO157 := n2_; clear n0_ n1_ n2_; clear ho hb hg hat))
                                go_roundg kj8
                                case measure => have := HK1.out; have := HK2.out; have := HJ8.out; omega
                                case rel => exact ⟨(y155), (wrap64 (x11_2 + 1)), (x10_2), (wrap64 (x11_2 + 1)), (by first | rfl | (simp; done) | (simp [*]; done)), (by first | rfl | (simp; done) | (simp [*]; done)), (by first | rfl | (simp; done) | (simp [*]; done)), H', ⟨by have := HK1.out; have := HK2.out; have := HJ8.out; omega⟩, ⟨by (with_reducible repeat (first | apply Kd.R_alloc | apply Kd.R_drewN | apply Kd.R_drew)); exact HO157.out⟩, ⟨by (with_reducible repeat (first | apply Kd.R_alloc | apply Kd.R_drewN | apply Kd.R_drew)); exact Kd.R_mono HO_6.out (fun _ hk => hk.2)⟩, ⟨by repeat (first | (with_reducible first | exact HB.out | apply below_alloc | apply pw_below_drewN | apply below_drew1) | exact HB.out)⟩⟩
                              · rw [if_neg c30] at H
                                exact absurd H (by simp)
                          · rw [if_neg c27] at H
                            exact absurd H (by simp)
                        · rw [if_neg c26] at H
                          exact absurd H (by simp)
                      · rw [if_neg c25] at H
                        exact absurd H (by simp)
              · rw [if_neg c8] at H
                have c8b0 : decide (x11_2 ≤ ((rdOf ByteArray.empty t150 x7_1).size : Int)) = false := decide_eq_false c8
                clear c8
                have H' := Aside0.mk H
                clear H
                go_wp2
                go_roundg k2
                case measure => have := HK1.out; have := HK2.out; omega
                case rel => exact ⟨(x5_2), (wrap64 (x7_1 + 1)), (by first | rfl | (simp; done) | (simp [*]; done)), H', ⟨by have := HK1.out; have := HK2.out; omega⟩, ⟨by (with_reducible repeat (first | apply Kd.R_alloc | apply Kd.R_drewN | apply Kd.R_drew)); exact HO_5.out⟩, ⟨by (with_reducible repeat (first | apply Kd.R_alloc | apply Kd.R_drewN | apply Kd.R_drew)); exact HO_6.out⟩, ⟨by repeat (first | (with_reducible first | exact HB.out | apply below_alloc | apply pw_below_drewN | apply below_drew1) | exact HB.out)⟩⟩
        · rw [if_neg c6] at H
          exact absurd H (by simp)
      · rw [if_neg c5] at H
        have c5b0 : decide (x7_1 < (t150.length : Int)) = false := decide_eq_false c5
        clear c5
        obtain rfl := Option.some.inj H
        obtain ⟨Ao32, co32, eo32⟩ := Kd.R_slice HO_6.out
        subst eo32
        go_wp2
        go_ret
        exact ⟨_, by first | rfl | (simp [errW_none, errW_some] <;> rfl) | (simp [*, errW_none, errW_some] <;> rfl), by (with_reducible repeat (first | apply Kd.R_alloc | apply Kd.R_drewN | apply Kd.R_drew)); exact Kd.R_mono HO_5.out (fun _ hk => trivial), by repeat (first | (with_reducible first | exact HB.out | apply below_alloc | apply pw_below_drewN | apply below_drew1) | exact HB.out)⟩

/-! ### ambryref13_Names: function 11 -/
-- FOR ambry/ambryref13.Names
-- NEEDS ambry/ambryref10.List; ambry/ambryref10.Low
-- MAKING
-- ROUNDS
def ambryref13_Names.low (s : ByteArray) : ByteArray := strOfNums ((bytesOf s).map Leaf.lowC)
def ambryref13_Names.star (s : ByteArray) : Bool := s.toList == ([42] : List UInt8)
def ambryref13_Names.ins (n : ByteArray) : List ByteArray → List ByteArray
  | [] => [n]
  | x :: r => if Op.bytesLess x.toList n.toList = true then x :: ambryref13_Names.ins n r else if x.toList = n.toList then x :: r else n :: x :: r
def ambryref13_Names.tell (l : List ByteArray) : List ByteArray × Bool := if l.any ambryref13_Names.star = true then ([], true) else (l.foldl (fun out s => ambryref13_Names.ins (ambryref13_Names.low s) out) [], false)
def ambryref13_Names.f (k : Nat) (a0_0 : Int) (a0_1 : ByteArray) (l0_2 : List (S38)) (l0_3 : List Int) : Option (List ByteArray × Bool) :=
  (ambryref10_List.f k l0_2 (⟨#[86, 97, 114, 121]⟩ : ByteArray)).bind fun t => if t.length ≤ 1000000 ∧ (∀ s ∈ t, s.size ≤ 140737488355328) then some (ambryref13_Names.tell t) else none
theorem ambryref13_Names.mono : ∀ a0 a1 a2 a3 k, LeO (ambryref13_Names.f k a0 a1 a2 a3) (ambryref13_Names.f (k + 1) a0 a1 a2 a3) := by
  intro a0 a1 a2 a3 k
  exact LeO.bind (ambryref10_List.mono _ _ _) (fun _ => LeO.refl _)
theorem ambryref13_Names.rd_mem (L : List ByteArray) (k : Nat) (hk : k < L.length) : rdOf ByteArray.empty L (k : Int) ∈ L := by
  unfold rdOf
  rw [Int.toNat_natCast, List.getD_eq_getElem?_getD, List.getElem?_eq_getElem hk]
  exact List.getElem_mem hk
theorem ambryref13_Names.unstar (L : List ByteArray) (h : ∀ j : Nat, j < L.length → ambryref13_Names.star (rdOf ByteArray.empty L (j : Int)) = false) : L.any ambryref13_Names.star = false := by
  rw [List.any_eq_false]
  intro x hx
  obtain ⟨j, hj⟩ := List.getElem?_of_mem hx
  have hl := (List.getElem?_eq_some_iff.1 hj).1
  have := h j hl
  unfold rdOf at this
  rw [Int.toNat_natCast, List.getD_eq_getElem?_getD, hj] at this
  simpa using this
def ambryref13_Names.upto (L : List ByteArray) (k : Nat) : List ByteArray := (L.take k).foldl (fun out s => ambryref13_Names.ins (ambryref13_Names.low s) out) []
theorem ambryref13_Names.upto_next (L : List ByteArray) (k : Nat) (hk : k < L.length) : ambryref13_Names.upto L (k + 1) = ambryref13_Names.ins (ambryref13_Names.low (rdOf ByteArray.empty L (k : Int))) (ambryref13_Names.upto L k) := by
  unfold ambryref13_Names.upto rdOf
  rw [Int.toNat_natCast, List.take_succ_eq_append_getElem hk, List.foldl_append, List.getD_eq_getElem?_getD, List.getElem?_eq_getElem hk]; rfl
theorem ambryref13_Names.ins_length (n : ByteArray) : ∀ l : List ByteArray, (ambryref13_Names.ins n l).length ≤ l.length + 1
  | [] => by simp [ambryref13_Names.ins]
  | x :: r => by
    rw [ambryref13_Names.ins]
    split
    · have := ambryref13_Names.ins_length n r; simp only [List.length_cons]; omega
    · split <;> simp only [List.length_cons] <;> omega
theorem ambryref13_Names.upto_length (L : List ByteArray) : ∀ k : Nat, (ambryref13_Names.upto L k).length ≤ k
  | 0 => by simp [ambryref13_Names.upto]
  | k + 1 => by
    rcases Nat.lt_or_ge k L.length with h | h
    · rw [ambryref13_Names.upto_next L k h]
      have h1 := ambryref13_Names.ins_length (ambryref13_Names.low (rdOf ByteArray.empty L (k : Int))) (ambryref13_Names.upto L k)
      have h2 := ambryref13_Names.upto_length L k
      omega
    · have : L.take (k + 1) = L.take k := by rw [List.take_of_length_le (by omega), List.take_of_length_le h]
      unfold ambryref13_Names.upto
      rw [this]
      have h2 := ambryref13_Names.upto_length L k
      unfold ambryref13_Names.upto at h2
      omega
/-- Where a word goes: behind all that are less. -/
theorem ambryref13_Names.ins_at (n : ByteArray) : ∀ (l : List ByteArray) (p : Nat), p ≤ l.length → (∀ i : Nat, i < p → Op.bytesLess (rdOf ByteArray.empty l (i : Int)).toList n.toList = true) →
    (p = l.length → ambryref13_Names.ins n l = l.take p ++ n :: l.drop p) ∧
    (p < l.length → Op.bytesLess (rdOf ByteArray.empty l (p : Int)).toList n.toList = false → ((rdOf ByteArray.empty l (p : Int)).toList = n.toList → ambryref13_Names.ins n l = l) ∧ (¬ (rdOf ByteArray.empty l (p : Int)).toList = n.toList → ambryref13_Names.ins n l = l.take p ++ n :: l.drop p)) := by
  intro l
  induction l with
  | nil =>
    intro p hp _
    simp only [List.length_nil, Nat.le_zero] at hp
    subst hp
    exact ⟨fun _ => rfl, fun h => absurd h (by simp)⟩
  | cons x r ih =>
    intro p hp hl
    have hr : ∀ i : Nat, rdOf ByteArray.empty (x :: r) ((i + 1 : Nat) : Int) = rdOf ByteArray.empty r (i : Int) := fun i => by unfold rdOf; rw [Int.toNat_natCast, Int.toNat_natCast, List.getD_cons_succ]
    have h0 : rdOf ByteArray.empty (x :: r) ((0 : Nat) : Int) = x := rfl
    cases p with
    | zero =>
      refine ⟨fun h => by simp at h, fun _ hn => ?_⟩
      rw [h0] at hn ⊢
      rw [ambryref13_Names.ins, if_neg (by rw [hn]; decide)]
      exact ⟨fun e => by rw [if_pos e], fun e => by rw [if_neg e]; rfl⟩
    | succ p =>
      have hx := hl 0 (by omega)
      rw [h0] at hx
      have hp' : p ≤ r.length := by simp only [List.length_cons] at hp; omega
      obtain ⟨i1, i2⟩ := ih p hp' (fun i hi => by have := hl (i + 1) (by omega); rwa [hr] at this)
      rw [hr]
      rw [ambryref13_Names.ins, if_pos hx, List.take_succ_cons, List.drop_succ_cons]
      refine ⟨fun h => ?_, fun h hn => ?_⟩
      · rw [i1 (by simp only [List.length_cons] at h; omega)]; rfl
      · obtain ⟨j1, j2⟩ := i2 (by simp only [List.length_cons] at h; omega) hn
        exact ⟨fun e => by rw [j1 e], fun e => by rw [j2 e]; rfl⟩
set_option maxHeartbeats 4000000 in
theorem ambryref13_Names.calls (k : Nat) (a0_0 : Int) (a0_1 : ByteArray) (A0_2 : Option Addr) (c0_2 : Nat) (l0_2 : List (S38)) (A0_3 : Option Addr) (c0_3 : Nat) (l0_3 : List Int) (r1 : List ByteArray) (r2 : Bool) (w : World) (hr0_2 : Kd.C k38 w A0_2 l0_2.length l0_2) (hc0_2 : l0_2.length ≤ c0_2) (hr0_3 : Kd.C (Kd.int .u8) w A0_3 l0_3.length l0_3) (hc0_3 : l0_3.length ≤ c0_3) (h : ambryref13_Names.f k a0_0 a0_1 l0_2 l0_3 = some (r1, r2)) :
    Calls Try.prog 11 #[.agg #[.int .i64 a0_0, .string a0_1, .slice A0_2 l0_2.length c0_2, .slice A0_3 l0_3.length c0_3]] w fun e w' => ∃ v0_ : Value, e = .returned (.tuple #[v0_, .bool r2]) ∧ Kd.R Kd.string 9 w' w.heap.size (fun _ => True) v0_ r1 ∧ Below w.heap.size w w' := by
  unfold ambryref13_Names.f at h
  obtain ⟨L, hL, h⟩ := Option.bind_eq_some_iff.mp h
  split at h
  case isFalse => cases h
  rename_i hs
  have h := Option.some.inj h
  have HL := Lib.hid hL
  have H := Lib.hid h
  have HR := Aside0.mk hr0_2
  have HC := Aside0.mk hc0_2
  have HS := Lib.hid hs.2
  have hlen := hs.1
  clear hL h hr0_2 hc0_2 hr0_3 hc0_3 hs
  go_enter Try.func11, Try.ntmps11
  go_wp2_with fail
  refine (ambryref10_List.calls k A0_2 c0_2 l0_2 (⟨#[86, 97, 114, 121]⟩ : ByteArray) L _ (Kd.C_below HR.out (below_alloc (Below.refl _ _) _)) HC.out HL.out).mono ?_
  rintro e w1 ⟨v0, rfl, hR1, hB1⟩
  obtain ⟨A, c, rfl, hcl, hC1⟩ := Kd.R_reads hR1
  have HA := Aside0.mk (below_then (below_alloc (Below.refl w.heap.size w) _) (by simp) hB1 : Below w.heap.size w w1)
  have HC1 := Aside0.mk hC1
  clear hR1 hB1 hC1 HR HC HL
  have hw1 := HA.out.size
  go_wp2
  go_loopw [5, 6] (fun v5 v6 wr => ∃ j : Nat, j ≤ L.length ∧ v6 = .int .i64 j ∧ Aside0 (∀ i : Nat, i < j → ambryref13_Names.star (rdOf ByteArray.empty L (i : Int)) = false) ∧ Aside0 (Kd.R Kd.string 9 wr w1.heap.size (fun _ => True) v5 (ambryref13_Names.upto L j)) ∧ Aside0 (Below w1.heap.size w1 wr)) (fun _ v6 _ => L.length - (intOf v6).toNat)
  case atStart => exact ⟨0, Nat.zero_le _, rfl, ⟨fun i hi => absurd hi (Nat.not_lt_zero i)⟩, ⟨Kd.R_nil _ _ _ _ _⟩, ⟨Below.refl _ _⟩⟩
  case round =>
    obtain ⟨j, hj, rfl, HU, HO, HB⟩ := hrel
    by_cases hlt : j < L.length
    · obtain ⟨ad, e0, hx⟩ := Kd.at_string (Kd.C_below HC1.out HB.out) (j : Int) (by omega) (by omega)
      cases e0
      rw [Int.toNat_natCast] at hx
      have hmem := HS.out _ (ambryref13_Names.rd_mem L j hlt)
      have hnext := ambryref13_Names.upto_next L j hlt
      cases hst : ambryref13_Names.star (rdOf ByteArray.empty L (j : Int)) with
      | true =>
        have hany : L.any ambryref13_Names.star = true := List.any_eq_true.2 ⟨_, ambryref13_Names.rd_mem L j hlt, hst⟩
        have hh := H.out
        unfold ambryref13_Names.tell at hh
        rw [if_pos hany] at hh
        injection hh with h1 h2
        subst h1
        subst h2
        have hst2 : ((rdOf ByteArray.empty L (j : Int)).toList == ([42] : List UInt8)) = true := hst
        generalize rdOf ByteArray.empty L (j : Int) = x at hx hst2
        clear hany hst hmem hnext
        have hx2 : (x.toList = ([42] : List UInt8)) = True := eq_true (beq_iff_eq.mp hst2)
        go_wp2
        go_ret2
        exact ⟨_, rfl, Kd.R_nil _ _ _ _ _, HA.out.trans (Below.mono HB.out hw1)⟩
      | false =>
        have HU2 := Aside0.mk (show ∀ i : Nat, i < j + 1 → ambryref13_Names.star (rdOf ByteArray.empty L (i : Int)) = false from fun i hi => by
          rcases Nat.lt_or_ge i j with h | h
          · exact HU.out i h
          · have : i = j := by omega
            subst this; exact hst)
        have hst2 : ((rdOf ByteArray.empty L (j : Int)).toList == ([42] : List UInt8)) = false := hst
        have HN := Lib.hid hnext
        have HM := Lib.hid hmem
        clear hst hnext hmem HU
        generalize rdOf ByteArray.empty L (j : Int) = x at hx hst2 HN HM
        have hx2 : (x.toList = ([42] : List UInt8)) = False := eq_false (fun e => by rw [e] at hst2; exact absurd hst2 (by decide))
        have hf : ambryref10_Low.f x = some (ambryref13_Names.low x) := if_pos HM.out
        have HF := Lib.hid hf
        clear hf
        go_wp2_with fail
        refine (ambryref10_Low.calls x _ _ HF.out).mono ?_
        rintro e w2 ⟨rfl, hB2⟩
        have HO2 := Aside0.mk (Kd.R_below HO.out hB2)
        have HB2 := Aside0.mk (HB.out.trans (Below.mono hB2 HB.out.size))
        clear hB2 hx HO HB
        have hw2 := HB2.out.size
        have hul := ambryref13_Names.upto_length L j
        generalize ambryref13_Names.upto L j = out at *
        generalize ambryref13_Names.low x = n at *
        obtain ⟨A5, c5, rfl, hc5, hC5⟩ := Kd.R_reads HO2.out
        have HC5 := Aside0.mk hC5
        clear hC5
        have hcm : ∀ p : Nat, p < out.length → ∃ ad5, A5 = some ad5 ∧ w2.cell? (ad5.add p) = some (.string (rdOf ByteArray.empty out (p : Int))) := fun p hp => by
          obtain ⟨ad5, e5, hx5⟩ := Kd.at_string HC5.out (p : Int) (by omega) (by omega)
          rw [Int.toNat_natCast] at hx5
          exact ⟨ad5, e5, hx5⟩
        have HCM := Lib.hid hcm
        have hol : out.length ≤ 1000000 := by omega
        clear hcm hst2 hx2 HM HF hul
        go_wp2_with fail
        go_loop [8] (fun v8 => ∃ p : Nat, p ≤ out.length ∧ v8 = .int .i64 p ∧ Aside0 (∀ i : Nat, i < p → Op.bytesLess (rdOf ByteArray.empty out (i : Int)).toList n.toList = true)) (fun v8 => out.length - (intOf v8).toNat)
        case atStart => exact ⟨0, Nat.zero_le _, rfl, ⟨fun i hi => absurd hi (Nat.not_lt_zero i)⟩⟩
        case round =>
          obtain ⟨p, hp, rfl, HLs⟩ := hrel
          have hi := ambryref13_Names.ins_at n out p hp HLs.out
          by_cases hpl : p < out.length
          · obtain ⟨ad5, e5, hx5⟩ := HCM.out p hpl
            cases e5
            have hne : ¬ p = out.length := by omega
            have HI := Lib.hid hi
            clear hi
            cases hb : Op.bytesLess (rdOf ByteArray.empty out (p : Int)).toList n.toList with
            | true =>
              have HL2 := Aside0.mk (show ∀ i : Nat, i < p + 1 → Op.bytesLess (rdOf ByteArray.empty out (i : Int)).toList n.toList = true from fun i hi => by
                rcases Nat.lt_or_ge i p with h | h
                · exact HLs.out i h
                · have : i = p := by omega
                  subst this; exact hb)
              clear HLs HI
              generalize rdOf ByteArray.empty out (p : Int) = y at hx5 hb
              go_wp2
              go_round
              case rel => exact ⟨p + 1, by omega, by go_num, HL2⟩
              case measure => simp [intOf]; omega
            | false =>
              have HI2 := Lib.hid ((HI.out.2 hpl) hb)
              clear HI HLs
              generalize rdOf ByteArray.empty out (p : Int) = y at hx5 hb HI2
              by_cases hy : y.toList = n.toList
              · have hyb : (y.toList == n.toList) = true := beq_iff_eq.mpr hy
                have HI3 := Lib.hid (HI2.out.1 hy)
                clear HI2 hy
                go_wp2
                go_roundw
                case rel => exact ⟨j + 1, by omega, by go_num, HU2, ⟨by rw [HN.out, HI3.out]; exact HO2.out⟩, HB2⟩
                case measure => simp [intOf]; omega
              · have hyb : (y.toList == n.toList) = false := beq_false_of_ne hy
                have HI3 := Lib.hid (HI2.out.2 hy)
                clear HI2 hy
                have hq0 : (0 : Int) ≤ (p : Int) := by omega
                have hq1 : (p : Int) ≤ (c5 : Int) := by omega
                have hq2 : (p : Int) ≤ (out.length : Int) := by omega
                have hro : ReadsOf Value.string ByteArray.empty w2 (some ad5) out.length out := Kd.reads_of_C HC5.out
                have hb3 : Below w2.heap.size w2 (w2.alloc (.cells #[.string n] 9)).drew := below_drew (below_alloc (Below.refl _ _) _)
                have RT := Lib.hid (Leaf.reads_cells (hro.take_ p (by omega)))
                have RD := Lib.hid (Leaf.reads_cells ((hro.drop_ (c := c5) p (by omega) hc5).below hb3))
                obtain ⟨i0, hi0, hz0, hz1, hz2⟩ := info_parts info9
                have HLIT := Lib.hid ((own_lit_of (enc := Value.string) w2 w2.heap.size 9 [n] (Nat.le_refl _) (by simp)).drew)
                have HB3 := Lib.hid hb3
                have hsz3 : (w2.alloc (.cells #[.string n] 9)).drew.heap.size = w2.heap.size + 1 := by show (w2.alloc _).heap.size = _; simp
                have hlen : (out.take p).length = p := by rw [List.length_take]; omega
                have hln : (out.drop p).length = out.length - p := List.length_drop
                have HSZ := Lib.hid hsz3
                clear hro hb3 hsz3
                go_wp2
                go_region_held3 (fun _ => True) (trivial) (first
                  | (refine Leaf.step_append_tail _ (by rfl) (.tmp 59) (.tmp 62) 29 (by rfl) w2.heap.size 9 i0 _ 1 16 Try.underlying29 hi0 hz0 hz1 hz2 rfl (by decide) (.slice (some ⟨w2.heap.size, 0, none⟩) 1 1) 1 [.string n] (by rfl) HLIT.out (if c5 = p then some ad5 else Option.map (fun x => x.add p) (some ad5)) (out.length - p) (c5 - p) ((out.drop p).map Value.string) (by rfl) (by first | rfl | (rw [List.length_map]; omega)) (by first | (intro _; rfl) | exact RD.out.1) (by first | exact RD.out.2 | (intro _ _ j u hj; simp at hj)) (by first | exact Leaf.strs_one _ | (intro u hu; simp at hu)) (by unfold maxLen; omega) (by omega) (by rw [HSZ.out]; omega) ?_; intro v3 w3 ho3 hg3; obtain ⟨g3, cap3, rfl, hgl, hgl2⟩ := ho3.form (by omega); have HO3 := Lib.hid ho3; have HG3 := Lib.hid hg3; clear ho3 hg3)
                  | (refine Leaf.step_append_grows _ (by rfl) (.tmp 57) (.tmp 63) 29 (by rfl) 9 i0 _ 1 16 Try.underlying29 hi0 hz0 hz1 hz2 rfl (by decide) (some ad5) p p ((out.take p).map Value.string) (by rfl) (fun e => ⟨RT.out.1 e, RT.out.1 e⟩) (by rw [List.length_map]; omega) (fun b e j u hj => Leaf.cells_on (RT.out.2 b e j u (by simpa using hj)) HB3.out HG3.out) ⟨g3, 0, none⟩ (1 + (out.length - p)) cap3 ([.string n] ++ ((out.drop p).map Value.string)) (by rfl) (by simp; try omega) (World.ownsRow.cells HO3.out rfl) (fun u hu => (List.mem_append.1 hu).elim (fun h => by rw [List.mem_singleton.1 h]; rfl) (fun h => by first | exact Leaf.strs_one _ u h | exact absurd h (by simp))) (by omega) (by unfold maxLen; omega) (by omega) ?_; intro v4 w4 ho4 hg4; have HO4 := Lib.hid ho4; have HG4 := Lib.hid hg4; clear ho4 hg4))
                go_wp2
                go_roundw
                case rel => exact ⟨j + 1, by omega, by go_num, HU2, ⟨by rw [HN.out, HI3.out]; exact Leaf.R_ins HO4.out (Nat.le_trans hw2 (by have := HG3.out.size; have := HSZ.out; omega)) (by rw [List.length_append, List.length_cons]; omega)⟩, ⟨Leaf.below_ins HB2.out HG3.out HG4.out⟩⟩
                case measure => simp [intOf]; omega
          · have hpe : p = out.length := by omega
            have HI3 := Lib.hid (hi.1 hpe)
            have hq0 : (0 : Int) ≤ (p : Int) := by omega
            have hq1 : (p : Int) ≤ (c5 : Int) := by omega
            have hq2 : (p : Int) ≤ (out.length : Int) := by omega
            clear hi HLs
            have hro : ReadsOf Value.string ByteArray.empty w2 (A5) out.length out := Kd.reads_of_C HC5.out
            have hb3 : Below w2.heap.size w2 (w2.alloc (.cells #[.string n] 9)).drew := below_drew (below_alloc (Below.refl _ _) _)
            have RT := Lib.hid (Leaf.reads_cells (hro.take_ out.length (by omega)))
            have RD := Lib.hid (Leaf.reads_cells ((hro.drop_ (c := c5) out.length (by omega) hc5).below hb3))
            obtain ⟨i0, hi0, hz0, hz1, hz2⟩ := info_parts info9
            have HLIT := Lib.hid ((own_lit_of (enc := Value.string) w2 w2.heap.size 9 [n] (Nat.le_refl _) (by simp)).drew)
            have HB3 := Lib.hid hb3
            have hsz3 : (w2.alloc (.cells #[.string n] 9)).drew.heap.size = w2.heap.size + 1 := by show (w2.alloc _).heap.size = _; simp
            have hlen : (out.take p).length = p := by rw [List.length_take]; omega
            have hln : (out.drop p).length = out.length - p := List.length_drop
            have HSZ := Lib.hid hsz3
            clear hro hb3 hsz3
            go_wp2
            go_region_held3 (fun _ => True) (trivial) (first
              | (refine Leaf.step_append_tail _ (by rfl) (.tmp 59) (.tmp 62) 29 (by rfl) w2.heap.size 9 i0 _ 1 16 Try.underlying29 hi0 hz0 hz1 hz2 rfl (by decide) (.slice (some ⟨w2.heap.size, 0, none⟩) 1 1) 1 [.string n] (by rfl) HLIT.out (if c5 = out.length then A5 else Option.map (fun x => x.add out.length) (A5)) 0 (c5 - out.length) [] (by rfl) (by first | rfl | (rw [List.length_map]; omega)) (by first | (intro _; rfl) | exact RD.out.1) (by first | exact RD.out.2 | (intro _ _ j u hj; simp at hj)) (by first | exact Leaf.strs_one _ | (intro u hu; simp at hu)) (by unfold maxLen; omega) (by omega) (by rw [HSZ.out]; omega) ?_; intro v3 w3 ho3 hg3; obtain ⟨g3, cap3, rfl, hgl, hgl2⟩ := ho3.form (by omega); have HO3 := Lib.hid ho3; have HG3 := Lib.hid hg3; clear ho3 hg3)
              | (refine Leaf.step_append_grows _ (by rfl) (.tmp 57) (.tmp 63) 29 (by rfl) 9 i0 _ 1 16 Try.underlying29 hi0 hz0 hz1 hz2 rfl (by decide) (A5) out.length out.length (out.map Value.string) (by rfl) (fun e => ⟨RT.out.1 e, RT.out.1 e⟩) (by rw [List.length_map]; omega) (fun b e j u hj => Leaf.cells_on (RT.out.2 b e j u (by simpa using hj)) HB3.out HG3.out) ⟨g3, 0, none⟩ (1 + 0) cap3 ([.string n] ++ []) (by rfl) (by simp; try omega) (World.ownsRow.cells HO3.out rfl) (fun u hu => (List.mem_append.1 hu).elim (fun h => by rw [List.mem_singleton.1 h]; rfl) (fun h => by first | exact Leaf.strs_one _ u h | exact absurd h (by simp))) (by omega) (by unfold maxLen; omega) (by omega) ?_; intro v4 w4 ho4 hg4; have HO4 := Lib.hid ho4; have HG4 := Lib.hid hg4; clear ho4 hg4))
            go_wp2
            go_roundw
            case rel => exact ⟨j + 1, by omega, by go_num, HU2, ⟨by rw [HN.out, HI3.out]; exact Leaf.R_ins (a := out.take p) (b := out.drop p) (by rw [hpe, List.take_length, List.drop_length]; exact HO4.out) (Nat.le_trans hw2 (by have := HG3.out.size; have := HSZ.out; omega)) (by rw [List.length_append, List.length_cons]; omega)⟩, ⟨Leaf.below_ins HB2.out HG3.out HG4.out⟩⟩
            case measure => simp [intOf]; omega
    · have hjn : j = L.length := by omega
      subst hjn
      have hany := ambryref13_Names.unstar L HU.out
      have hh := H.out
      unfold ambryref13_Names.tell at hh
      rw [if_neg (by rw [hany]; decide)] at hh
      injection hh with h1 h2
      subst h2
      have hu : ambryref13_Names.upto L L.length = r1 := by rw [← h1]; unfold ambryref13_Names.upto; rw [List.take_length]
      rw [hu] at HO
      have HOb := Aside0.mk (Kd.R_lower HO.out hw1)
      have HB2 := Aside0.mk (HA.out.trans (Below.mono HB.out hw1))
      clear hany h1 H HU HS HC1 HO HB hu
      go_wp2
      go_ret2
      exact ⟨_, rfl, HOb.out, HB2.out⟩

end Go.Proofs.Ytefijfanjekchaa.G
