-- PRINTED by print.py (a twelfth state) out of the translation. Not trusted: Lean checks it.
import Derived.Test.YtdgimhaghhjdcaaDoorGx0
namespace Go.Proofs.YtdgimhaghhjdcaaDoor.G
open Go.RowKit Go.Proofs.YtdgimhaghhjdcaaDoorW.PrintWords Go.Proofs.YtdgimhaghhjdcaaDoorW.PrintLast Go.Proofs.YtdgimhaghhjdcaaDoorW.PrintMore
attribute [local go_sem] max2_int min2_int max_two min_two max_three min_three max_four min_four   -- for this text's walks alone
set_option linter.unusedVariables false
set_option linter.unusedSimpArgs false

-- NOT PRINTED: function 4 (ambrylaw13_CtrlOrder)

/-! ### ambryhelp_Light: function 13 -/
def ambryhelp_Light.l0 : Nat → List (S29) → Int → Option (Bool)
  | 0, _, _ => none
  | k + 1, x0, x5 => if x5 < (x0.length : Int) then (if 0 ≤ x5 then (if (((rd_T29 x0 x5).f0).size : Int) > 300 then (some false) else (if (((rd_T29 x0 x5).f1).size : Int) > 300 then (some false) else (ambryhelp_Light.l0 k x0 (wrap64 (x5 + 1))))) else (none)) else (some true)
def ambryhelp_Light.f (k : Nat) (l0 : List (S29)) (a1 : Int) : Option (Bool) := if (l0.length : Int) > a1 then (some false) else (ambryhelp_Light.l0 k l0 0)
theorem ambryhelp_Light.mono_l : ∀ k, (∀ y0 y1, LeO (ambryhelp_Light.l0 k y0 y1) (ambryhelp_Light.l0 (k + 1) y0 y1))
  | 0 => fun _ _ r h => by simp [ambryhelp_Light.l0] at h
  | k + 1 => by
    have ih0 := ambryhelp_Light.mono_l k
    · intro y0 y1
      unfold ambryhelp_Light.l0
      repeat' first
      | (with_reducible exact ih0 _ _)
      | (with_reducible exact LeO.refl _)
      | (with_reducible exact LeO.none _)
      | (with_reducible refine LeO.ite ?_ ?_)
      | (with_reducible refine LeO.bind ?_ (fun _ => ?_))
      | exact ih0 _ _
      | exact LeO.none _
      | refine LeO.ite ?_ ?_
      | refine LeO.bind ?_ (fun _ => ?_)
theorem ambryhelp_Light.mono : ∀ a0 a1 k, LeO (ambryhelp_Light.f k a0 a1) (ambryhelp_Light.f (k + 1) a0 a1) := by
  intro a0 a1 k
  have ih0 := ambryhelp_Light.mono_l k
  unfold ambryhelp_Light.f
  repeat' first
      | (with_reducible exact ih0 _ _)
      | (with_reducible exact LeO.refl _)
      | (with_reducible exact LeO.none _)
      | (with_reducible refine LeO.ite ?_ ?_)
      | (with_reducible refine LeO.bind ?_ (fun _ => ?_))
      | exact ih0 _ _
      | exact LeO.none _
      | refine LeO.ite ?_ ?_
      | refine LeO.bind ?_ (fun _ => ?_)
set_option maxHeartbeats 8000000 in
set_option maxRecDepth 100000 in
theorem ambryhelp_Light.calls (k : Nat) (A0 : Option Addr) (c0 : Nat) (l0 : List (S29)) (a1 : Int) (r : Bool) (w : World) (hr0 : Kd.C k29 w A0 l0.length l0) (hc0 : l0.length ≤ c0) (h : ambryhelp_Light.f k l0 a1 = some r) :
    Calls Tryd.prog 13 #[.slice A0 l0.length c0, .int .i64 a1] w fun e w' => e = .returned (.bool r) ∧ Drawn0 w w' := by
  have HR0 := Aside0.mk hr0
  have HC0 := Aside0.mk hc0
  clear hr0 hc0
  have H : (if (l0.length : Int) > a1 then (some false) else (ambryhelp_Light.l0 k l0 0)) = some r := h
  clear h
  by_cases c3 : (l0.length : Int) > a1
  · rw [if_pos c3] at H
    have c3b0 : decide (a1 < (l0.length : Int)) = true := decide_eq_true c3
    clear c3
    obtain rfl := Option.some.inj H
    go_enter Tryd.func13, Tryd.ntmps13
    go_wp2
    go_ret
    exact ⟨by first | rfl | (simp; done) | (simp [*]; done) | (simp; exact Leaf.ne_nil_bool _) | (simp; rw [IntKind.wrap_u8]; exact congrArg (fun z => bits BinOp.or IntKind.i64 z _ % 256) (by unfold wrap64; exact IntKind.wrap_i64 _)), by repeat (first | exact Drawn0.refl _ | apply Drawn0.step)⟩
  · rw [if_neg c3] at H
    have c3b0 : decide (a1 < (l0.length : Int)) = false := decide_eq_false c3
    clear c3
    have H' := Aside0.mk H
    clear H
    go_enter Tryd.func13, Tryd.ntmps13
    go_wp2
    go_loopg [5] k (fun kq v5 w' => ∃ (x5_1 : Int), v5 = .int .i64 x5_1 ∧ Aside0 (ambryhelp_Light.l0 kq l0 x5_1 = some r) ∧ Aside0 (kq ≤ k) ∧ Drawn0 w w')
    case atStart => exact ⟨(0), (by first | rfl | (simp; done) | (simp [*]; done)), H', ⟨Nat.le_refl _⟩, by repeat (first | exact Drawn0.refl _ | apply Drawn0.step)⟩
    case round =>
      clear H'
      try clear c1
      try clear p2
      try clear c3
      try clear c3b0
      obtain ⟨x5_1, rfl, HA, HK1, ⟨m1, rfl⟩⟩ := hrel
      cases gk with
      | zero => exact absurd HA.out (by simp [ambryhelp_Light.l0])
      | succ k1 =>
        have H := HA.out
        clear HA
        simp only [ambryhelp_Light.l0] at H
        by_cases c4 : x5_1 < (l0.length : Int)
        · rw [if_pos c4] at H
          have c4b0 : decide (x5_1 < (l0.length : Int)) = true := decide_eq_true c4
          clear c4
          by_cases c5 : 0 ≤ x5_1
          · rw [if_pos c5] at H
            have c5b0 : decide (0 ≤ x5_1) = true := decide_eq_true c5
            clear c5
            by_cases c6 : (((rd_T29 l0 x5_1).f0).size : Int) > 300
            · rw [if_pos c6] at H
              have c6b0 : decide (300 < (((rd_T29 l0 x5_1).f0).size : Int)) = true := decide_eq_true c6
              have c6b1 : decide (300 < ((rd_T29 l0 x5_1).f0).size) = true := decide_eq_true (by omega)
              clear c6
              obtain rfl := Option.some.inj H
              have p238 : 0 ≤ (x5_1 : Int) := of_decide_eq_true (by first | (with_reducible assumption) | assumption)
              have q238 : x5_1 < (l0.length : Int) := of_decide_eq_true (by first | (with_reducible assumption) | assumption)
              obtain ⟨ad238, e238, hx238_0, hx238_1⟩ := at_T29 HR0.out x5_1 p238 q238
              cases e238
              replace p238 := eq_true p238
              replace q238 := eq_true q238
              go_wp2
              go_ret
              exact ⟨by first | rfl | (simp; done) | (simp [*]; done) | (simp; exact Leaf.ne_nil_bool _) | (simp; rw [IntKind.wrap_u8]; exact congrArg (fun z => bits BinOp.or IntKind.i64 z _ % 256) (by unfold wrap64; exact IntKind.wrap_i64 _)), by repeat (first | exact Drawn0.refl _ | apply Drawn0.step)⟩
            · rw [if_neg c6] at H
              have c6b0 : decide (300 < (((rd_T29 l0 x5_1).f0).size : Int)) = false := decide_eq_false c6
              have c6b1 : decide (300 < ((rd_T29 l0 x5_1).f0).size) = false := decide_eq_false (by omega)
              clear c6
              by_cases c7 : (((rd_T29 l0 x5_1).f1).size : Int) > 300
              · rw [if_pos c7] at H
                have c7b0 : decide (300 < (((rd_T29 l0 x5_1).f1).size : Int)) = true := decide_eq_true c7
                have c7b1 : decide (300 < ((rd_T29 l0 x5_1).f1).size) = true := decide_eq_true (by omega)
                clear c7
                obtain rfl := Option.some.inj H
                have p238 : 0 ≤ (x5_1 : Int) := of_decide_eq_true (by first | (with_reducible assumption) | assumption)
                have q238 : x5_1 < (l0.length : Int) := of_decide_eq_true (by first | (with_reducible assumption) | assumption)
                obtain ⟨ad238, e238, hx238_0, hx238_1⟩ := at_T29 HR0.out x5_1 p238 q238
                cases e238
                replace p238 := eq_true p238
                replace q238 := eq_true q238
                have p239 : 0 ≤ (x5_1 : Int) := of_decide_eq_true (by first | (with_reducible assumption) | assumption)
                have q239 : x5_1 < (l0.length : Int) := of_decide_eq_true (by first | (with_reducible assumption) | assumption)
                obtain ⟨ad239, e239, hx239_0, hx239_1⟩ := at_T29 HR0.out x5_1 p239 q239
                obtain rfl : ad238 = ad239 := (by injection e239)
                replace p239 := eq_true p239
                replace q239 := eq_true q239
                go_wp2
                go_ret
                exact ⟨by first | rfl | (simp; done) | (simp [*]; done) | (simp; exact Leaf.ne_nil_bool _) | (simp; rw [IntKind.wrap_u8]; exact congrArg (fun z => bits BinOp.or IntKind.i64 z _ % 256) (by unfold wrap64; exact IntKind.wrap_i64 _)), by repeat (first | exact Drawn0.refl _ | apply Drawn0.step)⟩
              · rw [if_neg c7] at H
                have c7b0 : decide (300 < (((rd_T29 l0 x5_1).f1).size : Int)) = false := decide_eq_false c7
                have c7b1 : decide (300 < ((rd_T29 l0 x5_1).f1).size) = false := decide_eq_false (by omega)
                clear c7
                have H' := Aside0.mk H
                clear H
                have p238 : 0 ≤ (x5_1 : Int) := of_decide_eq_true (by first | (with_reducible assumption) | assumption)
                have q238 : x5_1 < (l0.length : Int) := of_decide_eq_true (by first | (with_reducible assumption) | assumption)
                obtain ⟨ad238, e238, hx238_0, hx238_1⟩ := at_T29 HR0.out x5_1 p238 q238
                cases e238
                replace p238 := eq_true p238
                replace q238 := eq_true q238
                have p239 : 0 ≤ (x5_1 : Int) := of_decide_eq_true (by first | (with_reducible assumption) | assumption)
                have q239 : x5_1 < (l0.length : Int) := of_decide_eq_true (by first | (with_reducible assumption) | assumption)
                obtain ⟨ad239, e239, hx239_0, hx239_1⟩ := at_T29 HR0.out x5_1 p239 q239
                obtain rfl : ad238 = ad239 := (by injection e239)
                replace p239 := eq_true p239
                replace q239 := eq_true q239
                go_wp2
                go_roundg k1
                case measure => have := HK1.out; omega
                case rel => exact ⟨(wrap64 (x5_1 + 1)), (by first | rfl | (simp; done) | (simp [*]; done)), H', ⟨by have := HK1.out; omega⟩, by repeat (first | exact Drawn0.refl _ | apply Drawn0.step)⟩
          · rw [if_neg c5] at H
            exact absurd H (by simp)
        · rw [if_neg c4] at H
          have c4b0 : decide (x5_1 < (l0.length : Int)) = false := decide_eq_false c4
          clear c4
          obtain rfl := Option.some.inj H
          go_wp2
          go_ret
          exact ⟨by first | rfl | (simp; done) | (simp [*]; done) | (simp; exact Leaf.ne_nil_bool _) | (simp; rw [IntKind.wrap_u8]; exact congrArg (fun z => bits BinOp.or IntKind.i64 z _ % 256) (by unfold wrap64; exact IntKind.wrap_i64 _)), by repeat (first | exact Drawn0.refl _ | apply Drawn0.step)⟩

-- NOT PRINTED: function 5 (ambrylaw13_CtrlCase)

end Go.Proofs.YtdgimhaghhjdcaaDoor.G
