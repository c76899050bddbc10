-- PRINTED by print.py (a twelfth state) out of the translation. Not trusted: Lean checks it.
import Derived.Test.YtefijfanjekchaaGx0
import Derived.Test.YtefijfanjekchaaGx1
namespace Go.Proofs.Ytefijfanjekchaa.G
open Go.RowKit Go.Proofs.YtefijfanjekchaaW.PrintWords Go.Proofs.YtefijfanjekchaaW.PrintLast Go.Proofs.YtefijfanjekchaaW.PrintMore
attribute [local go_sem] max2_int min2_int max_two min_two max_three min_three max_four min_four   -- for this text's walks alone
set_option linter.unusedVariables false
set_option linter.unusedSimpArgs false

/-! ### head_trim: function 37 -/
mutual
def head_trim.j1 : Nat → ByteArray → Option (ByteArray)
  | 0, _ => none
  | k + 1, x0 => head_trim.l1 k x0
def head_trim.l1 : Nat → ByteArray → Option (ByteArray)
  | 0, _ => none
  | k + 1, x0 => if x0.toList = ([] : List UInt8) then (some x0) else (if 0 ≤ (wrap64 ((x0.size : Int) - 1)) then (if (wrap64 ((x0.size : Int) - 1)) < (x0.size : Int) then ((head_blank.f (bt x0 (wrap64 ((x0.size : Int) - 1)))).bind fun t116 => (if t116 = true then (if (wrap64 ((x0.size : Int) - 1)) ≤ (x0.size : Int) then (head_trim.l1 k (x0.extract 0 ((wrap64 ((x0.size : Int) - 1)) : Int).toNat)) else (none)) else (some x0))) else (none)) else (none))
def head_trim.l0 : Nat → ByteArray → Option (ByteArray)
  | 0, _ => none
  | k + 1, x0 => if x0.toList = ([] : List UInt8) then (head_trim.j1 k x0) else (if 0 < (x0.size : Int) then ((head_blank.f (bt x0 0)).bind fun t115 => (if t115 = true then (if 1 ≤ (x0.size : Int) then (head_trim.l0 k (x0.extract 1 x0.size)) else (none)) else (head_trim.j1 k x0))) else (none))
end
def head_trim.f (k : Nat) (a0 : ByteArray) : Option (ByteArray) := head_trim.l0 k a0
theorem head_trim.mono_l : ∀ k, (∀ y0, LeO (head_trim.j1 k y0) (head_trim.j1 (k + 1) y0)) ∧ (∀ y0, LeO (head_trim.l1 k y0) (head_trim.l1 (k + 1) y0)) ∧ (∀ y0, LeO (head_trim.l0 k y0) (head_trim.l0 (k + 1) y0))
  | 0 => ⟨fun _ r h => by simp [head_trim.j1] at h, fun _ r h => by simp [head_trim.l1] at h, fun _ r h => by simp [head_trim.l0] at h⟩
  | k + 1 => by
    obtain ⟨ih0, ih1, ih2⟩ := head_trim.mono_l k
    refine ⟨?_, ?_, ?_⟩
    · intro y0
      unfold head_trim.j1
      repeat' first
      | (with_reducible exact ih0 _)
      | (with_reducible exact ih1 _)
      | (with_reducible exact ih2 _)
      | (with_reducible exact LeO.refl _)
      | (with_reducible exact LeO.none _)
      | (with_reducible refine LeO.ite ?_ ?_)
      | (with_reducible refine LeO.bind ?_ (fun _ => ?_))
      | exact ih0 _
      | exact ih1 _
      | exact ih2 _
      | exact LeO.none _
      | refine LeO.ite ?_ ?_
      | refine LeO.bind ?_ (fun _ => ?_)
    · intro y0
      unfold head_trim.l1
      repeat' first
      | (with_reducible exact ih0 _)
      | (with_reducible exact ih1 _)
      | (with_reducible exact ih2 _)
      | (with_reducible exact LeO.refl _)
      | (with_reducible exact LeO.none _)
      | (with_reducible refine LeO.ite ?_ ?_)
      | (with_reducible refine LeO.bind ?_ (fun _ => ?_))
      | exact ih0 _
      | exact ih1 _
      | exact ih2 _
      | exact LeO.none _
      | refine LeO.ite ?_ ?_
      | refine LeO.bind ?_ (fun _ => ?_)
    · intro y0
      unfold head_trim.l0
      repeat' first
      | (with_reducible exact ih0 _)
      | (with_reducible exact ih1 _)
      | (with_reducible exact ih2 _)
      | (with_reducible exact LeO.refl _)
      | (with_reducible exact LeO.none _)
      | (with_reducible refine LeO.ite ?_ ?_)
      | (with_reducible refine LeO.bind ?_ (fun _ => ?_))
      | exact ih0 _
      | exact ih1 _
      | exact ih2 _
      | exact LeO.none _
      | refine LeO.ite ?_ ?_
      | refine LeO.bind ?_ (fun _ => ?_)
theorem head_trim.mono : ∀ a0 k, LeO (head_trim.f k a0) (head_trim.f (k + 1) a0) := by
  intro a0 k
  obtain ⟨ih0, ih1, ih2⟩ := head_trim.mono_l k
  unfold head_trim.f
  repeat' first
      | (with_reducible exact ih0 _)
      | (with_reducible exact ih1 _)
      | (with_reducible exact ih2 _)
      | (with_reducible exact LeO.refl _)
      | (with_reducible exact LeO.none _)
      | (with_reducible refine LeO.ite ?_ ?_)
      | (with_reducible refine LeO.bind ?_ (fun _ => ?_))
      | exact ih0 _
      | exact ih1 _
      | exact ih2 _
      | exact LeO.none _
      | refine LeO.ite ?_ ?_
      | refine LeO.bind ?_ (fun _ => ?_)
set_option maxHeartbeats 8000000 in
set_option maxRecDepth 100000 in
theorem head_trim.calls (k : Nat) (a0 : ByteArray) (r : ByteArray) (w : World) (h : head_trim.f k a0 = some r) :
    Calls Try.prog 37 #[.string a0] w fun e w' => e = .returned (.string r) ∧ Drawn0 w w' := by
  have H : (head_trim.l0 k a0) = some r := h
  clear h
  have HC2 := Aside0.mk H
  clear H
  go_enter Try.func37, Try.ntmps37
  go_upto_block 0 with (fail)
  go_cut [0] (fun v0 wc => ∃ (kq : Nat) (x0_1 : ByteArray), v0 = .string x0_1 ∧ Aside0 (head_trim.j1 kq x0_1 = some r) ∧ Aside0 (kq ≤ k) ∧ Drawn0 w wc)
  case first =>
    have H := HC2.out
    clear HC2
    have H' := Aside0.mk H
    clear H
    go_wp2
    go_loopg [0] k (fun kq v0 w' => ∃ (x0_1 : ByteArray), v0 = .string x0_1 ∧ Aside0 (head_trim.l0 kq x0_1 = some r) ∧ Aside0 (kq ≤ k) ∧ Drawn0 w w')
    case atStart => exact ⟨(a0), (by first | rfl | (simp; done) | (simp [*]; done)), H', ⟨Nat.le_refl _⟩, by repeat (first | exact Drawn0.refl _ | apply Drawn0.step)⟩
    case round =>
      clear H'
      try clear p2
      obtain ⟨x0_1, rfl, HA, HK1, ⟨m1, rfl⟩⟩ := hrel
      cases gk with
      | zero => exact absurd HA.out (by simp [head_trim.l0])
      | succ k1 =>
        have H := HA.out
        clear HA
        simp only [head_trim.l0] at H
        by_cases c3 : x0_1.toList = ([] : List UInt8)
        · rw [if_pos c3] at H
          have c3b0 : (x0_1.toList == ([] : List UInt8)) = true := beq_iff_eq.mpr c3
          have c3b1 : (x0_1.toList != ([] : List UInt8)) = false := bne_eq_false_iff_eq.mpr c3
          clear c3
          (first | rw [c3b0] | (simp only [i64_w, i32_w]; rw [c3b0]) | skip)
          have H' := Aside0.mk H
          clear H
          go_wp2
          go_meet
          case rel => exact ⟨_, (x0_1), (by first | rfl | (simp; done) | (simp [*]; done)), H', ⟨by have := HK1.out; first | omega | exact Nat.le_refl _⟩, by repeat (first | exact Drawn0.refl _ | apply Drawn0.step)⟩
        · rw [if_neg c3] at H
          have c3b0 : (x0_1.toList == ([] : List UInt8)) = false := beq_eq_false_iff_ne.mpr c3
          have c3b1 : (x0_1.toList != ([] : List UInt8)) = true := bne_iff_ne.mpr c3
          (first | rw [c3b0] | (simp only [i64_w, i32_w]; rw [c3b0]) | skip)
          by_cases c4 : 0 < (x0_1.size : Int)
          · rw [if_pos c4] at H
            have c4b0 : decide (0 < (x0_1.size : Int)) = true := decide_eq_true c4
            have c4b1 : decide (0 < x0_1.size) = true := decide_eq_true (by omega)
            clear c4
            replace H := Option.bind_eq_some_iff.mp H
            obtain ⟨t115, A60, H⟩ := H
            replace H : (if t115 = true then (if 1 ≤ (x0_1.size : Int) then (head_trim.l0 k1 (x0_1.extract 1 x0_1.size)) else (none)) else (head_trim.j1 k1 x0_1)) = some r := H
            have A6 := Aside0.mk A60
            clear A60
            by_cases c7 : t115 = true
            · subst c7
              have H1 : (if 1 ≤ (x0_1.size : Int) then (head_trim.l0 k1 (x0_1.extract 1 x0_1.size)) else (none)) = some r := by rw [if_pos rfl] at H; exact H
              clear H
              have H := H1
              clear H1
              by_cases c8 : 1 ≤ (x0_1.size : Int)
              · rw [if_pos c8] at H
                have c8b0 := eq_true c8
                have c8b1 : decide (1 ≤ (x0_1.size : Int)) = true := decide_eq_true c8
                clear c8
                have H' := Aside0.mk H
                clear H
                have p5 : 0 ≤ (0 : Int) := (by omega)
                have q5 : 0 < x0_1.size := (by have : (0 : Int) < (x0_1.size : Int) := of_decide_eq_true (by first | (with_reducible assumption) | assumption); omega)
                have hx5 : ∀ h : 0 < x0_1.size, ((x0_1[0]'h).toNat : Int) = bt x0_1 0 := bt_at x0_1 0
                clear p5
                have qi5 : (0 < (x0_1.size : Int)) = True := eq_true (of_decide_eq_true (by first | (with_reducible assumption) | assumption))
                replace q5 := eq_true q5
                go_wp2_with (first | (go_at_call 50; (with_reducible refine (head_blank.calls (bt x0_1 0) true _ A6.out).mono ?_); rintro e w' ⟨rfl, ⟨nd, rfl⟩⟩))
                go_roundg k1
                case measure => have := HK1.out; omega
                case rel => exact ⟨(x0_1.extract 1 x0_1.size), (by first | rfl | (simp; done) | (simp [*]; done)), H', ⟨by have := HK1.out; omega⟩, by repeat (first | exact Drawn0.refl _ | apply Drawn0.step)⟩
              · rw [if_neg c8] at H
                exact absurd H (by simp)
            · replace c7 := Bool.eq_false_iff.mpr c7
              subst c7
              have H1 : (head_trim.j1 k1 x0_1) = some r := by rw [if_neg (show ¬ (false = true) by decide)] at H; exact H
              clear H
              have H := H1
              clear H1
              have H' := Aside0.mk H
              clear H
              have p5 : 0 ≤ (0 : Int) := (by omega)
              have q5 : 0 < x0_1.size := (by have : (0 : Int) < (x0_1.size : Int) := of_decide_eq_true (by first | (with_reducible assumption) | assumption); omega)
              have hx5 : ∀ h : 0 < x0_1.size, ((x0_1[0]'h).toNat : Int) = bt x0_1 0 := bt_at x0_1 0
              clear p5
              have qi5 : (0 < (x0_1.size : Int)) = True := eq_true (of_decide_eq_true (by first | (with_reducible assumption) | assumption))
              replace q5 := eq_true q5
              go_wp2_with (first | (go_at_call 50; (with_reducible refine (head_blank.calls (bt x0_1 0) false _ A6.out).mono ?_); rintro e w' ⟨rfl, ⟨nd, rfl⟩⟩))
              go_meet
              case rel => exact ⟨_, (x0_1), (by first | rfl | (simp; done) | (simp [*]; done)), H', ⟨by have := HK1.out; first | omega | exact Nat.le_refl _⟩, by repeat (first | exact Drawn0.refl _ | apply Drawn0.step)⟩
          · rw [if_neg c4] at H
            exact absurd H (by simp)
  case rest =>
    clear HC2
    try clear p2
    try clear c3
    try clear c3b0
    try clear c3b1
    try clear c4
    try clear c4b0
    try clear c4b1
    try clear p5
    try clear q5
    try clear hx5
    try clear qi5
    try clear c7
    try clear c8
    try clear c8b0
    try clear c8b1
    try clear p2
    try clear p5
    try clear q5
    obtain ⟨kq, x0_1, rfl, HA, HJ1, ⟨mc1, rfl⟩⟩ := hcut
    cases kq with
    | zero => exact absurd HA.out (by simp [head_trim.j1])
    | succ kj1 =>
      have H := HA.out
      clear HA
      simp only [head_trim.j1] at H
      have H' := Aside0.mk H
      clear H
      go_wp2
      go_loopg [0] kj1 (fun kq v0 w' => ∃ (x0_2 : ByteArray), v0 = .string x0_2 ∧ Aside0 (head_trim.l1 kq x0_2 = some r) ∧ Aside0 (kq ≤ kj1) ∧ Drawn0 w w')
      case atStart => exact ⟨(x0_1), (by first | rfl | (simp; done) | (simp [*]; done)), H', ⟨Nat.le_refl _⟩, by repeat (first | exact Drawn0.refl _ | apply Drawn0.step)⟩
      case round =>
        clear H'
        try clear c1
        try clear p2
        try clear c3
        try clear c3b0
        try clear c3b1
        try clear c4
        try clear c4b0
        try clear c4b1
        try clear p5
        try clear q5
        try clear hx5
        try clear qi5
        try clear c7
        try clear c8
        try clear c8b0
        try clear c8b1
        try clear p2
        try clear p5
        try clear q5
        obtain ⟨x0_2, rfl, HA, HK2, ⟨m2, rfl⟩⟩ := hrel
        cases gk with
        | zero => exact absurd HA.out (by simp [head_trim.l1])
        | succ k2 =>
          have H := HA.out
          clear HA
          simp only [head_trim.l1] at H
          by_cases c9 : x0_2.toList = ([] : List UInt8)
          · rw [if_pos c9] at H
            have c9b0 : (x0_2.toList == ([] : List UInt8)) = true := beq_iff_eq.mpr c9
            have c9b1 : (x0_2.toList != ([] : List UInt8)) = false := bne_eq_false_iff_eq.mpr c9
            clear c9
            obtain rfl := Option.some.inj H
            go_wp2
            go_ret
            exact ⟨by first | rfl | (simp; done) | (simp [*]; done) | (simp; exact Leaf.ne_nil_bool _) | (simp; rw [IntKind.wrap_u8]; exact congrArg (fun z => bits BinOp.or IntKind.i64 z _ % 256) (by unfold wrap64; exact IntKind.wrap_i64 _)), by repeat (first | exact Drawn0.refl _ | apply Drawn0.step)⟩
          · rw [if_neg c9] at H
            have c9b0 : (x0_2.toList == ([] : List UInt8)) = false := beq_eq_false_iff_ne.mpr c9
            have c9b1 : (x0_2.toList != ([] : List UInt8)) = true := bne_iff_ne.mpr c9
            obtain ⟨ji10, hji10⟩ : ∃ j_ : Int, (wrap64 ((x0_2.size : Int) - 1)) = j_ := ⟨_, rfl⟩
            replace H : (if 0 ≤ (ji10) then (if (ji10) < (x0_2.size : Int) then ((head_blank.f (bt x0_2 (ji10))).bind fun t116 => (if t116 = true then (if (ji10) ≤ (x0_2.size : Int) then (head_trim.l1 k2 (x0_2.extract 0 ((ji10) : Int).toNat)) else (none)) else (some x0_2))) else (none)) else (none)) = some r := by first | (rw [hji10] at H; exact H) | (simp only [hji10] at H ⊢; exact H)
            have hji10w : (IntKind.i64.wrap ((x0_2.size : Int) - 1)) = ji10 := (i64_w _).trans hji10
            by_cases c11 : 0 ≤ (ji10)
            · rw [if_pos c11] at H
              have c11b0 : decide (0 ≤ (ji10)) = true := decide_eq_true c11
              clear c11
              by_cases c12 : (ji10) < (x0_2.size : Int)
              · rw [if_pos c12] at H
                have c12b0 : decide ((ji10) < (x0_2.size : Int)) = true := decide_eq_true c12
                clear c12
                replace H := Option.bind_eq_some_iff.mp H
                obtain ⟨t116, A140, H⟩ := H
                replace H : (if t116 = true then (if (ji10) ≤ (x0_2.size : Int) then (head_trim.l1 k2 (x0_2.extract 0 ((ji10) : Int).toNat)) else (none)) else (some x0_2)) = some r := H
                have A14 := Aside0.mk A140
                clear A140
                by_cases c15 : t116 = true
                · subst c15
                  have H1 : (if (ji10) ≤ (x0_2.size : Int) then (head_trim.l1 k2 (x0_2.extract 0 ((ji10) : Int).toNat)) else (none)) = some r := by rw [if_pos rfl] at H; exact H
                  clear H
                  have H := H1
                  clear H1
                  have c16b0 := eq_true (of_decide_eq_true (by first | (with_reducible assumption) | assumption) : 0 ≤ (ji10))
                  by_cases c17 : (ji10) ≤ (x0_2.size : Int)
                  · rw [if_pos c17] at H
                    have c17b0 := eq_true c17
                    have c17b1 : decide ((ji10) ≤ (x0_2.size : Int)) = true := decide_eq_true c17
                    clear c17
                    have H' := Aside0.mk H
                    clear H
                    have p13 : 0 ≤ ((ji10) : Int) := of_decide_eq_true (by first | (with_reducible assumption) | assumption)
                    have q13 : (ji10) < (x0_2.size : Int) := of_decide_eq_true (by first | (with_reducible assumption) | assumption)
                    have hx13 := bt_at x0_2 (ji10)
                    replace p13 := eq_true p13
                    replace q13 := eq_true q13
                    go_wp2_with (first | (go_at_call 50; (with_reducible refine (head_blank.calls (bt x0_2 (ji10)) true _ A14.out).mono ?_); rintro e w' ⟨rfl, ⟨nd, rfl⟩⟩))
                    go_roundg k2
                    case measure => have := HJ1.out; have := HK2.out; omega
                    case rel => exact ⟨(x0_2.extract 0 ((ji10) : Int).toNat), (by first | rfl | (simp; done) | (simp only [← hji10] <;> (first | rfl | simp)) | (simp [*]; done)), H', ⟨by have := HJ1.out; have := HK2.out; omega⟩, by repeat (first | exact Drawn0.refl _ | apply Drawn0.step)⟩
                  · rw [if_neg c17] at H
                    exact absurd H (by simp)
                · replace c15 := Bool.eq_false_iff.mpr c15
                  subst c15
                  have H1 : (some x0_2) = some r := by rw [if_neg (show ¬ (false = true) by decide)] at H; exact H
                  clear H
                  have H := H1
                  clear H1
                  obtain rfl := Option.some.inj H
                  have p13 : 0 ≤ ((ji10) : Int) := of_decide_eq_true (by first | (with_reducible assumption) | assumption)
                  have q13 : (ji10) < (x0_2.size : Int) := of_decide_eq_true (by first | (with_reducible assumption) | assumption)
                  have hx13 := bt_at x0_2 (ji10)
                  replace p13 := eq_true p13
                  replace q13 := eq_true q13
                  go_wp2_with (first | (go_at_call 50; (with_reducible refine (head_blank.calls (bt x0_2 (ji10)) false _ A14.out).mono ?_); rintro e w' ⟨rfl, ⟨nd, rfl⟩⟩))
                  go_ret
                  exact ⟨by first | rfl | (simp; done) | (simp only [← hji10] <;> (first | rfl | simp)) | (simp [*]; done), by repeat (first | exact Drawn0.refl _ | apply Drawn0.step)⟩
              · rw [if_neg c12] at H
                exact absurd H (by simp)
            · rw [if_neg c11] at H
              exact absurd H (by simp)

/-! ### head_List: function 21 -/
mutual
def head_List.l0 : Nat → List ByteArray → List ByteArray → Int → Int → Option (List ByteArray)
  | 0, _, _, _, _ => none
  | k + 1, x5, x12, x13, x14 => if x14 < x13 then (if 0 ≤ x14 then (if x14 < (x12.length : Int) then ((head_cut.f k (rdOf ByteArray.empty x12 x14)).bind fun t121 => (head_List.l1 k x5 x12 x13 x14 t121 (t121.length : Int) 0)) else (none)) else (none)) else (some x5)
def head_List.l1 : Nat → List ByteArray → List ByteArray → Int → Int → List ByteArray → Int → Int → Option (List ByteArray)
  | 0, _, _, _, _, _, _, _ => none
  | k + 1, x5, x12, x13, x14, x19, x20, x21 => if x21 < x20 then (if 0 ≤ x21 then (if x21 < (x19.length : Int) then ((head_trim.f k (rdOf ByteArray.empty x19 x21)).bind fun t125 => (if t125.toList = ([] : List UInt8) then (head_List.l1 k x5 x12 x13 x14 x19 x20 (wrap64 (x21 + 1))) else (if x5.length < 8796093022208 then (head_List.l1 k (x5 ++ [t125]) x12 x13 x14 x19 x20 (wrap64 (x21 + 1))) else (none)))) else (none)) else (none)) else (head_List.l0 k x5 x12 x13 (wrap64 (x14 + 1)))
end
def head_List.f (k : Nat) (l0 : List (S38)) (a1 : ByteArray) : Option (List ByteArray) := (head_All.f k l0 a1).bind fun t117 => (head_List.l0 k ([] : List ByteArray) t117 (t117.length : Int) 0)
theorem head_List.mono_l : ∀ k, (∀ y0 y1 y2 y3, LeO (head_List.l0 k y0 y1 y2 y3) (head_List.l0 (k + 1) y0 y1 y2 y3)) ∧ (∀ y0 y1 y2 y3 y4 y5 y6, LeO (head_List.l1 k y0 y1 y2 y3 y4 y5 y6) (head_List.l1 (k + 1) y0 y1 y2 y3 y4 y5 y6))
  | 0 => ⟨fun _ _ _ _ r h => by simp [head_List.l0] at h, fun _ _ _ _ _ _ _ r h => by simp [head_List.l1] at h⟩
  | k + 1 => by
    obtain ⟨ih0, ih1⟩ := head_List.mono_l k
    refine ⟨?_, ?_⟩
    · intro y0 y1 y2 y3
      unfold head_List.l0
      repeat' first
      | (with_reducible exact ih0 _ _ _ _)
      | (with_reducible exact ih1 _ _ _ _ _ _ _)
      | (with_reducible exact head_All.mono _ _ _)
      | (with_reducible exact head_cut.mono _ _)
      | (with_reducible exact head_trim.mono _ _)
      | (with_reducible exact LeO.refl _)
      | (with_reducible exact LeO.none _)
      | (with_reducible refine LeO.ite ?_ ?_)
      | (with_reducible refine LeO.bind ?_ (fun _ => ?_))
      | exact ih0 _ _ _ _
      | exact ih1 _ _ _ _ _ _ _
      | exact head_All.mono _ _ _
      | exact head_cut.mono _ _
      | exact head_trim.mono _ _
      | exact LeO.none _
      | refine LeO.ite ?_ ?_
      | refine LeO.bind ?_ (fun _ => ?_)
    · intro y0 y1 y2 y3 y4 y5 y6
      unfold head_List.l1
      repeat' first
      | (with_reducible exact ih0 _ _ _ _)
      | (with_reducible exact ih1 _ _ _ _ _ _ _)
      | (with_reducible exact head_All.mono _ _ _)
      | (with_reducible exact head_cut.mono _ _)
      | (with_reducible exact head_trim.mono _ _)
      | (with_reducible exact LeO.refl _)
      | (with_reducible exact LeO.none _)
      | (with_reducible refine LeO.ite ?_ ?_)
      | (with_reducible refine LeO.bind ?_ (fun _ => ?_))
      | exact ih0 _ _ _ _
      | exact ih1 _ _ _ _ _ _ _
      | exact head_All.mono _ _ _
      | exact head_cut.mono _ _
      | exact head_trim.mono _ _
      | exact LeO.none _
      | refine LeO.ite ?_ ?_
      | refine LeO.bind ?_ (fun _ => ?_)
theorem head_List.mono : ∀ a0 a1 k, LeO (head_List.f k a0 a1) (head_List.f (k + 1) a0 a1) := by
  intro a0 a1 k
  obtain ⟨ih0, ih1⟩ := head_List.mono_l k
  unfold head_List.f
  repeat' first
      | (with_reducible exact ih0 _ _ _ _)
      | (with_reducible exact ih1 _ _ _ _ _ _ _)
      | (with_reducible exact head_All.mono _ _ _)
      | (with_reducible exact head_cut.mono _ _)
      | (with_reducible exact head_trim.mono _ _)
      | (with_reducible exact LeO.refl _)
      | (with_reducible exact LeO.none _)
      | (with_reducible refine LeO.ite ?_ ?_)
      | (with_reducible refine LeO.bind ?_ (fun _ => ?_))
      | exact ih0 _ _ _ _
      | exact ih1 _ _ _ _ _ _ _
      | exact head_All.mono _ _ _
      | exact head_cut.mono _ _
      | exact head_trim.mono _ _
      | exact LeO.none _
      | refine LeO.ite ?_ ?_
      | refine LeO.bind ?_ (fun _ => ?_)
set_option maxHeartbeats 8000000 in
set_option maxRecDepth 100000 in
theorem head_List.calls (k : Nat) (A0 : Option Addr) (c0 : Nat) (l0 : List (S38)) (a1 : ByteArray) (r : List ByteArray) (w : World) (hr0 : Kd.C k38 w A0 l0.length l0) (hc0 : l0.length ≤ c0) (h : head_List.f k l0 a1 = some r) :
    Calls Try.prog 21 #[.slice A0 l0.length c0, .string a1] w fun e w' => ∃ v0_ : Value, e = .returned (v0_) ∧ Kd.R Kd.string 9 w' w.heap.size (fun _ => True) v0_ r ∧ Below w.heap.size w w' := by
  have HR0 := Aside0.mk hr0
  have HC0 := Aside0.mk hc0
  clear hr0 hc0
  have HB := Aside0.mk (Below.refl w.heap.size w)
  have H : ((head_All.f k l0 a1).bind fun t117 => (head_List.l0 k ([] : List ByteArray) t117 (t117.length : Int) 0)) = some r := h
  clear h
  replace H := Option.bind_eq_some_iff.mp H
  obtain ⟨t117, A30, H⟩ := H
  replace H : (head_List.l0 k ([] : List ByteArray) t117 (t117.length : Int) 0) = some r := H
  have A3 := Aside0.mk A30
  clear A30
  have H' := Aside0.mk H
  clear H
  go_enter Try.func21, Try.ntmps21
  go_wp2_with (first | ((with_reducible refine gate_callee (f := 28) rfl ?_); refine goesL_ (some 12) rfl rfl Try.func28 (by kernel_rfl) rfl #[.slice A0 l0.length c0, .string a1] rfl (by (try simp only [List.map_toArray, List.map_cons, List.map_nil]); first | done | rfl | (simp only [List.length_drop, List.length_take]; rfl)) ?_; (with_reducible refine (head_All.calls k _ _ l0 a1 t117 _ ?side1 ?side2 A3.out).mono ?_); (case side1 => repeat (first | exact HR0.out | (with_reducible refine Kd.C_alloc ?_ _) | (with_reducible refine Kd.C_drewN ?_ _) | (with_reducible refine Kd.C_drew ?_))); (case side2 => exact HC0.out); rintro e w4 ⟨v118, rfl, ho0, hb⟩; refine ⟨_, rfl, ?_⟩; have n0_ := Aside0.mk (Kd.R_lower ho0 (below_size (by repeat (first | (with_reducible first | exact HB.out | apply below_alloc | apply pw_below_drewN | apply below_drew1) | exact HB.out)))); have n1_ := Aside0.mk (below_step (by repeat (first | (with_reducible first | exact HB.out | apply below_alloc | apply pw_below_drewN | apply below_drew1) | exact HB.out)) hb); clear HB; have HO119 := n0_; have HB := n1_; clear n0_ n1_; (try clear hb); (try clear hb2); (try clear hk); (try clear hi); (try clear ho0); obtain ⟨Ao5, co5, eo5⟩ := Kd.R_slice HO119.out; subst eo5))
  go_loopg [5, 14] k (fun kq v5 v14 w' => ∃ (x5_1 : List ByteArray) (x14_1 : Int), v14 = .int .i64 x14_1 ∧ Aside0 (head_List.l0 kq x5_1 t117 (t117.length : Int) x14_1 = some r) ∧ Aside0 (kq ≤ k) ∧ Aside0 (Kd.R Kd.string 9 w' w.heap.size (fun k_ => some k_ ≠ ((.slice Ao5 t117.length co5) : Value).ownBlock) v5 x5_1) ∧ Aside0 (Kd.R Kd.string 9 w' w.heap.size (fun k_ => some k_ ≠ (v5 : Value).ownBlock) (.slice Ao5 t117.length co5) t117) ∧ Aside0 (Below w.heap.size w w'))
  case atStart => exact ⟨(([] : List ByteArray)), (0), (by first | rfl | (simp; done) | (simp [*]; done)), H', ⟨Nat.le_refl _⟩, ⟨by first | exact Kd.R_nil _ _ _ _ _ | exact Kd.N_nil _ _ _ _ _ | exact Kd.V_nil _ _ _ _ _ | exact Kd.Q_nil _ _ _ _ _ | exact Kd.S_nil _ _ _ _ _⟩, ⟨by (with_reducible repeat (first | apply Kd.R_alloc | apply Kd.R_drewN | apply Kd.R_drew)); exact Kd.R_mono HO119.out (fun _ hk => (by simp [Value.ownBlock]))⟩, ⟨by repeat (first | (with_reducible first | exact HB.out | apply below_alloc | apply pw_below_drewN | apply below_drew1) | exact HB.out)⟩⟩
  case round =>
    clear H'
    try clear c2
    try clear p2
    obtain ⟨x5_1, x14_1, rfl, HA, HK1, HO_5, HO_12, HB⟩ := hrel
    cases gk with
    | zero => exact absurd HA.out (by simp [head_List.l0])
    | succ k1 =>
      have H := HA.out
      clear HA
      simp only [head_List.l0] at H
      by_cases c6 : x14_1 < (t117.length : Int)
      · rw [if_pos c6] at H
        have c6b0 : decide (x14_1 < (t117.length : Int)) = true := decide_eq_true c6
        clear c6
        by_cases c7 : 0 ≤ x14_1
        · rw [if_pos c7] at H
          have c7b0 : decide (0 ≤ x14_1) = true := decide_eq_true c7
          clear c7
          by_cases c8 : x14_1 < (t117.length : Int)
          · rw [if_pos c8] at H
            have c8b0 : decide (x14_1 < (t117.length : Int)) = true := decide_eq_true c8
            clear c8
            replace H := Option.bind_eq_some_iff.mp H
            obtain ⟨t121, A90, H⟩ := H
            replace H : (head_List.l1 k1 x5_1 t117 (t117.length : Int) x14_1 t121 (t121.length : Int) 0) = some r := H
            have A9 := Aside0.mk A90
            clear A90
            have H' := Aside0.mk H
            clear H
            have p120 : 0 ≤ (x14_1 : Int) := of_decide_eq_true (by first | (with_reducible assumption) | assumption)
            have q120 : x14_1 < (t117.length : Int) := of_decide_eq_true (by first | (with_reducible assumption) | assumption)
            obtain ⟨ad120, e120, hx120_0⟩ := Kd.at_string (Kd.R_reads' HO_12.out).2.2 x14_1 p120 q120
            cases e120
            replace p120 := eq_true p120
            replace q120 := eq_true q120
            go_wp2_with (first | ((with_reducible refine gate_callee (f := 36) rfl ?_); refine goesL_ (some 19) rfl rfl Try.func36 (by kernel_rfl) rfl #[.string (rdOf ByteArray.empty t117 x14_1)] rfl (by (try simp only [List.map_toArray, List.map_cons, List.map_nil]); first | done | rfl | (simp only [List.length_drop, List.length_take]; rfl)) ?_; (with_reducible refine (head_cut.calls k1 (rdOf ByteArray.empty t117 x14_1) t121 _ A9.out).mono ?_); rintro e w10 ⟨v122, rfl, ho0, hb⟩; refine ⟨_, rfl, ?_⟩; have n0_ := Aside0.mk (Kd.R_elder' (by (with_reducible repeat (first | apply Kd.R_alloc | apply Kd.R_drewN | apply Kd.R_drew)); exact HO_5.out) (Kd.R_base ho0) hb); have n1_ := Aside0.mk (Kd.R_elder' (by (with_reducible repeat (first | apply Kd.R_alloc | apply Kd.R_drewN | apply Kd.R_drew)); exact HO_12.out) (Kd.R_base ho0) hb); have n2_ := Aside0.mk (Kd.R_lower (Kd.R_new' (Kd.R_new' ho0 (Kd.R_lt (by (with_reducible repeat (first | apply Kd.R_alloc | apply Kd.R_drewN | apply Kd.R_drew)); exact HO_5.out))) (Kd.R_lt (by (with_reducible repeat (first | apply Kd.R_alloc | apply Kd.R_drewN | apply Kd.R_drew)); exact HO_12.out))) (below_size (by repeat (first | (with_reducible first | exact HB.out | apply below_alloc | apply pw_below_drewN | apply below_drew1) | exact HB.out)))); have n3_ := Aside0.mk (below_step (by repeat (first | (with_reducible first | exact HB.out | apply below_alloc | apply pw_below_drewN | apply below_drew1) | exact HB.out)) hb); clear HO_5; clear HO_12; clear HB; have HO_5 := n0_; have HO_12 := n1_; have HO123 := n2_; have HB := n3_; clear n0_ n1_ n2_ n3_; (try clear hb); (try clear hb2); (try clear hk); (try clear hi); (try clear ho0); obtain ⟨Ao11, co11, eo11⟩ := Kd.R_slice HO123.out; subst eo11))
            go_loopg [5, 21] k1 (fun kq v5 v21 w' => ∃ (x5_2 : List ByteArray) (x21_2 : Int), v21 = .int .i64 x21_2 ∧ Aside0 (head_List.l1 kq x5_2 t117 (t117.length : Int) x14_1 t121 (t121.length : Int) x21_2 = some r) ∧ Aside0 (kq ≤ k1) ∧ Aside0 (Kd.R Kd.string 9 w' w.heap.size (fun k_ => some k_ ≠ ((.slice (some ad120) t117.length co5) : Value).ownBlock ∧ some k_ ≠ ((.slice Ao11 t121.length co11) : Value).ownBlock) v5 x5_2) ∧ Aside0 (Kd.R Kd.string 9 w' w.heap.size (fun k_ => some k_ ≠ (v5 : Value).ownBlock ∧ some k_ ≠ ((.slice Ao11 t121.length co11) : Value).ownBlock) (.slice (some ad120) t117.length co5) t117) ∧ Aside0 (Kd.R Kd.string 9 w' w.heap.size (fun k_ => some k_ ≠ (v5 : Value).ownBlock ∧ some k_ ≠ ((.slice (some ad120) t117.length co5) : Value).ownBlock) (.slice Ao11 t121.length co11) t121) ∧ Aside0 (Below w.heap.size w w'))
            case atStart => exact ⟨(x5_1), (0), (by first | rfl | (simp; done) | (simp [*]; done)), H', ⟨Nat.le_refl _⟩, ⟨by (with_reducible repeat (first | apply Kd.R_alloc | apply Kd.R_drewN | apply Kd.R_drew)); exact HO_5.out⟩, ⟨by (with_reducible repeat (first | apply Kd.R_alloc | apply Kd.R_drewN | apply Kd.R_drew)); exact HO_12.out⟩, ⟨by (with_reducible repeat (first | apply Kd.R_alloc | apply Kd.R_drewN | apply Kd.R_drew)); exact Kd.R_mono HO123.out (fun _ hk => ⟨hk.1.2, hk.2⟩)⟩, ⟨by repeat (first | (with_reducible first | exact HB.out | apply below_alloc | apply pw_below_drewN | apply below_drew1) | exact HB.out)⟩⟩
            case round =>
              clear H'
              try clear p1
              try clear q1
              try clear hx1
              try clear c2
              try clear p2
              try clear c3
              try clear c6
              try clear c6b0
              try clear c7
              try clear c7b0
              try clear c8
              try clear c8b0
              try clear hx120_0
              try clear p120
              try clear p2
              try clear q120
              obtain ⟨x5_2, x21_2, rfl, HA, HK2, HO_5, HO_12, HO_19, HB⟩ := hrel
              cases gk with
              | zero => exact absurd HA.out (by simp [head_List.l1])
              | succ k2 =>
                have H := HA.out
                clear HA
                simp only [head_List.l1] at H
                by_cases c12 : x21_2 < (t121.length : Int)
                · rw [if_pos c12] at H
                  have c12b0 : decide (x21_2 < (t121.length : Int)) = true := decide_eq_true c12
                  clear c12
                  by_cases c13 : 0 ≤ x21_2
                  · rw [if_pos c13] at H
                    have c13b0 : decide (0 ≤ x21_2) = true := decide_eq_true c13
                    clear c13
                    by_cases c14 : x21_2 < (t121.length : Int)
                    · rw [if_pos c14] at H
                      have c14b0 : decide (x21_2 < (t121.length : Int)) = true := decide_eq_true c14
                      clear c14
                      replace H := Option.bind_eq_some_iff.mp H
                      obtain ⟨t125, A150, H⟩ := H
                      replace H : (if t125.toList = ([] : List UInt8) then (head_List.l1 k2 x5_2 t117 (t117.length : Int) x14_1 t121 (t121.length : Int) (wrap64 (x21_2 + 1))) else (if x5_2.length < 8796093022208 then (head_List.l1 k2 (x5_2 ++ [t125]) t117 (t117.length : Int) x14_1 t121 (t121.length : Int) (wrap64 (x21_2 + 1))) else (none))) = some r := H
                      have A15 := Aside0.mk A150
                      clear A150
                      by_cases c16 : t125.toList = ([] : List UInt8)
                      · rw [if_pos c16] at H
                        have c16b0 : (t125.toList == ([] : List UInt8)) = true := beq_iff_eq.mpr c16
                        have c16b1 : (t125.toList != ([] : List UInt8)) = false := bne_eq_false_iff_eq.mpr c16
                        clear c16
                        have H' := Aside0.mk H
                        clear H
                        have p124 : 0 ≤ (x21_2 : Int) := of_decide_eq_true (by first | (with_reducible assumption) | assumption)
                        have q124 : x21_2 < (t121.length : Int) := of_decide_eq_true (by first | (with_reducible assumption) | assumption)
                        obtain ⟨ad124, e124, hx124_0⟩ := Kd.at_string (Kd.R_reads' HO_19.out).2.2 x21_2 p124 q124
                        cases e124
                        replace p124 := eq_true p124
                        replace q124 := eq_true q124
                        go_wp2_with (first | ((with_reducible refine gate_callee (f := 37) rfl ?_); refine goesL_ (some 26) rfl rfl Try.func37 (by kernel_rfl) rfl #[.string (rdOf ByteArray.empty t121 x21_2)] rfl (by (try simp only [List.map_toArray, List.map_cons, List.map_nil]); first | done | rfl | (simp only [List.length_drop, List.length_take]; rfl)) ?_; (with_reducible refine (head_trim.calls k2 (rdOf ByteArray.empty t121 x21_2) t125 _ A15.out).mono ?_); rintro e w' ⟨rfl, ⟨nd, rfl⟩⟩; refine ⟨_, rfl, ?_⟩))
                        go_roundg k2
                        case measure => have := HK1.out; have := HK2.out; omega
                        case rel => exact ⟨(x5_2), (wrap64 (x21_2 + 1)), (by first | rfl | (simp; done) | (simp [*]; done)), H', ⟨by have := HK1.out; have := HK2.out; omega⟩, ⟨by (with_reducible repeat (first | apply Kd.R_alloc | apply Kd.R_drewN | apply Kd.R_drew)); exact HO_5.out⟩, ⟨by (with_reducible repeat (first | apply Kd.R_alloc | apply Kd.R_drewN | apply Kd.R_drew)); exact HO_12.out⟩, ⟨by (with_reducible repeat (first | apply Kd.R_alloc | apply Kd.R_drewN | apply Kd.R_drew)); exact HO_19.out⟩, ⟨by repeat (first | (with_reducible first | exact HB.out | apply below_alloc | apply pw_below_drewN | apply below_drew1) | exact HB.out)⟩⟩
                      · rw [if_neg c16] at H
                        have c16b0 : (t125.toList == ([] : List UInt8)) = false := beq_eq_false_iff_ne.mpr c16
                        have c16b1 : (t125.toList != ([] : List UInt8)) = true := bne_iff_ne.mpr c16
                        by_cases c17 : x5_2.length < 8796093022208
                        · rw [if_pos c17] at H
                          have LMc17 := Aside0.mk c17
                          clear c17
                          obtain ⟨y126, hy126⟩ : ∃ y_ : List ByteArray, y_ = (x5_2 ++ [t125]) := ⟨_, rfl⟩
                          replace H : (head_List.l1 k2 y126 t117 (t117.length : Int) x14_1 t121 (t121.length : Int) (wrap64 (x21_2 + 1))) = some r := by first | (rw [hy126]; with_reducible exact H) | (have H2_ := (Option.bind_some _ _).symm.trans H; rw [hy126]; with_reducible exact H2_) | (have H2_ := (Option.bind_some _ _).symm.trans H; with_reducible exact H2_) | with_reducible exact H | (rw [hy126]; exact H) | exact H
                          have Ny126 := Aside0.mk hy126
                          clear hy126
                          have H' := Aside0.mk H
                          clear H
                          have p124 : 0 ≤ (x21_2 : Int) := of_decide_eq_true (by first | (with_reducible assumption) | assumption)
                          have q124 : x21_2 < (t121.length : Int) := of_decide_eq_true (by first | (with_reducible assumption) | assumption)
                          obtain ⟨ad124, e124, hx124_0⟩ := Kd.at_string (Kd.R_reads' HO_19.out).2.2 x21_2 p124 q124
                          cases e124
                          replace p124 := eq_true p124
                          replace q124 := eq_true q124
                          go_wp2_with (first | ((with_reducible refine gate_callee (f := 37) rfl ?_); refine goesL_ (some 26) rfl rfl Try.func37 (by kernel_rfl) rfl #[.string (rdOf ByteArray.empty t121 x21_2)] rfl (by (try simp only [List.map_toArray, List.map_cons, List.map_nil]); first | done | rfl | (simp only [List.length_drop, List.length_take]; rfl)) ?_; (with_reducible refine (head_trim.calls k2 (rdOf ByteArray.empty t121 x21_2) t125 _ A15.out).mono ?_); rintro e w' ⟨rfl, ⟨nd, rfl⟩⟩; refine ⟨_, rfl, ?_⟩) | ((with_reducible refine gate_builtin (b := .append) (xs := #[.tmp 29, .tmp 31]) rfl ?_); at_builtin; refine Kd.R_append Kd.string (w0 := w) w.heap.size rfl (.tmp 29) (.tmp 31) 29 9 (.string ⟨#[]⟩) 16 rfl Try.underlying29 info9 rfl (by decide) (by omega) u5 x5_2 t125 [.string t125] (fun k_ => some k_ ≠ (.slice (some ad120) t117.length co5 : Value).ownBlock ∧ some k_ ≠ (.slice (some ad124) t121.length co11 : Value).ownBlock) (fun _ => False) rfl rfl ?aP (fun _ hk => hk.elim) ?aF ?aO ?aB ?aS ?aL ?_; (case aP => exact rfl); (case aB => exact (by repeat (first | (with_reducible first | exact HB.out | apply below_alloc | apply pw_below_drewN | apply below_drew1) | exact HB.out))); (case aF => exact (fun k_ hk => ⟨Kd.fresh' (Kd.R_lt (by (with_reducible repeat (first | apply Kd.R_alloc | apply Kd.R_drewN | apply Kd.R_drew)); exact HO_12.out)) k_ hk, Kd.fresh' (Kd.R_lt (by (with_reducible repeat (first | apply Kd.R_alloc | apply Kd.R_drewN | apply Kd.R_drew)); exact HO_19.out)) k_ hk⟩)); (case aO => exact (by (with_reducible repeat (first | apply Kd.R_alloc | apply Kd.R_drewN | apply Kd.R_drew)); exact HO_5.out)); (case aS => exact (below_size (by repeat (first | (with_reducible first | exact HB.out | apply below_alloc | apply pw_below_drewN | apply below_drew1) | exact HB.out)))); (case aL => have := LMc17.out; omega); intro v127 w18 ho hb hg hat; rw [← Ny126.out] at ho; have n0_ := Aside0.mk (Kd.R_after (ok := (fun k_ => some k_ ≠ (.slice (some ad124) t121.length co11 : Value).ownBlock)) (by (with_reducible repeat (first | apply Kd.R_alloc | apply Kd.R_drewN | apply Kd.R_drew)); exact Kd.R_mono HO_12.out (fun _ hk => ⟨hk.2, hk.1⟩)) hg hat); have n1_ := Aside0.mk (Kd.R_after (ok := (fun k_ => some k_ ≠ (.slice (some ad120) t117.length co5 : Value).ownBlock)) (by (with_reducible repeat (first | apply Kd.R_alloc | apply Kd.R_drewN | apply Kd.R_drew)); exact Kd.R_mono HO_19.out (fun _ hk => ⟨hk.2, hk.1⟩)) hg hat); have n2_ := Aside0.mk (hb); have n3_ := Aside0.mk (ho); clear HO_12; clear HO_19; clear HB; clear HO_5; have HO_12 := n0_; have HO_19 := n1_; have HB := n2_; have HO128 := n3_; clear n0_ n1_ n2_ n3_; clear ho hb hg hat))
                          go_roundg k2
                          case measure => have := HK1.out; have := HK2.out; omega
                          case rel => exact ⟨(y126), (wrap64 (x21_2 + 1)), (by first | rfl | (simp; done) | (simp [*]; done)), H', ⟨by have := HK1.out; have := HK2.out; omega⟩, ⟨by (with_reducible repeat (first | apply Kd.R_alloc | apply Kd.R_drewN | apply Kd.R_drew)); exact HO128.out⟩, ⟨by (with_reducible repeat (first | apply Kd.R_alloc | apply Kd.R_drewN | apply Kd.R_drew)); exact Kd.R_mono HO_12.out (fun _ hk => ⟨hk.2, hk.1⟩)⟩, ⟨by (with_reducible repeat (first | apply Kd.R_alloc | apply Kd.R_drewN | apply Kd.R_drew)); exact Kd.R_mono HO_19.out (fun _ hk => ⟨hk.2, hk.1⟩)⟩, ⟨by repeat (first | (with_reducible first | exact HB.out | apply below_alloc | apply pw_below_drewN | apply below_drew1) | exact HB.out)⟩⟩
                        · rw [if_neg c17] at H
                          exact absurd H (by simp)
                    · rw [if_neg c14] at H
                      exact absurd H (by simp)
                  · rw [if_neg c13] at H
                    exact absurd H (by simp)
                · rw [if_neg c12] at H
                  have c12b0 : decide (x21_2 < (t121.length : Int)) = false := decide_eq_false c12
                  clear c12
                  have H' := Aside0.mk H
                  clear H
                  go_wp2
                  go_roundg k2
                  case measure => have := HK1.out; have := HK2.out; omega
                  case rel => exact ⟨(x5_2), (wrap64 (x14_1 + 1)), (by first | rfl | (simp; done) | (simp [*]; done)), H', ⟨by have := HK1.out; have := HK2.out; omega⟩, ⟨by (with_reducible repeat (first | apply Kd.R_alloc | apply Kd.R_drewN | apply Kd.R_drew)); exact Kd.R_mono HO_5.out (fun _ hk => hk.1)⟩, ⟨by (with_reducible repeat (first | apply Kd.R_alloc | apply Kd.R_drewN | apply Kd.R_drew)); exact Kd.R_mono HO_12.out (fun _ hk => hk.1)⟩, ⟨by repeat (first | (with_reducible first | exact HB.out | apply below_alloc | apply pw_below_drewN | apply below_drew1) | exact HB.out)⟩⟩
          · rw [if_neg c8] at H
            exact absurd H (by simp)
        · rw [if_neg c7] at H
          exact absurd H (by simp)
      · rw [if_neg c6] at H
        have c6b0 : decide (x14_1 < (t117.length : Int)) = false := decide_eq_false c6
        clear c6
        obtain rfl := Option.some.inj H
        go_wp2
        go_ret
        exact ⟨_, by first | rfl | (simp [errW_none, errW_some] <;> rfl) | (simp [*, errW_none, errW_some] <;> rfl), by (with_reducible repeat (first | apply Kd.R_alloc | apply Kd.R_drewN | apply Kd.R_drew)); exact Kd.R_mono HO_5.out (fun _ hk => trivial), by repeat (first | (with_reducible first | exact HB.out | apply below_alloc | apply pw_below_drewN | apply below_drew1) | exact HB.out)⟩

/-! ### vary_small: function 22 -/
-- FOR ambry/vary.small
-- MAKING
def vary_small.f (a0 : ByteArray) : Option (ByteArray) := if a0.size ≤ 140737488355328 then some (strOfNums ((bytesOf a0).map Leaf.lowC)) else none
theorem vary_small.next (X : List Int) (k : Nat) (hk : k < X.length) : ((X.take k).map Leaf.lowC ++ X.drop k).set k (Leaf.lowC (X.getD k 0)) = (X.take (k + 1)).map Leaf.lowC ++ X.drop (k + 1) := by
  have hl : ((X.take k).map Leaf.lowC).length = k := by rw [List.length_map, List.length_take]; omega
  have hg : X.getD k 0 = X[k] := by rw [List.getD_eq_getElem?_getD, List.getElem?_eq_getElem hk]; rfl
  rw [List.set_append_right _ _ (by omega), hl, Nat.sub_self, List.drop_eq_getElem_cons hk, List.set_cons_zero, List.take_succ_eq_append_getElem hk, List.map_append, List.append_assoc, hg]
  rfl
theorem vary_small.stay (X : List Int) (k : Nat) (hk : k < X.length) (h : Leaf.lowC (X.getD k 0) = X.getD k 0) : ((X.take k).map Leaf.lowC ++ X.drop k) = (X.take (k + 1)).map Leaf.lowC ++ X.drop (k + 1) := by
  have hg : X.getD k 0 = X[k] := by rw [List.getD_eq_getElem?_getD, List.getElem?_eq_getElem hk]; rfl
  rw [hg] at h
  rw [List.drop_eq_getElem_cons hk, List.take_succ_eq_append_getElem hk, List.map_append, List.append_assoc, List.map_singleton, h]
  rfl
theorem vary_small.now (X : List Int) (k : Nat) (hk : k < X.length) : ((X.take k).map Leaf.lowC ++ X.drop k).getD k 0 = X.getD k 0 := by
  have hl : ((X.take k).map Leaf.lowC).length = k := by rw [List.length_map, List.length_take]; omega
  rw [List.getD_eq_getElem?_getD, List.getElem?_append_right (by omega), hl, Nat.sub_self, List.getElem?_drop, Nat.add_zero, List.getD_eq_getElem?_getD]
set_option maxHeartbeats 1000000 in
theorem vary_small.calls (a0 : ByteArray) (r : ByteArray) (w : World) (h : vary_small.f a0 = some r) :
    Calls Try.prog 22 #[.string a0] w fun e w' => e = .returned (.string r) ∧ Below w.heap.size w w' := by
  unfold vary_small.f at h
  split at h
  case isFalse => cases h
  rename_i hs
  obtain rfl := Option.some.inj h
  clear h
  have hl : (bytesOf a0).length = a0.size := bytesOf_length a0
  have hb : ∀ j : Nat, 0 ≤ (bytesOf a0).getD j 0 ∧ (bytesOf a0).getD j 0 ≤ 255 := fun j => by
    have e : bt a0 (j : Int) = (bytesOf a0).getD j 0 := by rw [← rd_bytesOf]; rfl
    rw [← e]
    exact bt_range a0 j
  have hr := Lib.hid (fun j (hj : j < a0.size) => And.intro (hb j) (And.intro (vary_small.now (bytesOf a0) j (by omega)) (And.intro (vary_small.next (bytesOf a0) j (by omega)) (vary_small.stay (bytesOf a0) j (by omega)))))
  clear hb
  have kb := fun W => print_bytes (P := Try.prog) 9 23 5 Try.underlying9 Try.underlying23 Try.underlying5 a0 W
  go_enter Try.func22, Try.ntmps22
  go_wp2
  have HB := Aside0.mk (Leaf.BRow.made w 5 a0)
  have HW := Aside0.mk (bytes_below (Below.refl w.heap.size w) (Nat.le_refl _) 5 a0)
  clear kb
  generalize Lib.bytesWorld w 5 a0 = W0 at HB HW ⊢
  generalize grownCap w a0.size 0 5 = cap0
  go_loopw [10] (fun v10 wr => ∃ k : Nat, k ≤ a0.size ∧ v10 = .int .i64 k ∧ Aside0 (Leaf.BRow wr 5 w.heap.size a0.size (((bytesOf a0).take k).map Leaf.lowC ++ (bytesOf a0).drop k)) ∧ Aside0 (Below w.heap.size w wr)) (fun v10 _ => a0.size - (intOf v10).toNat)
  case atStart => exact ⟨0, Nat.zero_le _, rfl, HB, HW⟩
  case round =>
    clear HB HW
    obtain ⟨k, hk, rfl, HB, HW⟩ := hrel
    by_cases hlt : k < a0.size
    · obtain ⟨⟨r0, r1⟩, hn, hx, hy⟩ := hr.out k hlt
      have hc := HB.out.cell k hlt
      rw [hn] at hc
      have hz := HB.out.free k hlt
      have HX := Aside0.mk hx
      have HY := Aside0.mk hy
      clear hn hx hy
      generalize (bytesOf a0).getD k 0 = c at hc HX HY r0 r1
      by_cases h65 : 65 ≤ c
      · by_cases h90 : c ≤ 90
        · have hlow : Leaf.lowC c = c + 32 := if_pos ⟨h65, h90⟩
          rw [hlow] at HX
          clear HY hlow
          go_wp2
          go_roundw
          case rel => exact ⟨k + 1, by omega, by go_num, ⟨by rw [← HX.out, show c + 97 - 65 = c + 32 by omega]; exact HB.out.set k hlt (c + 32)⟩, ⟨HW.out.setCell (Nat.le_refl _) _⟩⟩
          case measure => simp [intOf]; omega
        · have hlow : Leaf.lowC c = c := if_neg (fun h => h90 h.2)
          have HE := Aside0.mk (HY.out hlow)
          clear HX HY hlow
          go_wp2
          go_roundw
          case rel => exact ⟨k + 1, by omega, by go_num, ⟨by rw [← HE.out]; exact HB.out⟩, HW⟩
          case measure => simp [intOf]; omega
      · have hlow : Leaf.lowC c = c := if_neg (fun h => h65 h.1)
        have HE := Aside0.mk (HY.out hlow)
        clear HX HY hlow
        go_wp2
        go_roundw
        case rel => exact ⟨k + 1, by omega, by go_num, ⟨by rw [← HE.out]; exact HB.out⟩, HW⟩
        case measure => simp [intOf]; omega
    · have hk2 : k = a0.size := by omega
      have ks := HB.out.to_string (P := Try.prog) 23 9 cap0 Try.underlying23 Try.underlying5 Try.underlying9
      have e : (((bytesOf a0).take k).map Leaf.lowC ++ (bytesOf a0).drop k) = (bytesOf a0).map Leaf.lowC := by rw [List.take_of_length_le (by omega), List.drop_eq_nil_of_le (by omega), List.append_nil]
      rw [e] at ks
      clear e hk2
      go_wp2
      go_ret
      exact ⟨rfl, HW.out⟩

/-! ### vary_Names: function 10 -/
-- FOR ambry/vary.Names
-- NEEDS ambry/head.List; ambry/vary.small
-- MAKING
-- ROUNDS
def vary_Names.low (s : ByteArray) : ByteArray := strOfNums ((bytesOf s).map Leaf.lowC)
def vary_Names.star (s : ByteArray) : Bool := s.toList == ([42] : List UInt8)
def vary_Names.tell (l : List ByteArray) : List ByteArray × Bool := if l.any vary_Names.star = true then ([], true) else ((Lib.compact (Srt.inOrder ((l.map vary_Names.low).map fun s => s.data.toList))).map (fun x => ⟨x.toArray⟩), false)
def vary_Names.f (k : Nat) (a0_0 : Int) (a0_1 : ByteArray) (l0_2 : List (S38)) (l0_3 : List Int) : Option (List ByteArray × Bool) :=
  (head_List.f k l0_2 (⟨#[86, 97, 114, 121]⟩ : ByteArray)).bind fun t => if t.length ≤ 1000000 ∧ (∀ s ∈ t, s.size ≤ 140737488355328) then some (vary_Names.tell t) else none
theorem vary_Names.mono : ∀ a0 a1 a2 a3 k, LeO (vary_Names.f k a0 a1 a2 a3) (vary_Names.f (k + 1) a0 a1 a2 a3) := by
  intro a0 a1 a2 a3 k
  exact LeO.bind (head_List.mono _ _ _) (fun _ => LeO.refl _)
theorem vary_Names.take_low (L : List ByteArray) (k : Nat) (hk : k < L.length) : (L.take (k + 1)).map vary_Names.low = (L.take k).map vary_Names.low ++ [vary_Names.low (rdOf ByteArray.empty L (k : Int))] := by
  unfold rdOf
  rw [Int.toNat_natCast, List.take_succ_eq_append_getElem hk, List.map_append, List.getD_eq_getElem?_getD, List.getElem?_eq_getElem hk]; rfl
theorem vary_Names.rd_mem (L : List ByteArray) (k : Nat) (hk : k < L.length) : rdOf ByteArray.empty L (k : Int) ∈ L := by
  unfold rdOf
  rw [Int.toNat_natCast, List.getD_eq_getElem?_getD, List.getElem?_eq_getElem hk]
  exact List.getElem_mem hk
theorem vary_Names.unstar (L : List ByteArray) (h : ∀ j : Nat, j < L.length → vary_Names.star (rdOf ByteArray.empty L (j : Int)) = false) : L.any vary_Names.star = false := by
  rw [List.any_eq_false]
  intro x hx
  obtain ⟨j, hj⟩ := List.getElem?_of_mem hx
  have hl := (List.getElem?_eq_some_iff.1 hj).1
  have := h j hl
  unfold rdOf at this
  rw [Int.toNat_natCast, List.getD_eq_getElem?_getD, hj] at this
  simpa using this
theorem vary_Names.back (l : List (List UInt8)) : ((l.map fun x => (⟨x.toArray⟩ : ByteArray)).map fun s => s.data.toList) = l := by
  rw [List.map_map]
  conv => rhs; rw [← List.map_id l]
  exact List.map_congr_left fun x _ => rfl
set_option maxHeartbeats 4000000 in
theorem vary_Names.calls (k : Nat) (a0_0 : Int) (a0_1 : ByteArray) (A0_2 : Option Addr) (c0_2 : Nat) (l0_2 : List (S38)) (A0_3 : Option Addr) (c0_3 : Nat) (l0_3 : List Int) (r1 : List ByteArray) (r2 : Bool) (w : World) (hr0_2 : Kd.C k38 w A0_2 l0_2.length l0_2) (hc0_2 : l0_2.length ≤ c0_2) (hr0_3 : Kd.C (Kd.int .u8) w A0_3 l0_3.length l0_3) (hc0_3 : l0_3.length ≤ c0_3) (h : vary_Names.f k a0_0 a0_1 l0_2 l0_3 = some (r1, r2)) :
    Calls Try.prog 10 #[.agg #[.int .i64 a0_0, .string a0_1, .slice A0_2 l0_2.length c0_2, .slice A0_3 l0_3.length c0_3]] w fun e w' => ∃ v0_ : Value, e = .returned (.tuple #[v0_, .bool r2]) ∧ Kd.R Kd.string 9 w' w.heap.size (fun _ => True) v0_ r1 ∧ Below w.heap.size w w' := by
  unfold vary_Names.f at h
  obtain ⟨L, hL, h⟩ := Option.bind_eq_some_iff.mp h
  split at h
  case isFalse => cases h
  rename_i hs
  have h := Option.some.inj h
  have HL := Lib.hid hL
  have H := Lib.hid h
  have HR := Aside0.mk hr0_2
  have HC := Aside0.mk hc0_2
  have HS := Lib.hid hs.2
  have hlen := hs.1
  clear hL h hr0_2 hc0_2 hr0_3 hc0_3 hs
  go_enter Try.func10, Try.ntmps10
  have hsm := HL.out
  go_wp2_with fail
  refine (head_List.calls k A0_2 c0_2 l0_2 (⟨#[86, 97, 114, 121]⟩ : ByteArray) L _ (Kd.C_below HR.out (below_alloc (Below.refl _ _) _)) HC.out HL.out).mono ?_
  rintro e w1 ⟨v0, rfl, hR1, hB1⟩
  obtain ⟨A, c, rfl, hcl, hC1⟩ := Kd.R_reads hR1
  have HA := Aside0.mk (below_then (below_alloc (Below.refl w.heap.size w) _) (by simp) hB1 : Below w.heap.size w w1)
  have HC1 := Aside0.mk hC1
  clear hR1 hB1 hC1 hsm HR HC HL
  have hw1 := HA.out.size
  go_wp2
  go_loopw [4, 11] (fun v4 v11 wr => ∃ j : Nat, j ≤ L.length ∧ v11 = .int .i64 j ∧ Aside0 (∀ i : Nat, i < j → vary_Names.star (rdOf ByteArray.empty L (i : Int)) = false) ∧ Aside0 (Kd.R Kd.string 9 wr w1.heap.size (fun _ => True) v4 ((L.take j).map vary_Names.low)) ∧ Aside0 (Below w1.heap.size w1 wr)) (fun _ v11 _ => L.length - (intOf v11).toNat)
  case atStart => exact ⟨0, Nat.zero_le _, rfl, ⟨fun i hi => absurd hi (Nat.not_lt_zero i)⟩, ⟨Kd.R_nil _ _ _ _ _⟩, ⟨Below.refl _ _⟩⟩
  case round =>
    obtain ⟨j, hj, rfl, HU, HO, HB⟩ := hrel
    by_cases hlt : j < L.length
    · obtain ⟨ad, e0, hx⟩ := Kd.at_string (Kd.C_below HC1.out HB.out) (j : Int) (by omega) (by omega)
      cases e0
      rw [Int.toNat_natCast] at hx
      have hmem := HS.out _ (vary_Names.rd_mem L j hlt)
      have hnext := vary_Names.take_low L j hlt
      cases hst : vary_Names.star (rdOf ByteArray.empty L (j : Int)) with
      | true =>
        have hany : L.any vary_Names.star = true := List.any_eq_true.2 ⟨_, vary_Names.rd_mem L j hlt, hst⟩
        have hh := H.out
        unfold vary_Names.tell at hh
        rw [if_pos hany] at hh
        injection hh with h1 h2
        subst h1
        subst h2
        have hst2 : ((rdOf ByteArray.empty L (j : Int)).toList == ([42] : List UInt8)) = true := hst
        generalize rdOf ByteArray.empty L (j : Int) = x at hx hst2
        clear hany hst hmem hnext
        have hx2 : (x.toList = ([42] : List UInt8)) = True := eq_true (beq_iff_eq.mp hst2)
        go_wp2
        go_ret2
        exact ⟨_, rfl, Kd.R_nil _ _ _ _ _, HA.out.trans (Below.mono HB.out hw1)⟩
      | false =>
        have HU2 := Aside0.mk (show ∀ i : Nat, i < j + 1 → vary_Names.star (rdOf ByteArray.empty L (i : Int)) = false from fun i hi => by
          rcases Nat.lt_or_ge i j with h | h
          · exact HU.out i h
          · have : i = j := by omega
            subst this; exact hst)
        have hst2 : ((rdOf ByteArray.empty L (j : Int)).toList == ([42] : List UInt8)) = false := hst
        have HN := Lib.hid hnext
        have HM := Lib.hid hmem
        clear hst hnext hmem HU
        generalize rdOf ByteArray.empty L (j : Int) = x at hx hst2 HN HM
        have hx2 : (x.toList = ([42] : List UInt8)) = False := eq_false (fun e => by rw [e] at hst2; exact absurd hst2 (by decide))
        have hf : vary_small.f x = some (vary_Names.low x) := if_pos HM.out
        have HF := Lib.hid hf
        clear hf
        go_wp2_with fail
        refine (vary_small.calls x _ _ HF.out).mono ?_
        rintro e w2 ⟨rfl, hB2⟩
        have HO2 := Aside0.mk (Kd.R_below HO.out hB2)
        have HB2 := Aside0.mk (HB.out.trans (Below.mono hB2 HB.out.size))
        clear hB2 hx HO HB
        have hw2 := HB2.out.size
        have hlen2 : ((L.take j).map vary_Names.low).length + 1 ≤ 1000001 := by rw [List.length_map, List.length_take]; omega
        go_wp2_with (at_builtin; refine Kd.R_append Kd.string (w0 := w1) w1.heap.size rfl (.tmp 17) (.tmp 20) 29 9 (.string ⟨#[]⟩) 16 rfl Try.underlying29 info9 rfl (by decide) (by omega) u4 ((L.take j).map vary_Names.low) (vary_Names.low x) [.string (vary_Names.low x)] (fun _ => True) (fun _ => False) rfl (by first | (go_simp; done) | (go_simp; rfl)) ?aP (fun _ hk => hk.elim) ?aF ?aO ?aB ?aS ?aL ?_; (case aP => exact rfl); (case aF => exact (fun _ _ => trivial)); (case aO => exact HO2.out); (case aB => exact HB2.out); (case aS => exact hw2); (case aL => omega); intro v4' w3 ho hb hg hat; rw [← HN.out] at ho; have HO3 := Aside0.mk ho; have HB3 := Aside0.mk hb; clear ho hb hg hat)
        go_roundw
        case rel => exact ⟨j + 1, by omega, by go_num, HU2, HO3, HB3⟩
        case measure => simp [intOf]; omega
    · have hjn : j = L.length := by omega
      subst hjn
      rw [List.take_length] at HO
      have hany := vary_Names.unstar L HU.out
      have hh := H.out
      unfold vary_Names.tell at hh
      rw [if_neg (by rw [hany]; decide)] at hh
      injection hh with h1 h2
      subst h2
      have H1 := Lib.hid h1
      clear h1
      have HOb := Aside0.mk (Kd.R_lower HO.out hw1)
      have HB2 := Aside0.mk (HA.out.trans (Below.mono HB.out hw1))
      clear hany H HU HS HC1 HO HB
      rcases Nat.eq_zero_or_pos L.length with h0 | h0
      · obtain rfl := List.eq_nil_of_length_eq_zero h0
        have hR := HOb.out
        obtain ⟨A4, c4, rfl⟩ := Kd.R_slice hR
        have HOc := Aside0.mk hR
        clear hR HOb h0
        go_wp2_with fail
        refine (Try.slices_SortFunc_none (α := List UInt8) A4 c4 _ _).mono ?_
        rintro e w2 ⟨rfl, rfl⟩
        go_wp2_with fail
        refine (Try.slices_Compact_string_empty A4 c4 _).mono ?_
        rintro e w2 ⟨rfl, rfl⟩
        go_wp2
        go_ret2
        have hn : r1 = [] := by rw [← H1.out]; simp [Srt.inOrder, Lib.compact, Lib.compactUpTo]
        exact ⟨_, rfl, by rw [hn]; exact HOc.out, HB2.out⟩
      · obtain ⟨g, cap, rfl, hg, hrow⟩ := Srt.SRow.of_R HOb.out (by rw [List.length_map]; exact h0)
        have HRW := Aside0.mk hrow
        have HG := Lib.hid hg
        have hll : (L.map vary_Names.low).length = ((L.map vary_Names.low).map fun s => s.data.toList).length := by simp
        have hlm : ((L.map vary_Names.low).map fun s => s.data.toList).length = L.length := by simp
        have HT := Lib.hid H1.out
        clear H1
        have HT := HT.out
        generalize hX : (L.map vary_Names.low).map (fun s => s.data.toList) = X at *
        rw [hll] at *
        have HX := Lib.hid hlm
        have H1 := Lib.hid HT
        clear hrow hg HOb hX hll hlm HT
        go_wp2_with fail
        refine (Srt.sort g cap w.heap.size X _ HRW.out HG.out (by have := HX.out; omega)).mono ?_
        rintro e w2 ⟨rfl, hrow2, hB2⟩
        have HRW2 := Aside0.mk hrow2
        have HB3 := Aside0.mk (HB2.out.trans hB2)
        have hol := Srt.order_length X
        rw [← hol]
        clear hrow2 hB2 HRW HB2
        generalize Srt.inOrder X = Y at *
        clear hol
        go_wp2_with fail
        refine (Srt.compact g cap w.heap.size Y _ HRW2.out HG.out).mono ?_
        rintro e w3 ⟨rfl, hrow3, hB3⟩
        have HR3 := Aside0.mk (Srt.SRow.to_R (xs := (Lib.compact Y).map fun x => (⟨x.toArray⟩ : ByteArray)) (by rw [vary_Names.back]; exact hrow3) HG.out (Lib.compact Y).length (by rw [List.length_map]))
        have HB4 := Aside0.mk (HB3.out.trans hB3)
        clear hrow3 hB3 HRW2 HB3
        go_wp2
        go_ret2
        exact ⟨_, rfl, by rw [← H1.out]; exact HR3.out, HB4.out⟩

end Go.Proofs.Ytefijfanjekchaa.G
