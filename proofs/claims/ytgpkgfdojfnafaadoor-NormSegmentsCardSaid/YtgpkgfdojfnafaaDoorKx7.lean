-- PRINTED by print.py (a twelfth state) out of the translation. Not trusted: Lean checks it.
import Derived.Test.YtgpkgfdojfnafaaDoorKx0
namespace Go.Proofs.YtgpkgfdojfnafaaDoor.K
open Go.RowKit Go.Proofs.YtgpkgfdojfnafaaDoorW.PrintWords Go.Proofs.YtgpkgfdojfnafaaDoorW.PrintLast Go.Proofs.YtgpkgfdojfnafaaDoorW.PrintMore
attribute [local go_sem] max2_int min2_int max_two min_two max_three min_three max_four min_four   -- for this text's walks alone
set_option linter.unusedVariables false
set_option linter.unusedSimpArgs false

/-! ### ambryref23_Dots: function 15 -/
mutual
def ambryref23_Dots.j0 : Nat → ByteArray → Bool → Option (ByteArray)
  | 0, _, _ => none
  | k + 1, x0, x17 => if x17 = true then (if 1 + x0.size ≤ 9223372036854775807 then (ambryref23_Dots.j1 k ((⟨#[47]⟩ : ByteArray) ++ x0)) else (none)) else (ambryref23_Dots.j1 k x0)
def ambryref23_Dots.j1 : Nat → ByteArray → Option (ByteArray)
  | 0, _ => none
  | k + 1, x0 => ambryref23_Dots.l0 k x0 ([] : List ByteArray) false 1 1
def ambryref23_Dots.l0 : Nat → ByteArray → List ByteArray → Bool → Int → Int → Option (ByteArray)
  | 0, _, _, _, _, _ => none
  | k + 1, x0, x3, x4, x5, x6 => if x6 ≤ (x0.size : Int) then (if x6 < (x0.size : Int) then (if 0 ≤ x6 then (ambryref23_Dots.j3 k x0 x3 x4 x5 x6 ((bt x0 x6) != 47)) else (none)) else (ambryref23_Dots.j3 k x0 x3 x4 x5 x6 false)) else (ambryref23_Dots.l1 k x3 x4 (⟨#[]⟩ : ByteArray) 0)
def ambryref23_Dots.j3 : Nat → ByteArray → List ByteArray → Bool → Int → Int → Bool → Option (ByteArray)
  | 0, _, _, _, _, _, _ => none
  | k + 1, x0, x3, x4, x5, x6, x35 => if x35 = true then (ambryref23_Dots.l0 k x0 x3 x4 x5 (wrap64 (x6 + 1))) else (if 0 ≤ x5 then (if x5 ≤ x6 then (if x6 ≤ (x0.size : Int) then (if (x0.extract (x5 : Int).toNat (x6 : Int).toNat).toList = ([46] : List UInt8) then (ambryref23_Dots.j4 k x0 x3 x4 x6 (x0.extract (x5 : Int).toNat (x6 : Int).toNat) (x6 == (x0.size : Int)) ((x0.extract (x5 : Int).toNat (x6 : Int).toNat).toList == ([46] : List UInt8))) else (ambryref23_Dots.j4 k x0 x3 x4 x6 (x0.extract (x5 : Int).toNat (x6 : Int).toNat) (x6 == (x0.size : Int)) ((x0.extract (x5 : Int).toNat (x6 : Int).toNat).toList == ([46, 46] : List UInt8)))) else (none)) else (none)) else (none))
def ambryref23_Dots.j4 : Nat → ByteArray → List ByteArray → Bool → Int → ByteArray → Bool → Bool → Option (ByteArray)
  | 0, _, _, _, _, _, _, _ => none
  | k + 1, x0, x3, x4, x6, x7, x8, x54 => if x54 = true then (if x7.toList = ([46, 46] : List UInt8) then (if (x3.length : Int) > 0 then (if 0 ≤ (wrap64 ((x3.length : Int) - 1)) then (if (wrap64 ((x3.length : Int) - 1)) ≤ (x3.length : Int) then (ambryref23_Dots.l0 k x0 (x3.take ((wrap64 ((x3.length : Int) - 1)) : Int).toNat) x8 (wrap64 (x6 + 1)) (wrap64 (x6 + 1))) else (none)) else (none)) else (ambryref23_Dots.l0 k x0 x3 x8 (wrap64 (x6 + 1)) (wrap64 (x6 + 1)))) else (ambryref23_Dots.l0 k x0 x3 x8 (wrap64 (x6 + 1)) (wrap64 (x6 + 1)))) else (if x8 = true then (if x7.toList = ([] : List UInt8) then (ambryref23_Dots.l0 k x0 x3 true (wrap64 (x6 + 1)) (wrap64 (x6 + 1))) else (if x3.length < 8796093022208 then (ambryref23_Dots.l0 k x0 (x3 ++ [x7]) x4 (wrap64 (x6 + 1)) (wrap64 (x6 + 1))) else (none))) else (if x3.length < 8796093022208 then (ambryref23_Dots.l0 k x0 (x3 ++ [x7]) x4 (wrap64 (x6 + 1)) (wrap64 (x6 + 1))) else (none)))
def ambryref23_Dots.l1 : Nat → List ByteArray → Bool → ByteArray → Int → Option (ByteArray)
  | 0, _, _, _, _ => none
  | k + 1, x3, x4, x9, x10 => if x10 < (x3.length : Int) then (if x9.size + 1 ≤ 9223372036854775807 then (if 0 ≤ x10 then (if (x9 ++ (⟨#[47]⟩ : ByteArray)).size + (rdOf ByteArray.empty x3 x10).size ≤ 9223372036854775807 then (ambryref23_Dots.l1 k x3 x4 ((x9 ++ (⟨#[47]⟩ : ByteArray)) ++ (rdOf ByteArray.empty x3 x10)) (wrap64 (x10 + 1))) else (none)) else (none)) else (none)) else (if x4 = true then (if x9.size + 1 ≤ 9223372036854775807 then (some (x9 ++ (⟨#[47]⟩ : ByteArray))) else (none)) else (if x9.toList = ([] : List UInt8) then (if x9.size + 1 ≤ 9223372036854775807 then (some (x9 ++ (⟨#[47]⟩ : ByteArray))) else (none)) else (some x9)))
end
def ambryref23_Dots.f (k : Nat) (a0 : ByteArray) : Option (ByteArray) := if a0.toList = ([] : List UInt8) then (ambryref23_Dots.j0 k a0 true) else (if 0 < (a0.size : Int) then (ambryref23_Dots.j0 k a0 ((bt a0 0) != 47)) else (none))
theorem ambryref23_Dots.mono_l : ∀ k, (∀ y0 y1, LeO (ambryref23_Dots.j0 k y0 y1) (ambryref23_Dots.j0 (k + 1) y0 y1)) ∧ (∀ y0, LeO (ambryref23_Dots.j1 k y0) (ambryref23_Dots.j1 (k + 1) y0)) ∧ (∀ y0 y1 y2 y3 y4, LeO (ambryref23_Dots.l0 k y0 y1 y2 y3 y4) (ambryref23_Dots.l0 (k + 1) y0 y1 y2 y3 y4)) ∧ (∀ y0 y1 y2 y3 y4 y5, LeO (ambryref23_Dots.j3 k y0 y1 y2 y3 y4 y5) (ambryref23_Dots.j3 (k + 1) y0 y1 y2 y3 y4 y5)) ∧ (∀ y0 y1 y2 y3 y4 y5 y6, LeO (ambryref23_Dots.j4 k y0 y1 y2 y3 y4 y5 y6) (ambryref23_Dots.j4 (k + 1) y0 y1 y2 y3 y4 y5 y6)) ∧ (∀ y0 y1 y2 y3, LeO (ambryref23_Dots.l1 k y0 y1 y2 y3) (ambryref23_Dots.l1 (k + 1) y0 y1 y2 y3))
  | 0 => ⟨fun _ _ r h => by simp [ambryref23_Dots.j0] at h, fun _ r h => by simp [ambryref23_Dots.j1] at h, fun _ _ _ _ _ r h => by simp [ambryref23_Dots.l0] at h, fun _ _ _ _ _ _ r h => by simp [ambryref23_Dots.j3] at h, fun _ _ _ _ _ _ _ r h => by simp [ambryref23_Dots.j4] at h, fun _ _ _ _ r h => by simp [ambryref23_Dots.l1] at h⟩
  | k + 1 => by
    obtain ⟨ih0, ih1, ih2, ih3, ih4, ih5⟩ := ambryref23_Dots.mono_l k
    refine ⟨?_, ?_, ?_, ?_, ?_, ?_⟩
    · intro y0 y1
      unfold ambryref23_Dots.j0
      repeat' first
      | (with_reducible exact ih0 _ _)
      | (with_reducible exact ih1 _)
      | (with_reducible exact ih2 _ _ _ _ _)
      | (with_reducible exact ih3 _ _ _ _ _ _)
      | (with_reducible exact ih4 _ _ _ _ _ _ _)
      | (with_reducible exact ih5 _ _ _ _)
      | (with_reducible exact LeO.refl _)
      | (with_reducible exact LeO.none _)
      | (with_reducible refine LeO.ite ?_ ?_)
      | (with_reducible refine LeO.bind ?_ (fun _ => ?_))
      | exact ih0 _ _
      | exact ih1 _
      | exact ih2 _ _ _ _ _
      | exact ih3 _ _ _ _ _ _
      | exact ih4 _ _ _ _ _ _ _
      | exact ih5 _ _ _ _
      | exact LeO.none _
      | refine LeO.ite ?_ ?_
      | refine LeO.bind ?_ (fun _ => ?_)
    · intro y0
      unfold ambryref23_Dots.j1
      repeat' first
      | (with_reducible exact ih0 _ _)
      | (with_reducible exact ih1 _)
      | (with_reducible exact ih2 _ _ _ _ _)
      | (with_reducible exact ih3 _ _ _ _ _ _)
      | (with_reducible exact ih4 _ _ _ _ _ _ _)
      | (with_reducible exact ih5 _ _ _ _)
      | (with_reducible exact LeO.refl _)
      | (with_reducible exact LeO.none _)
      | (with_reducible refine LeO.ite ?_ ?_)
      | (with_reducible refine LeO.bind ?_ (fun _ => ?_))
      | exact ih0 _ _
      | exact ih1 _
      | exact ih2 _ _ _ _ _
      | exact ih3 _ _ _ _ _ _
      | exact ih4 _ _ _ _ _ _ _
      | exact ih5 _ _ _ _
      | exact LeO.none _
      | refine LeO.ite ?_ ?_
      | refine LeO.bind ?_ (fun _ => ?_)
    · intro y0 y1 y2 y3 y4
      unfold ambryref23_Dots.l0
      repeat' first
      | (with_reducible exact ih0 _ _)
      | (with_reducible exact ih1 _)
      | (with_reducible exact ih2 _ _ _ _ _)
      | (with_reducible exact ih3 _ _ _ _ _ _)
      | (with_reducible exact ih4 _ _ _ _ _ _ _)
      | (with_reducible exact ih5 _ _ _ _)
      | (with_reducible exact LeO.refl _)
      | (with_reducible exact LeO.none _)
      | (with_reducible refine LeO.ite ?_ ?_)
      | (with_reducible refine LeO.bind ?_ (fun _ => ?_))
      | exact ih0 _ _
      | exact ih1 _
      | exact ih2 _ _ _ _ _
      | exact ih3 _ _ _ _ _ _
      | exact ih4 _ _ _ _ _ _ _
      | exact ih5 _ _ _ _
      | exact LeO.none _
      | refine LeO.ite ?_ ?_
      | refine LeO.bind ?_ (fun _ => ?_)
    · intro y0 y1 y2 y3 y4 y5
      unfold ambryref23_Dots.j3
      repeat' first
      | (with_reducible exact ih0 _ _)
      | (with_reducible exact ih1 _)
      | (with_reducible exact ih2 _ _ _ _ _)
      | (with_reducible exact ih3 _ _ _ _ _ _)
      | (with_reducible exact ih4 _ _ _ _ _ _ _)
      | (with_reducible exact ih5 _ _ _ _)
      | (with_reducible exact LeO.refl _)
      | (with_reducible exact LeO.none _)
      | (with_reducible refine LeO.ite ?_ ?_)
      | (with_reducible refine LeO.bind ?_ (fun _ => ?_))
      | exact ih0 _ _
      | exact ih1 _
      | exact ih2 _ _ _ _ _
      | exact ih3 _ _ _ _ _ _
      | exact ih4 _ _ _ _ _ _ _
      | exact ih5 _ _ _ _
      | exact LeO.none _
      | refine LeO.ite ?_ ?_
      | refine LeO.bind ?_ (fun _ => ?_)
    · intro y0 y1 y2 y3 y4 y5 y6
      unfold ambryref23_Dots.j4
      repeat' first
      | (with_reducible exact ih0 _ _)
      | (with_reducible exact ih1 _)
      | (with_reducible exact ih2 _ _ _ _ _)
      | (with_reducible exact ih3 _ _ _ _ _ _)
      | (with_reducible exact ih4 _ _ _ _ _ _ _)
      | (with_reducible exact ih5 _ _ _ _)
      | (with_reducible exact LeO.refl _)
      | (with_reducible exact LeO.none _)
      | (with_reducible refine LeO.ite ?_ ?_)
      | (with_reducible refine LeO.bind ?_ (fun _ => ?_))
      | exact ih0 _ _
      | exact ih1 _
      | exact ih2 _ _ _ _ _
      | exact ih3 _ _ _ _ _ _
      | exact ih4 _ _ _ _ _ _ _
      | exact ih5 _ _ _ _
      | exact LeO.none _
      | refine LeO.ite ?_ ?_
      | refine LeO.bind ?_ (fun _ => ?_)
    · intro y0 y1 y2 y3
      unfold ambryref23_Dots.l1
      repeat' first
      | (with_reducible exact ih0 _ _)
      | (with_reducible exact ih1 _)
      | (with_reducible exact ih2 _ _ _ _ _)
      | (with_reducible exact ih3 _ _ _ _ _ _)
      | (with_reducible exact ih4 _ _ _ _ _ _ _)
      | (with_reducible exact ih5 _ _ _ _)
      | (with_reducible exact LeO.refl _)
      | (with_reducible exact LeO.none _)
      | (with_reducible refine LeO.ite ?_ ?_)
      | (with_reducible refine LeO.bind ?_ (fun _ => ?_))
      | exact ih0 _ _
      | exact ih1 _
      | exact ih2 _ _ _ _ _
      | exact ih3 _ _ _ _ _ _
      | exact ih4 _ _ _ _ _ _ _
      | exact ih5 _ _ _ _
      | exact LeO.none _
      | refine LeO.ite ?_ ?_
      | refine LeO.bind ?_ (fun _ => ?_)
theorem ambryref23_Dots.mono : ∀ a0 k, LeO (ambryref23_Dots.f k a0) (ambryref23_Dots.f (k + 1) a0) := by
  intro a0 k
  obtain ⟨ih0, ih1, ih2, ih3, ih4, ih5⟩ := ambryref23_Dots.mono_l k
  unfold ambryref23_Dots.f
  repeat' first
      | (with_reducible exact ih0 _ _)
      | (with_reducible exact ih1 _)
      | (with_reducible exact ih2 _ _ _ _ _)
      | (with_reducible exact ih3 _ _ _ _ _ _)
      | (with_reducible exact ih4 _ _ _ _ _ _ _)
      | (with_reducible exact ih5 _ _ _ _)
      | (with_reducible exact LeO.refl _)
      | (with_reducible exact LeO.none _)
      | (with_reducible refine LeO.ite ?_ ?_)
      | (with_reducible refine LeO.bind ?_ (fun _ => ?_))
      | exact ih0 _ _
      | exact ih1 _
      | exact ih2 _ _ _ _ _
      | exact ih3 _ _ _ _ _ _
      | exact ih4 _ _ _ _ _ _ _
      | exact ih5 _ _ _ _
      | exact LeO.none _
      | refine LeO.ite ?_ ?_
      | refine LeO.bind ?_ (fun _ => ?_)
set_option maxHeartbeats 8000000 in
set_option maxRecDepth 100000 in
theorem ambryref23_Dots.calls (k : Nat) (a0 : ByteArray) (r : ByteArray) (w : World) (h : ambryref23_Dots.f k a0 = some r) :
    Calls Tryd.prog 15 #[.string a0] w fun e w' => e = .returned (.string r) ∧ Below w.heap.size w w' := by
  have HB := Aside0.mk (Below.refl w.heap.size w)
  have H : (if a0.toList = ([] : List UInt8) then (ambryref23_Dots.j0 k a0 true) else (if 0 < (a0.size : Int) then (ambryref23_Dots.j0 k a0 ((bt a0 0) != 47)) else (none))) = some r := h
  clear h
  have HC2 := Aside0.mk H
  clear H
  go_enter Tryd.func15, Tryd.ntmps15
  go_upto_region 1 with (fail)
  go_cut [17] (fun v17 wc => ∃ (kq : Nat) (x17_1 : Bool), v17 = .bool x17_1 ∧ Aside0 (ambryref23_Dots.j0 kq a0 x17_1 = some r) ∧ Aside0 (kq ≤ k) ∧ Aside0 (Below w.heap.size w wc))
  case first =>
    have H := HC2.out
    clear HC2
    by_cases c3 : a0.toList = ([] : List UInt8)
    · rw [if_pos c3] at H
      have c3b0 : (a0.toList == ([] : List UInt8)) = true := beq_iff_eq.mpr c3
      have c3b1 : (a0.toList != ([] : List UInt8)) = false := bne_eq_false_iff_eq.mpr c3
      clear c3
      (first | rw [c3b0] | (simp only [i64_w, i32_w]; rw [c3b0]) | skip)
      have H' := Aside0.mk H
      clear H
      go_wp2
      go_meet
      case rel => exact ⟨_, (true), (by first | rfl | (simp; done) | (simp [*]; done)), H', ⟨by first | omega | exact Nat.le_refl _⟩, ⟨by repeat (first | (with_reducible first | exact HB.out | apply below_alloc | apply pw_below_drewN | apply below_drew1) | exact HB.out)⟩⟩
    · rw [if_neg c3] at H
      have c3b0 : (a0.toList == ([] : List UInt8)) = false := beq_eq_false_iff_ne.mpr c3
      have c3b1 : (a0.toList != ([] : List UInt8)) = true := bne_iff_ne.mpr c3
      (first | rw [c3b0] | (simp only [i64_w, i32_w]; rw [c3b0]) | skip)
      by_cases c4 : 0 < (a0.size : Int)
      · rw [if_pos c4] at H
        have c4b0 : decide (0 < (a0.size : Int)) = true := decide_eq_true c4
        have c4b1 : decide (0 < a0.size) = true := decide_eq_true (by omega)
        clear c4
        have H' := Aside0.mk H
        clear H
        have p5 : 0 ≤ (0 : Int) := (by omega)
        have q5 : 0 < a0.size := (by have : (0 : Int) < (a0.size : Int) := of_decide_eq_true (by first | (with_reducible assumption) | assumption); omega)
        have hx5 : ∀ h : 0 < a0.size, ((a0[0]'h).toNat : Int) = bt a0 0 := bt_at a0 0
        clear p5
        have qi5 : (0 < (a0.size : Int)) = True := eq_true (of_decide_eq_true (by first | (with_reducible assumption) | assumption))
        replace q5 := eq_true q5
        go_wp2
        go_meet
        case rel => exact ⟨_, (((bt a0 0) != 47)), (by first | rfl | (simp; done) | (simp [*]; done)), H', ⟨by first | omega | exact Nat.le_refl _⟩, ⟨by repeat (first | (with_reducible first | exact HB.out | apply below_alloc | apply pw_below_drewN | apply below_drew1) | exact HB.out)⟩⟩
      · rw [if_neg c4] at H
        exact absurd H (by simp)
  case rest =>
    clear HC2
    try clear c1
    try clear p2
    try clear c3
    try clear c3b0
    try clear c3b1
    try clear c4
    try clear c4b0
    try clear c4b1
    try clear p5
    try clear q5
    try clear hx5
    try clear qi5
    try clear p5
    try clear q5
    obtain ⟨kq, x17_1, rfl, HA, HJ1, HB⟩ := hcut
    cases kq with
    | zero => exact absurd HA.out (by simp [ambryref23_Dots.j0])
    | succ kj1 =>
      have H := HA.out
      clear HA
      simp only [ambryref23_Dots.j0] at H
      have HC6 := Aside0.mk H
      clear H
      go_upto_if 17 with (fail)
      go_cut [0] (fun v0 wc => ∃ (kq : Nat) (x0_5 : ByteArray), v0 = .string x0_5 ∧ Aside0 (ambryref23_Dots.j1 kq x0_5 = some r) ∧ Aside0 (kq ≤ kj1) ∧ Aside0 (Below w.heap.size w wc))
      case first =>
        have H := HC6.out
        clear HC6
        by_cases c7 : x17_1 = true
        · subst c7
          have H1 : (if 1 + a0.size ≤ 9223372036854775807 then (ambryref23_Dots.j1 kj1 ((⟨#[47]⟩ : ByteArray) ++ a0)) else (none)) = some r := by rw [if_pos rfl] at H; exact H
          clear H
          have H := H1
          clear H1
          by_cases c8 : 1 + a0.size ≤ 9223372036854775807
          · rw [if_pos c8] at H
            have c8b0 := eq_true c8
            have c8b1 : decide (1 + a0.size ≤ 9223372036854775807) = true := decide_eq_true c8
            try have c8b2 : (9223372036854775807 < 1 + a0.size) = False := eq_false (Nat.not_lt.2 c8)
            have H' := Aside0.mk H
            clear H
            go_wp2
            go_meet
            case rel => exact ⟨_, ((⟨#[47]⟩ : ByteArray) ++ a0), (by first | rfl | (simp; done) | (simp [*]; done)), H', ⟨by have := HJ1.out; first | omega | exact Nat.le_refl _⟩, ⟨by repeat (first | (with_reducible first | exact HB.out | apply below_alloc | apply pw_below_drewN | apply below_drew1) | exact HB.out)⟩⟩
          · rw [if_neg c8] at H
            exact absurd H (by simp)
        · replace c7 := Bool.eq_false_iff.mpr c7
          subst c7
          have H1 : (ambryref23_Dots.j1 kj1 a0) = some r := by rw [if_neg (show ¬ (false = true) by decide)] at H; exact H
          clear H
          have H := H1
          clear H1
          have H' := Aside0.mk H
          clear H
          go_wp2
          go_meet
          case rel => exact ⟨_, (a0), (by first | rfl | (simp; done) | (simp [*]; done)), H', ⟨by have := HJ1.out; first | omega | exact Nat.le_refl _⟩, ⟨by repeat (first | (with_reducible first | exact HB.out | apply below_alloc | apply pw_below_drewN | apply below_drew1) | exact HB.out)⟩⟩
      case rest =>
        clear HC6
        try clear c1
        try clear p2
        try clear c3
        try clear c3b0
        try clear c3b1
        try clear c4
        try clear c4b0
        try clear c4b1
        try clear p5
        try clear q5
        try clear hx5
        try clear qi5
        try clear c7
        try clear c8
        try clear c8b0
        try clear c8b1
        try clear c8b2
        try clear p2
        try clear p5
        try clear q5
        obtain ⟨kq, x0_5, rfl, HA, HJ5, HB⟩ := hcut
        cases kq with
        | zero => exact absurd HA.out (by simp [ambryref23_Dots.j1])
        | succ kj5 =>
          have H := HA.out
          clear HA
          simp only [ambryref23_Dots.j1] at H
          have H' := Aside0.mk H
          clear H
          go_wp2
          go_loopg [3, 4, 5, 6] kj5 (fun kq v3 v4 v5 v6 w' => ∃ (x3_3 : List ByteArray) (x4_3 : Bool) (x5_3 : Int) (x6_3 : Int), v4 = .bool x4_3 ∧ v5 = .int .i64 x5_3 ∧ v6 = .int .i64 x6_3 ∧ Aside0 (ambryref23_Dots.l0 kq x0_5 x3_3 x4_3 x5_3 x6_3 = some r) ∧ Aside0 (kq ≤ kj5) ∧ Aside0 (Kd.R Kd.string 9 w' w.heap.size (fun _ => True) v3 x3_3) ∧ Aside0 (Below w.heap.size w w'))
          case atStart => exact ⟨(([] : List ByteArray)), (false), (1), (1), (by first | rfl | (simp; done) | (simp [*]; done)), (by first | rfl | (simp; done) | (simp [*]; done)), (by first | rfl | (simp; done) | (simp [*]; done)), H', ⟨Nat.le_refl _⟩, ⟨by first | exact Kd.R_nil _ _ _ _ _ | exact Kd.N_nil _ _ _ _ _ | exact Kd.V_nil _ _ _ _ _ | exact Kd.Q_nil _ _ _ _ _ | exact Kd.S_nil _ _ _ _ _⟩, ⟨by repeat (first | (with_reducible first | exact HB.out | apply below_alloc | apply pw_below_drewN | apply below_drew1) | exact HB.out)⟩⟩
          case round =>
            clear H'
            try clear c1
            try clear p2
            try clear c3
            try clear c3b0
            try clear c3b1
            try clear c4
            try clear c4b0
            try clear c4b1
            try clear p5
            try clear q5
            try clear hx5
            try clear qi5
            try clear c7
            try clear c8
            try clear c8b0
            try clear c8b1
            try clear c8b2
            try clear p2
            try clear p5
            try clear q5
            obtain ⟨x3_3, x4_3, x5_3, x6_3, rfl, rfl, rfl, HA, HK3, HO_3, HB⟩ := hrel
            cases gk with
            | zero => exact absurd HA.out (by simp [ambryref23_Dots.l0])
            | succ k3 =>
              have H := HA.out
              clear HA
              simp only [ambryref23_Dots.l0] at H
              by_cases c9 : x6_3 ≤ (x0_5.size : Int)
              · rw [if_pos c9] at H
                have c9b0 : decide (x6_3 ≤ (x0_5.size : Int)) = true := decide_eq_true c9
                clear c9
                have HC10 := Aside0.mk H
                clear H
                go_upto_region 9 with (fail)
                go_cut [35] (fun v35 wc => ∃ (kq : Nat) (x35_9 : Bool), v35 = .bool x35_9 ∧ Aside0 (ambryref23_Dots.j3 kq x0_5 x3_3 x4_3 x5_3 x6_3 x35_9 = some r) ∧ Aside0 (kq ≤ k3) ∧ Aside0 (Kd.R Kd.string 9 wc w.heap.size (fun _ => True) u3 x3_3) ∧ Aside0 (Below w.heap.size w wc))
                case first =>
                  have H := HC10.out
                  clear HC10
                  by_cases c11 : x6_3 < (x0_5.size : Int)
                  · rw [if_pos c11] at H
                    have c11b0 : decide (x6_3 < (x0_5.size : Int)) = true := decide_eq_true c11
                    clear c11
                    (first | rw [c11b0] | (simp only [i64_w, i32_w]; rw [c11b0]) | skip)
                    by_cases c12 : 0 ≤ x6_3
                    · rw [if_pos c12] at H
                      have c12b0 : decide (0 ≤ x6_3) = true := decide_eq_true c12
                      clear c12
                      have H' := Aside0.mk H
                      clear H
                      have p13 : 0 ≤ (x6_3 : Int) := of_decide_eq_true (by first | (with_reducible assumption) | assumption)
                      have q13 : x6_3 < (x0_5.size : Int) := of_decide_eq_true (by first | (with_reducible assumption) | assumption)
                      have hx13 := bt_at x0_5 x6_3
                      replace p13 := eq_true p13
                      replace q13 := eq_true q13
                      go_wp2
                      go_meet
                      case rel => exact ⟨_, (((bt x0_5 x6_3) != 47)), (by first | rfl | (simp; done) | (simp [*]; done)), H', ⟨by have := HJ1.out; have := HJ5.out; have := HK3.out; first | omega | exact Nat.le_refl _⟩, ⟨by (with_reducible repeat (first | apply Kd.R_alloc | apply Kd.R_drewN | apply Kd.R_drew)); exact HO_3.out⟩, ⟨by repeat (first | (with_reducible first | exact HB.out | apply below_alloc | apply pw_below_drewN | apply below_drew1) | exact HB.out)⟩⟩
                    · rw [if_neg c12] at H
                      exact absurd H (by simp)
                  · rw [if_neg c11] at H
                    have c11b0 : decide (x6_3 < (x0_5.size : Int)) = false := decide_eq_false c11
                    clear c11
                    (first | rw [c11b0] | (simp only [i64_w, i32_w]; rw [c11b0]) | skip)
                    have H' := Aside0.mk H
                    clear H
                    go_wp2
                    go_meet
                    case rel => exact ⟨_, (false), (by first | rfl | (simp; done) | (simp [*]; done)), H', ⟨by have := HJ1.out; have := HJ5.out; have := HK3.out; first | omega | exact Nat.le_refl _⟩, ⟨by (with_reducible repeat (first | apply Kd.R_alloc | apply Kd.R_drewN | apply Kd.R_drew)); exact HO_3.out⟩, ⟨by repeat (first | (with_reducible first | exact HB.out | apply below_alloc | apply pw_below_drewN | apply below_drew1) | exact HB.out)⟩⟩
                case rest =>
                  clear HC10
                  try clear c1
                  try clear p1
                  try clear q1
                  try clear hx1
                  try clear p2
                  try clear c3
                  try clear c3b0
                  try clear c3b1
                  try clear c4
                  try clear c4b0
                  try clear c4b1
                  try clear p5
                  try clear q5
                  try clear hx5
                  try clear qi5
                  try clear c7
                  try clear c8
                  try clear c8b0
                  try clear c8b1
                  try clear c8b2
                  try clear c9
                  try clear c9b0
                  try clear c11
                  try clear c11b0
                  try clear c12
                  try clear c12b0
                  try clear p13
                  try clear q13
                  try clear hx13
                  try clear p13
                  try clear p2
                  try clear p5
                  try clear q13
                  try clear q5
                  obtain ⟨kq, x35_9, rfl, HA, HJ9, HO_3, HB⟩ := hcut
                  cases kq with
                  | zero => exact absurd HA.out (by simp [ambryref23_Dots.j3])
                  | succ kj9 =>
                    have H := HA.out
                    clear HA
                    simp only [ambryref23_Dots.j3] at H
                    by_cases c14 : x35_9 = true
                    · subst c14
                      have H1 : (ambryref23_Dots.l0 kj9 x0_5 x3_3 x4_3 x5_3 (wrap64 (x6_3 + 1))) = some r := by rw [if_pos rfl] at H; exact H
                      clear H
                      have H := H1
                      clear H1
                      have H' := Aside0.mk H
                      clear H
                      go_wp2
                      go_roundg kj9
                      case measure => have := HJ1.out; have := HJ5.out; have := HK3.out; have := HJ9.out; omega
                      case rel => exact ⟨(x3_3), (x4_3), (x5_3), (wrap64 (x6_3 + 1)), (by first | rfl | (simp; done) | (simp [*]; done)), (by first | rfl | (simp; done) | (simp [*]; done)), (by first | rfl | (simp; done) | (simp [*]; done)), H', ⟨by have := HJ1.out; have := HJ5.out; have := HK3.out; have := HJ9.out; omega⟩, ⟨by (with_reducible repeat (first | apply Kd.R_alloc | apply Kd.R_drewN | apply Kd.R_drew)); exact HO_3.out⟩, ⟨by repeat (first | (with_reducible first | exact HB.out | apply below_alloc | apply pw_below_drewN | apply below_drew1) | exact HB.out)⟩⟩
                    · replace c14 := Bool.eq_false_iff.mpr c14
                      subst c14
                      have H1 : (if 0 ≤ x5_3 then (if x5_3 ≤ x6_3 then (if x6_3 ≤ (x0_5.size : Int) then (if (x0_5.extract (x5_3 : Int).toNat (x6_3 : Int).toNat).toList = ([46] : List UInt8) then (ambryref23_Dots.j4 kj9 x0_5 x3_3 x4_3 x6_3 (x0_5.extract (x5_3 : Int).toNat (x6_3 : Int).toNat) (x6_3 == (x0_5.size : Int)) ((x0_5.extract (x5_3 : Int).toNat (x6_3 : Int).toNat).toList == ([46] : List UInt8))) else (ambryref23_Dots.j4 kj9 x0_5 x3_3 x4_3 x6_3 (x0_5.extract (x5_3 : Int).toNat (x6_3 : Int).toNat) (x6_3 == (x0_5.size : Int)) ((x0_5.extract (x5_3 : Int).toNat (x6_3 : Int).toNat).toList == ([46, 46] : List UInt8)))) else (none)) else (none)) else (none)) = some r := by rw [if_neg (show ¬ (false = true) by decide)] at H; exact H
                      clear H
                      have H := H1
                      clear H1
                      by_cases c15 : 0 ≤ x5_3
                      · rw [if_pos c15] at H
                        have c15b0 := eq_true c15
                        have c15b1 : decide (0 ≤ x5_3) = true := decide_eq_true c15
                        clear c15
                        by_cases c16 : x5_3 ≤ x6_3
                        · rw [if_pos c16] at H
                          have c16b0 := eq_true c16
                          have c16b1 : decide (x5_3 ≤ x6_3) = true := decide_eq_true c16
                          clear c16
                          by_cases c17 : x6_3 ≤ (x0_5.size : Int)
                          · rw [if_pos c17] at H
                            have c17b0 := eq_true c17
                            have c17b1 : decide (x6_3 ≤ (x0_5.size : Int)) = true := decide_eq_true c17
                            clear c17
                            have HC18 := Aside0.mk H
                            clear H
                            go_upto_if 54 with (fail)
                            go_cut [54] (fun v54 wc => ∃ (kq : Nat) (x54_17 : Bool), v54 = .bool x54_17 ∧ Aside0 (ambryref23_Dots.j4 kq x0_5 x3_3 x4_3 x6_3 (x0_5.extract (x5_3 : Int).toNat (x6_3 : Int).toNat) (x6_3 == (x0_5.size : Int)) x54_17 = some r) ∧ Aside0 (kq ≤ kj9) ∧ Aside0 (Kd.R Kd.string 9 wc w.heap.size (fun _ => True) u3 x3_3) ∧ Aside0 (Below w.heap.size w wc))
                            case first =>
                              have H := HC18.out
                              clear HC18
                              by_cases c19 : (x0_5.extract (x5_3 : Int).toNat (x6_3 : Int).toNat).toList = ([46] : List UInt8)
                              · rw [if_pos c19] at H
                                have c19b0 : ((x0_5.extract (x5_3 : Int).toNat (x6_3 : Int).toNat).toList == ([46] : List UInt8)) = true := beq_iff_eq.mpr c19
                                have c19b1 : ((x0_5.extract (x5_3 : Int).toNat (x6_3 : Int).toNat).toList != ([46] : List UInt8)) = false := bne_eq_false_iff_eq.mpr c19
                                clear c19
                                (first | rw [c19b0] | (simp only [i64_w, i32_w]; rw [c19b0]) | skip)
                                have H' := Aside0.mk H
                                clear H
                                go_wp2
                                go_meet
                                case rel => exact ⟨_, (((x0_5.extract (x5_3 : Int).toNat (x6_3 : Int).toNat).toList == ([46] : List UInt8))), (by first | rfl | (simp; done) | (simp [*]; done)), H', ⟨by have := HJ1.out; have := HJ5.out; have := HK3.out; have := HJ9.out; first | omega | exact Nat.le_refl _⟩, ⟨by (with_reducible repeat (first | apply Kd.R_alloc | apply Kd.R_drewN | apply Kd.R_drew)); exact HO_3.out⟩, ⟨by repeat (first | (with_reducible first | exact HB.out | apply below_alloc | apply pw_below_drewN | apply below_drew1) | exact HB.out)⟩⟩
                              · rw [if_neg c19] at H
                                have c19b0 : ((x0_5.extract (x5_3 : Int).toNat (x6_3 : Int).toNat).toList == ([46] : List UInt8)) = false := beq_eq_false_iff_ne.mpr c19
                                have c19b1 : ((x0_5.extract (x5_3 : Int).toNat (x6_3 : Int).toNat).toList != ([46] : List UInt8)) = true := bne_iff_ne.mpr c19
                                (first | rw [c19b0] | (simp only [i64_w, i32_w]; rw [c19b0]) | skip)
                                have H' := Aside0.mk H
                                clear H
                                go_wp2
                                go_meet
                                case rel => exact ⟨_, (((x0_5.extract (x5_3 : Int).toNat (x6_3 : Int).toNat).toList == ([46, 46] : List UInt8))), (by first | rfl | (simp; done) | (simp [*]; done)), H', ⟨by have := HJ1.out; have := HJ5.out; have := HK3.out; have := HJ9.out; first | omega | exact Nat.le_refl _⟩, ⟨by (with_reducible repeat (first | apply Kd.R_alloc | apply Kd.R_drewN | apply Kd.R_drew)); exact HO_3.out⟩, ⟨by repeat (first | (with_reducible first | exact HB.out | apply below_alloc | apply pw_below_drewN | apply below_drew1) | exact HB.out)⟩⟩
                            case rest =>
                              clear HC18
                              try clear c1
                              try clear p1
                              try clear q1
                              try clear hx1
                              try clear p2
                              try clear c3
                              try clear c3b0
                              try clear c3b1
                              try clear c4
                              try clear c4b0
                              try clear c4b1
                              try clear p5
                              try clear q5
                              try clear hx5
                              try clear qi5
                              try clear p6
                              try clear c7
                              try clear c8
                              try clear c8b0
                              try clear c8b1
                              try clear c8b2
                              try clear c9
                              try clear c9b0
                              try clear c11
                              try clear c11b0
                              try clear c12
                              try clear c12b0
                              try clear p13
                              try clear q13
                              try clear hx13
                              try clear c14
                              try clear c15
                              try clear c15b0
                              try clear c15b1
                              try clear c16
                              try clear c16b0
                              try clear c16b1
                              try clear c17
                              try clear c17b0
                              try clear c17b1
                              try clear c19
                              try clear c19b0
                              try clear c19b1
                              try clear p1
                              try clear p13
                              try clear p2
                              try clear p5
                              try clear q1
                              try clear q13
                              try clear q5
                              obtain ⟨kq, x54_17, rfl, HA, HJ17, HO_3, HB⟩ := hcut
                              cases kq with
                              | zero => exact absurd HA.out (by simp [ambryref23_Dots.j4])
                              | succ kj17 =>
                                have H := HA.out
                                clear HA
                                simp only [ambryref23_Dots.j4] at H
                                by_cases c20 : x54_17 = true
                                · subst c20
                                  have H1 : (if (x0_5.extract (x5_3 : Int).toNat (x6_3 : Int).toNat).toList = ([46, 46] : List UInt8) then (if (x3_3.length : Int) > 0 then (if 0 ≤ (wrap64 ((x3_3.length : Int) - 1)) then (if (wrap64 ((x3_3.length : Int) - 1)) ≤ (x3_3.length : Int) then (ambryref23_Dots.l0 kj17 x0_5 (x3_3.take ((wrap64 ((x3_3.length : Int) - 1)) : Int).toNat) (x6_3 == (x0_5.size : Int)) (wrap64 (x6_3 + 1)) (wrap64 (x6_3 + 1))) else (none)) else (none)) else (ambryref23_Dots.l0 kj17 x0_5 x3_3 (x6_3 == (x0_5.size : Int)) (wrap64 (x6_3 + 1)) (wrap64 (x6_3 + 1)))) else (ambryref23_Dots.l0 kj17 x0_5 x3_3 (x6_3 == (x0_5.size : Int)) (wrap64 (x6_3 + 1)) (wrap64 (x6_3 + 1)))) = some r := by rw [if_pos rfl] at H; exact H
                                  clear H
                                  have H := H1
                                  clear H1
                                  by_cases c21 : (x0_5.extract (x5_3 : Int).toNat (x6_3 : Int).toNat).toList = ([46, 46] : List UInt8)
                                  · rw [if_pos c21] at H
                                    have c21b0 : ((x0_5.extract (x5_3 : Int).toNat (x6_3 : Int).toNat).toList == ([46, 46] : List UInt8)) = true := beq_iff_eq.mpr c21
                                    have c21b1 : ((x0_5.extract (x5_3 : Int).toNat (x6_3 : Int).toNat).toList != ([46, 46] : List UInt8)) = false := bne_eq_false_iff_eq.mpr c21
                                    clear c21
                                    by_cases c22 : (x3_3.length : Int) > 0
                                    · rw [if_pos c22] at H
                                      have c22b0 : decide (0 < (x3_3.length : Int)) = true := decide_eq_true c22
                                      have c22b1 : decide (0 < x3_3.length) = true := decide_eq_true (by omega)
                                      clear c22
                                      obtain ⟨ji23, hji23⟩ : ∃ j_ : Int, (wrap64 ((x3_3.length : Int) - 1)) = j_ := ⟨_, rfl⟩
                                      replace H : (if 0 ≤ (ji23) then (if (ji23) ≤ (x3_3.length : Int) then (ambryref23_Dots.l0 kj17 x0_5 (x3_3.take ((ji23) : Int).toNat) (x6_3 == (x0_5.size : Int)) (wrap64 (x6_3 + 1)) (wrap64 (x6_3 + 1))) else (none)) else (none)) = some r := by first | (rw [hji23] at H; exact H) | (simp only [hji23] at H ⊢; exact H)
                                      have hji23w : (IntKind.i64.wrap ((x3_3.length : Int) - 1)) = ji23 := (i64_w _).trans hji23
                                      by_cases c24 : 0 ≤ (ji23)
                                      · rw [if_pos c24] at H
                                        have c24b0 := eq_true c24
                                        have c24b1 : decide (0 ≤ (ji23)) = true := decide_eq_true c24
                                        clear c24
                                        by_cases c25 : (ji23) ≤ (x3_3.length : Int)
                                        · rw [if_pos c25] at H
                                          have c25b0 := eq_true c25
                                          have c25b1 : decide ((ji23) ≤ (x3_3.length : Int)) = true := decide_eq_true c25
                                          clear c25
                                          obtain ⟨y163, hy163⟩ : ∃ y_ : List ByteArray, y_ = (x3_3.take ((ji23) : Int).toNat) := ⟨_, rfl⟩
                                          replace H : (ambryref23_Dots.l0 kj17 x0_5 y163 (x6_3 == (x0_5.size : Int)) (wrap64 (x6_3 + 1)) (wrap64 (x6_3 + 1))) = some r := by first | (rw [hy163]; with_reducible exact H) | (have H2_ := (Option.bind_some _ _).symm.trans H; rw [hy163]; with_reducible exact H2_) | (have H2_ := (Option.bind_some _ _).symm.trans H; with_reducible exact H2_) | with_reducible exact H | (rw [hy163]; exact H) | exact H
                                          have Ny163 := Aside0.mk hy163
                                          clear hy163
                                          have H' := Aside0.mk H
                                          clear H
                                          obtain ⟨Ao26, co26, eo26⟩ := Kd.R_slice HO_3.out
                                          subst eo26
                                          have q27 : ((ji23) : Int) ≤ ((x3_3.length : Int) : Int) := of_decide_eq_true (by first | (with_reducible assumption) | assumption)
                                          obtain ⟨i027, hi027, _, hsz27, _⟩ := info_parts info9
                                          have hcut27 := cut_to (P := Tryd.prog) 30 9 .i64 Tryd.underlying30 hi027 Ao26 x3_3.length co26 (ji23) (of_decide_eq_true (by first | (with_reducible assumption) | assumption)) q27 (Kd.R_reads' HO_3.out).2.1
                                          have hr27 := Kd.R_take (m := ((ji23) : Int).toNat) HO_3.out (by omega)
                                          have hy27 : y163.length = ((ji23) : Int).toNat := (by rw [Ny163.out, List.length_take]; omega)
                                          rw [← Ny163.out] at hr27
                                          rw [← hy27] at hr27 hcut27
                                          clear hy27 hi027 hsz27 HO_3
                                          have HO165 := Aside0.mk hr27
                                          clear hr27
                                          replace q27 := eq_true q27
                                          go_wp2
                                          go_roundg kj17
                                          case measure => have := HJ1.out; have := HJ5.out; have := HK3.out; have := HJ9.out; have := HJ17.out; omega
                                          case rel => exact ⟨(y163), ((x6_3 == (x0_5.size : Int))), (wrap64 (x6_3 + 1)), (wrap64 (x6_3 + 1)), (by first | rfl | (simp; done) | (simp [*]; done)), (by first | rfl | (simp; done) | (simp [*]; done)), (by first | rfl | (simp; done) | (simp [*]; done)), H', ⟨by have := HJ1.out; have := HJ5.out; have := HK3.out; have := HJ9.out; have := HJ17.out; omega⟩, ⟨by (with_reducible repeat (first | apply Kd.R_alloc | apply Kd.R_drewN | apply Kd.R_drew)); exact HO165.out⟩, ⟨by repeat (first | (with_reducible first | exact HB.out | apply below_alloc | apply pw_below_drewN | apply below_drew1) | exact HB.out)⟩⟩
                                        · rw [if_neg c25] at H
                                          exact absurd H (by simp)
                                      · rw [if_neg c24] at H
                                        exact absurd H (by simp)
                                    · rw [if_neg c22] at H
                                      have c22b0 : decide (0 < (x3_3.length : Int)) = false := decide_eq_false c22
                                      have c22b1 : decide (0 < x3_3.length) = false := decide_eq_false (by omega)
                                      clear c22
                                      have H' := Aside0.mk H
                                      clear H
                                      obtain ⟨Ao28, co28, eo28⟩ := Kd.R_slice HO_3.out
                                      subst eo28
                                      go_wp2
                                      go_roundg kj17
                                      case measure => have := HJ1.out; have := HJ5.out; have := HK3.out; have := HJ9.out; have := HJ17.out; omega
                                      case rel => exact ⟨(x3_3), ((x6_3 == (x0_5.size : Int))), (wrap64 (x6_3 + 1)), (wrap64 (x6_3 + 1)), (by first | rfl | (simp; done) | (simp [*]; done)), (by first | rfl | (simp; done) | (simp [*]; done)), (by first | rfl | (simp; done) | (simp [*]; done)), H', ⟨by have := HJ1.out; have := HJ5.out; have := HK3.out; have := HJ9.out; have := HJ17.out; omega⟩, ⟨by (with_reducible repeat (first | apply Kd.R_alloc | apply Kd.R_drewN | apply Kd.R_drew)); exact HO_3.out⟩, ⟨by repeat (first | (with_reducible first | exact HB.out | apply below_alloc | apply pw_below_drewN | apply below_drew1) | exact HB.out)⟩⟩
                                  · rw [if_neg c21] at H
                                    have c21b0 : ((x0_5.extract (x5_3 : Int).toNat (x6_3 : Int).toNat).toList == ([46, 46] : List UInt8)) = false := beq_eq_false_iff_ne.mpr c21
                                    have c21b1 : ((x0_5.extract (x5_3 : Int).toNat (x6_3 : Int).toNat).toList != ([46, 46] : List UInt8)) = true := bne_iff_ne.mpr c21
                                    have H' := Aside0.mk H
                                    clear H
                                    go_wp2
                                    go_roundg kj17
                                    case measure => have := HJ1.out; have := HJ5.out; have := HK3.out; have := HJ9.out; have := HJ17.out; omega
                                    case rel => exact ⟨(x3_3), ((x6_3 == (x0_5.size : Int))), (wrap64 (x6_3 + 1)), (wrap64 (x6_3 + 1)), (by first | rfl | (simp; done) | (simp [*]; done)), (by first | rfl | (simp; done) | (simp [*]; done)), (by first | rfl | (simp; done) | (simp [*]; done)), H', ⟨by have := HJ1.out; have := HJ5.out; have := HK3.out; have := HJ9.out; have := HJ17.out; omega⟩, ⟨by (with_reducible repeat (first | apply Kd.R_alloc | apply Kd.R_drewN | apply Kd.R_drew)); exact HO_3.out⟩, ⟨by repeat (first | (with_reducible first | exact HB.out | apply below_alloc | apply pw_below_drewN | apply below_drew1) | exact HB.out)⟩⟩
                                · replace c20 := Bool.eq_false_iff.mpr c20
                                  subst c20
                                  have H1 : (if (x6_3 == (x0_5.size : Int)) = true then (if (x0_5.extract (x5_3 : Int).toNat (x6_3 : Int).toNat).toList = ([] : List UInt8) then (ambryref23_Dots.l0 kj17 x0_5 x3_3 true (wrap64 (x6_3 + 1)) (wrap64 (x6_3 + 1))) else (if x3_3.length < 8796093022208 then (ambryref23_Dots.l0 kj17 x0_5 (x3_3 ++ [(x0_5.extract (x5_3 : Int).toNat (x6_3 : Int).toNat)]) x4_3 (wrap64 (x6_3 + 1)) (wrap64 (x6_3 + 1))) else (none))) else (if x3_3.length < 8796093022208 then (ambryref23_Dots.l0 kj17 x0_5 (x3_3 ++ [(x0_5.extract (x5_3 : Int).toNat (x6_3 : Int).toNat)]) x4_3 (wrap64 (x6_3 + 1)) (wrap64 (x6_3 + 1))) else (none))) = some r := by rw [if_neg (show ¬ (false = true) by decide)] at H; exact H
                                  clear H
                                  have H := H1
                                  clear H1
                                  by_cases c29 : (x6_3 == (x0_5.size : Int)) = true
                                  · rw [if_pos c29] at H
                                    have c29b0 : (x6_3 == (x0_5.size : Int)) = true := c29
                                    (try (have c29b1 : decide (x6_3 = (x0_5.size : Int)) = true := by simpa using c29))
                                    (try (have c29b2 : (x6_3 == (x0_5.size : Int)) = true := by simpa using c29))
                                    clear c29
                                    by_cases c30 : (x0_5.extract (x5_3 : Int).toNat (x6_3 : Int).toNat).toList = ([] : List UInt8)
                                    · rw [if_pos c30] at H
                                      have c30b0 : ((x0_5.extract (x5_3 : Int).toNat (x6_3 : Int).toNat).toList == ([] : List UInt8)) = true := beq_iff_eq.mpr c30
                                      have c30b1 : ((x0_5.extract (x5_3 : Int).toNat (x6_3 : Int).toNat).toList != ([] : List UInt8)) = false := bne_eq_false_iff_eq.mpr c30
                                      clear c30
                                      have H' := Aside0.mk H
                                      clear H
                                      go_wp2
                                      go_roundg kj17
                                      case measure => have := HJ1.out; have := HJ5.out; have := HK3.out; have := HJ9.out; have := HJ17.out; omega
                                      case rel => exact ⟨(x3_3), (true), (wrap64 (x6_3 + 1)), (wrap64 (x6_3 + 1)), (by first | rfl | (simp; done) | (simp [*]; done)), (by first | rfl | (simp; done) | (simp [*]; done)), (by first | rfl | (simp; done) | (simp [*]; done)), H', ⟨by have := HJ1.out; have := HJ5.out; have := HK3.out; have := HJ9.out; have := HJ17.out; omega⟩, ⟨by (with_reducible repeat (first | apply Kd.R_alloc | apply Kd.R_drewN | apply Kd.R_drew)); exact HO_3.out⟩, ⟨by repeat (first | (with_reducible first | exact HB.out | apply below_alloc | apply pw_below_drewN | apply below_drew1) | exact HB.out)⟩⟩
                                    · rw [if_neg c30] at H
                                      have c30b0 : ((x0_5.extract (x5_3 : Int).toNat (x6_3 : Int).toNat).toList == ([] : List UInt8)) = false := beq_eq_false_iff_ne.mpr c30
                                      have c30b1 : ((x0_5.extract (x5_3 : Int).toNat (x6_3 : Int).toNat).toList != ([] : List UInt8)) = true := bne_iff_ne.mpr c30
                                      by_cases c31 : x3_3.length < 8796093022208
                                      · rw [if_pos c31] at H
                                        have LMc31 := Aside0.mk c31
                                        clear c31
                                        obtain ⟨y166, hy166⟩ : ∃ y_ : List ByteArray, y_ = (x3_3 ++ [(x0_5.extract (x5_3 : Int).toNat (x6_3 : Int).toNat)]) := ⟨_, rfl⟩
                                        replace H : (ambryref23_Dots.l0 kj17 x0_5 y166 x4_3 (wrap64 (x6_3 + 1)) (wrap64 (x6_3 + 1))) = some r := by first | (rw [hy166]; with_reducible exact H) | (have H2_ := (Option.bind_some _ _).symm.trans H; rw [hy166]; with_reducible exact H2_) | (have H2_ := (Option.bind_some _ _).symm.trans H; with_reducible exact H2_) | with_reducible exact H | (rw [hy166]; exact H) | exact H
                                        have Ny166 := Aside0.mk hy166
                                        clear hy166
                                        have H' := Aside0.mk H
                                        clear H
                                        go_wp2_with (first | ((with_reducible refine gate_builtin (b := .append) (xs := #[.tmp 50, .tmp 52]) rfl ?_); (try (refine gate_guard (by rfl) ?_; dsimp only)); at_builtin; refine Kd.R_append Kd.string (w0 := w) w.heap.size rfl (.tmp 50) (.tmp 52) 30 9 (.string ⟨#[]⟩) 16 rfl Tryd.underlying30 info9 rfl (by decide) (by omega) u3 x3_3 (x0_5.extract (x5_3 : Int).toNat (x6_3 : Int).toNat) [.string (x0_5.extract (x5_3 : Int).toNat (x6_3 : Int).toNat)] (fun _ => True) (fun _ => False) rfl rfl ?aP (fun _ hk => hk.elim) ?aF ?aO ?aB ?aS ?aL ?_; (case aP => exact rfl); (case aB => exact (by repeat (first | (with_reducible first | exact HB.out | apply below_alloc | apply pw_below_drewN | apply below_drew1) | exact HB.out))); (case aF => exact (fun _ _ => trivial)); (case aO => exact (by (with_reducible repeat (first | apply Kd.R_alloc | apply Kd.R_drewN | apply Kd.R_drew)); exact HO_3.out)); (case aS => exact (below_size (by repeat (first | (with_reducible first | exact HB.out | apply below_alloc | apply pw_below_drewN | apply below_drew1) | exact HB.out)))); (case aL => have := LMc31.out; omega); intro v167 w32 ho hb hg hat; rw [← Ny166.out] at ho; have n0_ := Aside0.mk (hb); have n1_ := Aside0.mk (ho); clear HB; clear HO_3; have HB := n0_; have HO168 := n1_; clear n0_ n1_; clear ho hb hg hat))
                                        go_roundg kj17
                                        case measure => have := HJ1.out; have := HJ5.out; have := HK3.out; have := HJ9.out; have := HJ17.out; omega
                                        case rel => exact ⟨(y166), (x4_3), (wrap64 (x6_3 + 1)), (wrap64 (x6_3 + 1)), (by first | rfl | (simp; done) | (simp [*]; done)), (by first | rfl | (simp; done) | (simp [*]; done)), (by first | rfl | (simp; done) | (simp [*]; done)), H', ⟨by have := HJ1.out; have := HJ5.out; have := HK3.out; have := HJ9.out; have := HJ17.out; omega⟩, ⟨by (with_reducible repeat (first | apply Kd.R_alloc | apply Kd.R_drewN | apply Kd.R_drew)); exact HO168.out⟩, ⟨by repeat (first | (with_reducible first | exact HB.out | apply below_alloc | apply pw_below_drewN | apply below_drew1) | exact HB.out)⟩⟩
                                      · rw [if_neg c31] at H
                                        exact absurd H (by simp)
                                  · rw [if_neg c29] at H
                                    have c29b0 : (x6_3 == (x0_5.size : Int)) = false := by simpa using c29
                                    (try (have c29b1 : decide (x6_3 = (x0_5.size : Int)) = false := by simpa using c29))
                                    (try (have c29b2 : (x6_3 == (x0_5.size : Int)) = false := by simpa using c29))
                                    (try (have c29b3 : ¬ (x6_3 = (x0_5.size : Int)) := by simpa using c29))
                                    clear c29
                                    by_cases c33 : x3_3.length < 8796093022208
                                    · rw [if_pos c33] at H
                                      have LMc33 := Aside0.mk c33
                                      clear c33
                                      obtain ⟨y169, hy169⟩ : ∃ y_ : List ByteArray, y_ = (x3_3 ++ [(x0_5.extract (x5_3 : Int).toNat (x6_3 : Int).toNat)]) := ⟨_, rfl⟩
                                      replace H : (ambryref23_Dots.l0 kj17 x0_5 y169 x4_3 (wrap64 (x6_3 + 1)) (wrap64 (x6_3 + 1))) = some r := by first | (rw [hy169]; with_reducible exact H) | (have H2_ := (Option.bind_some _ _).symm.trans H; rw [hy169]; with_reducible exact H2_) | (have H2_ := (Option.bind_some _ _).symm.trans H; with_reducible exact H2_) | with_reducible exact H | (rw [hy169]; exact H) | exact H
                                      have Ny169 := Aside0.mk hy169
                                      clear hy169
                                      have H' := Aside0.mk H
                                      clear H
                                      go_wp2_with (first | ((with_reducible refine gate_builtin (b := .append) (xs := #[.tmp 50, .tmp 52]) rfl ?_); (try (refine gate_guard (by rfl) ?_; dsimp only)); at_builtin; refine Kd.R_append Kd.string (w0 := w) w.heap.size rfl (.tmp 50) (.tmp 52) 30 9 (.string ⟨#[]⟩) 16 rfl Tryd.underlying30 info9 rfl (by decide) (by omega) u3 x3_3 (x0_5.extract (x5_3 : Int).toNat (x6_3 : Int).toNat) [.string (x0_5.extract (x5_3 : Int).toNat (x6_3 : Int).toNat)] (fun _ => True) (fun _ => False) rfl rfl ?aP (fun _ hk => hk.elim) ?aF ?aO ?aB ?aS ?aL ?_; (case aP => exact rfl); (case aB => exact (by repeat (first | (with_reducible first | exact HB.out | apply below_alloc | apply pw_below_drewN | apply below_drew1) | exact HB.out))); (case aF => exact (fun _ _ => trivial)); (case aO => exact (by (with_reducible repeat (first | apply Kd.R_alloc | apply Kd.R_drewN | apply Kd.R_drew)); exact HO_3.out)); (case aS => exact (below_size (by repeat (first | (with_reducible first | exact HB.out | apply below_alloc | apply pw_below_drewN | apply below_drew1) | exact HB.out)))); (case aL => have := LMc33.out; omega); intro v170 w34 ho hb hg hat; rw [← Ny169.out] at ho; have n0_ := Aside0.mk (hb); have n1_ := Aside0.mk (ho); clear HB; clear HO_3; have HB := n0_; have HO171 := n1_; clear n0_ n1_; clear ho hb hg hat))
                                      go_roundg kj17
                                      case measure => have := HJ1.out; have := HJ5.out; have := HK3.out; have := HJ9.out; have := HJ17.out; omega
                                      case rel => exact ⟨(y169), (x4_3), (wrap64 (x6_3 + 1)), (wrap64 (x6_3 + 1)), (by first | rfl | (simp; done) | (simp [*]; done)), (by first | rfl | (simp; done) | (simp [*]; done)), (by first | rfl | (simp; done) | (simp [*]; done)), H', ⟨by have := HJ1.out; have := HJ5.out; have := HK3.out; have := HJ9.out; have := HJ17.out; omega⟩, ⟨by (with_reducible repeat (first | apply Kd.R_alloc | apply Kd.R_drewN | apply Kd.R_drew)); exact HO171.out⟩, ⟨by repeat (first | (with_reducible first | exact HB.out | apply below_alloc | apply pw_below_drewN | apply below_drew1) | exact HB.out)⟩⟩
                                    · rw [if_neg c33] at H
                                      exact absurd H (by simp)
                          · rw [if_neg c17] at H
                            exact absurd H (by simp)
                        · rw [if_neg c16] at H
                          exact absurd H (by simp)
                      · rw [if_neg c15] at H
                        exact absurd H (by simp)
              · rw [if_neg c9] at H
                have c9b0 : decide (x6_3 ≤ (x0_5.size : Int)) = false := decide_eq_false c9
                clear c9
                have H' := Aside0.mk H
                clear H
                go_wp2
                go_loopg [9, 10] k3 (fun kq v9 v10 w' => ∃ (x9_4 : ByteArray) (x10_4 : Int), v9 = .string x9_4 ∧ v10 = .int .i64 x10_4 ∧ Aside0 (ambryref23_Dots.l1 kq x3_3 x4_3 x9_4 x10_4 = some r) ∧ Aside0 (kq ≤ k3) ∧ Aside0 (Kd.R Kd.string 9 w' w.heap.size (fun _ => True) u3 x3_3) ∧ Aside0 (Below w.heap.size w w'))
                case atStart => exact ⟨((⟨#[]⟩ : ByteArray)), (0), (by first | rfl | (simp; done) | (simp [*]; done)), (by first | rfl | (simp; done) | (simp [*]; done)), H', ⟨Nat.le_refl _⟩, ⟨by (with_reducible repeat (first | apply Kd.R_alloc | apply Kd.R_drewN | apply Kd.R_drew)); exact HO_3.out⟩, ⟨by repeat (first | (with_reducible first | exact HB.out | apply below_alloc | apply pw_below_drewN | apply below_drew1) | exact HB.out)⟩⟩
                case round =>
                  clear H'
                  try clear hji23
                  try clear hji23w
                  try clear c1
                  try clear p1
                  try clear q1
                  try clear hx1
                  try clear c2
                  try clear p2
                  try clear q2
                  try clear c3
                  try clear c3b0
                  try clear c3b1
                  try clear c4
                  try clear c4b0
                  try clear c4b1
                  try clear p5
                  try clear q5
                  try clear hx5
                  try clear qi5
                  try clear p6
                  try clear c7
                  try clear c8
                  try clear c8b0
                  try clear c8b1
                  try clear c8b2
                  try clear c9
                  try clear c9b0
                  try clear c11
                  try clear c11b0
                  try clear c12
                  try clear c12b0
                  try clear p13
                  try clear q13
                  try clear hx13
                  try clear c14
                  try clear c15
                  try clear c15b0
                  try clear c15b1
                  try clear c16
                  try clear c16b0
                  try clear c16b1
                  try clear c17
                  try clear c17b0
                  try clear c17b1
                  try clear c19
                  try clear c19b0
                  try clear c19b1
                  try clear c20
                  try clear c21
                  try clear c21b0
                  try clear c21b1
                  try clear c22
                  try clear c22b0
                  try clear c22b1
                  try clear c24
                  try clear c24b0
                  try clear c24b1
                  try clear c25
                  try clear c25b0
                  try clear c25b1
                  try clear q27
                  try clear c29
                  try clear c29b0
                  try clear c29b1
                  try clear c29b2
                  try clear c30
                  try clear c30b0
                  try clear c30b1
                  try clear c31
                  try clear c33
                  try clear p1
                  try clear p13
                  try clear p2
                  try clear p5
                  try clear p6
                  try clear q1
                  try clear q13
                  try clear q27
                  try clear q5
                  obtain ⟨x9_4, x10_4, rfl, rfl, HA, HK4, HO_3, HB⟩ := hrel
                  cases gk with
                  | zero => exact absurd HA.out (by simp [ambryref23_Dots.l1])
                  | succ k4 =>
                    have H := HA.out
                    clear HA
                    simp only [ambryref23_Dots.l1] at H
                    by_cases c35 : x10_4 < (x3_3.length : Int)
                    · rw [if_pos c35] at H
                      have c35b0 : decide (x10_4 < (x3_3.length : Int)) = true := decide_eq_true c35
                      clear c35
                      by_cases c36 : x9_4.size + 1 ≤ 9223372036854775807
                      · rw [if_pos c36] at H
                        have c36b0 := eq_true c36
                        have c36b1 : decide (x9_4.size + 1 ≤ 9223372036854775807) = true := decide_eq_true c36
                        try have c36b2 : (9223372036854775807 < x9_4.size + 1) = False := eq_false (Nat.not_lt.2 c36)
                        by_cases c37 : 0 ≤ x10_4
                        · rw [if_pos c37] at H
                          have c37b0 : decide (0 ≤ x10_4) = true := decide_eq_true c37
                          clear c37
                          by_cases c38 : (x9_4 ++ (⟨#[47]⟩ : ByteArray)).size + (rdOf ByteArray.empty x3_3 x10_4).size ≤ 9223372036854775807
                          · rw [if_pos c38] at H
                            have c38b0 := eq_true c38
                            have c38b1 : decide ((x9_4 ++ (⟨#[47]⟩ : ByteArray)).size + (rdOf ByteArray.empty x3_3 x10_4).size ≤ 9223372036854775807) = true := decide_eq_true c38
                            try have c38b2 : (9223372036854775807 < (x9_4 ++ (⟨#[47]⟩ : ByteArray)).size + (rdOf ByteArray.empty x3_3 x10_4).size) = False := eq_false (Nat.not_lt.2 c38)
                            try (have c38d := Nat.not_lt.2 c38; simp only [ByteArray.size_append, (show (⟨#[47]⟩ : ByteArray).size = 1 from rfl), Nat.reduceAdd] at c38d; replace c38d := eq_false c38d)
                            have H' := Aside0.mk H
                            clear H
                            obtain ⟨Ao39, co39, eo39⟩ := Kd.R_slice HO_3.out
                            subst eo39
                            have p172 : 0 ≤ (x10_4 : Int) := of_decide_eq_true (by first | (with_reducible assumption) | assumption)
                            have q172 : x10_4 < (x3_3.length : Int) := of_decide_eq_true (by first | (with_reducible assumption) | assumption)
                            obtain ⟨ad172, e172, hx172_0⟩ := Kd.at_string (Kd.R_reads' HO_3.out).2.2 x10_4 p172 q172
                            cases e172
                            replace p172 := eq_true p172
                            replace q172 := eq_true q172
                            go_wp2
                            go_roundg k4
                            case measure => have := HJ1.out; have := HJ5.out; have := HK3.out; have := HK4.out; omega
                            case rel => exact ⟨((x9_4 ++ (⟨#[47]⟩ : ByteArray)) ++ (rdOf ByteArray.empty x3_3 x10_4)), (wrap64 (x10_4 + 1)), (by first | rfl | (simp; done) | (simp [*]; done)), (by first | rfl | (simp; done) | (simp [*]; done)), H', ⟨by have := HJ1.out; have := HJ5.out; have := HK3.out; have := HK4.out; omega⟩, ⟨by (with_reducible repeat (first | apply Kd.R_alloc | apply Kd.R_drewN | apply Kd.R_drew)); exact HO_3.out⟩, ⟨by repeat (first | (with_reducible first | exact HB.out | apply below_alloc | apply pw_below_drewN | apply below_drew1) | exact HB.out)⟩⟩
                          · rw [if_neg c38] at H
                            exact absurd H (by simp)
                        · rw [if_neg c37] at H
                          exact absurd H (by simp)
                      · rw [if_neg c36] at H
                        exact absurd H (by simp)
                    · rw [if_neg c35] at H
                      have c35b0 : decide (x10_4 < (x3_3.length : Int)) = false := decide_eq_false c35
                      clear c35
                      by_cases c40 : x4_3 = true
                      · subst c40
                        have H1 : (if x9_4.size + 1 ≤ 9223372036854775807 then (some (x9_4 ++ (⟨#[47]⟩ : ByteArray))) else (none)) = some r := by rw [if_pos rfl] at H; exact H
                        clear H
                        have H := H1
                        clear H1
                        by_cases c41 : x9_4.size + 1 ≤ 9223372036854775807
                        · rw [if_pos c41] at H
                          have c41b0 := eq_true c41
                          have c41b1 : decide (x9_4.size + 1 ≤ 9223372036854775807) = true := decide_eq_true c41
                          try have c41b2 : (9223372036854775807 < x9_4.size + 1) = False := eq_false (Nat.not_lt.2 c41)
                          obtain rfl := Option.some.inj H
                          obtain ⟨Ao42, co42, eo42⟩ := Kd.R_slice HO_3.out
                          subst eo42
                          go_wp2
                          go_ret
                          exact ⟨by first | rfl | (simp [errW_none, errW_some] <;> rfl) | (simp [*, errW_none, errW_some] <;> rfl), by repeat (first | (with_reducible first | exact HB.out | apply below_alloc | apply pw_below_drewN | apply below_drew1) | exact HB.out)⟩
                        · rw [if_neg c41] at H
                          exact absurd H (by simp)
                      · replace c40 := Bool.eq_false_iff.mpr c40
                        subst c40
                        have H1 : (if x9_4.toList = ([] : List UInt8) then (if x9_4.size + 1 ≤ 9223372036854775807 then (some (x9_4 ++ (⟨#[47]⟩ : ByteArray))) else (none)) else (some x9_4)) = some r := by rw [if_neg (show ¬ (false = true) by decide)] at H; exact H
                        clear H
                        have H := H1
                        clear H1
                        by_cases c43 : x9_4.toList = ([] : List UInt8)
                        · rw [if_pos c43] at H
                          have c43b0 : (x9_4.toList == ([] : List UInt8)) = true := beq_iff_eq.mpr c43
                          have c43b1 : (x9_4.toList != ([] : List UInt8)) = false := bne_eq_false_iff_eq.mpr c43
                          clear c43
                          by_cases c44 : x9_4.size + 1 ≤ 9223372036854775807
                          · rw [if_pos c44] at H
                            have c44b0 := eq_true c44
                            have c44b1 : decide (x9_4.size + 1 ≤ 9223372036854775807) = true := decide_eq_true c44
                            try have c44b2 : (9223372036854775807 < x9_4.size + 1) = False := eq_false (Nat.not_lt.2 c44)
                            obtain rfl := Option.some.inj H
                            obtain ⟨Ao45, co45, eo45⟩ := Kd.R_slice HO_3.out
                            subst eo45
                            go_wp2
                            go_ret
                            exact ⟨by first | rfl | (simp [errW_none, errW_some] <;> rfl) | (simp [*, errW_none, errW_some] <;> rfl), by repeat (first | (with_reducible first | exact HB.out | apply below_alloc | apply pw_below_drewN | apply below_drew1) | exact HB.out)⟩
                          · rw [if_neg c44] at H
                            exact absurd H (by simp)
                        · rw [if_neg c43] at H
                          have c43b0 : (x9_4.toList == ([] : List UInt8)) = false := beq_eq_false_iff_ne.mpr c43
                          have c43b1 : (x9_4.toList != ([] : List UInt8)) = true := bne_iff_ne.mpr c43
                          obtain rfl := Option.some.inj H
                          obtain ⟨Ao46, co46, eo46⟩ := Kd.R_slice HO_3.out
                          subst eo46
                          go_wp2
                          go_ret
                          exact ⟨by first | rfl | (simp [errW_none, errW_some] <;> rfl) | (simp [*, errW_none, errW_some] <;> rfl), by repeat (first | (with_reducible first | exact HB.out | apply below_alloc | apply pw_below_drewN | apply below_drew1) | exact HB.out)⟩

end Go.Proofs.YtgpkgfdojfnafaaDoor.K
