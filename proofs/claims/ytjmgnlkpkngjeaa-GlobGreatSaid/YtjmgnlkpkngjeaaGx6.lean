-- PRINTED by print.py (a twelfth state) out of the translation. Not trusted: Lean checks it.
import Derived.Test.YtjmgnlkpkngjeaaGx0
import Derived.Test.YtjmgnlkpkngjeaaGx2
import Derived.Test.YtjmgnlkpkngjeaaGx3
import Derived.Test.YtjmgnlkpkngjeaaGx4
namespace Go.Proofs.Ytjmgnlkpkngjeaa.G
open Go.RowKit Go.Proofs.YtjmgnlkpkngjeaaW.PrintWords Go.Proofs.YtjmgnlkpkngjeaaW.PrintLast Go.Proofs.YtjmgnlkpkngjeaaW.PrintMore
attribute [local go_sem] max2_int min2_int max_two min_two max_three min_three max_four min_four   -- for this text's walks alone
set_option linter.unusedVariables false
set_option linter.unusedSimpArgs false

/-! ### ambrylaw24_GlobSegments: function 5 -/
mutual
def ambrylaw24_GlobSegments.j0 : Nat → List Int → List Bool → Bool → Option (Bool)
  | 0, _, _, _ => none
  | k + 1, x0, x1, x21 => if x21 = true then (some true) else (ambrylaw24_GlobSegments.l0 k x0 x1 (⟨#[]⟩ : ByteArray) (⟨#[]⟩ : ByteArray) (⟨#[]⟩ : ByteArray) 0)
def ambrylaw24_GlobSegments.l0 : Nat → List Int → List Bool → ByteArray → ByteArray → ByteArray → Int → Option (Bool)
  | 0, _, _, _, _, _, _ => none
  | k + 1, x0, x1, x5, x6, x7, x8 => if x8 < (x0.length : Int) then ((some (([(⟨#[97]⟩ : ByteArray), (⟨#[98, 99]⟩ : ByteArray), (⟨#[]⟩ : ByteArray), (⟨#[100, 46, 101]⟩ : ByteArray)] : List ByteArray) : List ByteArray)).bind fun y234 => (if 0 ≤ x8 then (if 0 ≤ (Int.tmod (rd x0 x8) 4) then (if (Int.tmod (rd x0 x8) 4) < (y234.length : Int) then (if x5.size + 1 ≤ 9223372036854775807 then (if (x5 ++ (⟨#[47]⟩ : ByteArray)).size + (rdOf ByteArray.empty y234 (Int.tmod (rd x0 x8) 4)).size ≤ 9223372036854775807 then (if x8 < (x1.length : Int) then (if rdOf false x1 x8 = true then (if x6.size + 2 ≤ 9223372036854775807 then (if x7.size + 3 ≤ 9223372036854775807 then (ambrylaw24_GlobSegments.l0 k x0 x1 ((x5 ++ (⟨#[47]⟩ : ByteArray)) ++ (rdOf ByteArray.empty y234 (Int.tmod (rd x0 x8) 4))) (x6 ++ (⟨#[47, 42]⟩ : ByteArray)) (x7 ++ (⟨#[47, 42, 42]⟩ : ByteArray)) (wrap64 (x8 + 1))) else (none)) else (none)) else (if x6.size + 1 ≤ 9223372036854775807 then (if (x6 ++ (⟨#[47]⟩ : ByteArray)).size + (rdOf ByteArray.empty y234 (Int.tmod (rd x0 x8) 4)).size ≤ 9223372036854775807 then (if x7.size + 1 ≤ 9223372036854775807 then (if (x7 ++ (⟨#[47]⟩ : ByteArray)).size + (rdOf ByteArray.empty y234 (Int.tmod (rd x0 x8) 4)).size ≤ 9223372036854775807 then (ambrylaw24_GlobSegments.l0 k x0 x1 ((x5 ++ (⟨#[47]⟩ : ByteArray)) ++ (rdOf ByteArray.empty y234 (Int.tmod (rd x0 x8) 4))) ((x6 ++ (⟨#[47]⟩ : ByteArray)) ++ (rdOf ByteArray.empty y234 (Int.tmod (rd x0 x8) 4))) ((x7 ++ (⟨#[47]⟩ : ByteArray)) ++ (rdOf ByteArray.empty y234 (Int.tmod (rd x0 x8) 4))) (wrap64 (x8 + 1))) else (none)) else (none)) else (none)) else (none))) else (none)) else (none)) else (none)) else (none)) else (none)) else (none))) else ((glob_Match.f k x6 x5).bind fun t240 => (if t240 = true then ((glob_Match.f k x7 x5).bind fun t241 => (if t241 = true then (if x5.size + 2 ≤ 9223372036854775807 then ((glob_Match.f k x6 (x5 ++ (⟨#[47, 122]⟩ : ByteArray))).bind fun t242 => (if (x0.length : Int) = 0 then (if ((!t242) == (!(x6.toList == (x5 ++ (⟨#[47, 122]⟩ : ByteArray)).toList))) = true then (if 1 + x5.size ≤ 9223372036854775807 then ((glob_Match.f k x6 ((⟨#[122]⟩ : ByteArray) ++ x5)).bind fun t243 => (if t243 = true then (some false) else (if x7.size + 2 ≤ 9223372036854775807 then (if x5.size + 4 ≤ 9223372036854775807 then ((glob_Match.f k (x7 ++ (⟨#[42, 42]⟩ : ByteArray)) (x5 ++ (⟨#[47, 122, 47, 121]⟩ : ByteArray))).bind fun t244 => (some t244)) else (none)) else (none)))) else (none)) else (some false)) else (if ((!t242) == (!false)) = true then (if 1 + x5.size ≤ 9223372036854775807 then ((glob_Match.f k x6 ((⟨#[122]⟩ : ByteArray) ++ x5)).bind fun t245 => (if t245 = true then (some false) else (if x7.size + 2 ≤ 9223372036854775807 then (if x5.size + 4 ≤ 9223372036854775807 then ((glob_Match.f k (x7 ++ (⟨#[42, 42]⟩ : ByteArray)) (x5 ++ (⟨#[47, 122, 47, 121]⟩ : ByteArray))).bind fun t246 => (some t246)) else (none)) else (none)))) else (none)) else (some false)))) else (none)) else (some false))) else (some false)))
end
def ambrylaw24_GlobSegments.f (k : Nat) (l0 : List Int) (l1 : List Bool) : Option (Bool) := (ambrylaw24_known.f k).bind fun t233 => (if t233 = true then (if (l0.length : Int) > 12 then (ambrylaw24_GlobSegments.j0 k l0 l1 true) else (ambrylaw24_GlobSegments.j0 k l0 l1 (decide ((l1.length : Int) < (l0.length : Int))))) else (some false))
theorem ambrylaw24_GlobSegments.mono_l : ∀ k, (∀ y0 y1 y2, LeO (ambrylaw24_GlobSegments.j0 k y0 y1 y2) (ambrylaw24_GlobSegments.j0 (k + 1) y0 y1 y2)) ∧ (∀ y0 y1 y2 y3 y4 y5, LeO (ambrylaw24_GlobSegments.l0 k y0 y1 y2 y3 y4 y5) (ambrylaw24_GlobSegments.l0 (k + 1) y0 y1 y2 y3 y4 y5))
  | 0 => ⟨fun _ _ _ r h => by simp [ambrylaw24_GlobSegments.j0] at h, fun _ _ _ _ _ _ r h => by simp [ambrylaw24_GlobSegments.l0] at h⟩
  | k + 1 => by
    obtain ⟨ih0, ih1⟩ := ambrylaw24_GlobSegments.mono_l k
    refine ⟨?_, ?_⟩
    · intro y0 y1 y2
      unfold ambrylaw24_GlobSegments.j0
      repeat' first
      | (with_reducible exact ih0 _ _ _)
      | (with_reducible exact ih1 _ _ _ _ _ _)
      | (with_reducible exact ambrylaw24_known.mono _)
      | (with_reducible exact glob_Match.mono _ _ _)
      | (with_reducible exact LeO.refl _)
      | (with_reducible exact LeO.none _)
      | (with_reducible refine LeO.ite ?_ ?_)
      | (with_reducible refine LeO.bind ?_ (fun _ => ?_))
      | exact ih0 _ _ _
      | exact ih1 _ _ _ _ _ _
      | exact ambrylaw24_known.mono _
      | exact glob_Match.mono _ _ _
      | exact LeO.none _
      | refine LeO.ite ?_ ?_
      | refine LeO.bind ?_ (fun _ => ?_)
    · intro y0 y1 y2 y3 y4 y5
      unfold ambrylaw24_GlobSegments.l0
      repeat' first
      | (with_reducible exact ih0 _ _ _)
      | (with_reducible exact ih1 _ _ _ _ _ _)
      | (with_reducible exact ambrylaw24_known.mono _)
      | (with_reducible exact glob_Match.mono _ _ _)
      | (with_reducible exact LeO.refl _)
      | (with_reducible exact LeO.none _)
      | (with_reducible refine LeO.ite ?_ ?_)
      | (with_reducible refine LeO.bind ?_ (fun _ => ?_))
      | exact ih0 _ _ _
      | exact ih1 _ _ _ _ _ _
      | exact ambrylaw24_known.mono _
      | exact glob_Match.mono _ _ _
      | exact LeO.none _
      | refine LeO.ite ?_ ?_
      | refine LeO.bind ?_ (fun _ => ?_)
theorem ambrylaw24_GlobSegments.mono : ∀ a0 a1 k, LeO (ambrylaw24_GlobSegments.f k a0 a1) (ambrylaw24_GlobSegments.f (k + 1) a0 a1) := by
  intro a0 a1 k
  obtain ⟨ih0, ih1⟩ := ambrylaw24_GlobSegments.mono_l k
  unfold ambrylaw24_GlobSegments.f
  repeat' first
      | (with_reducible exact ih0 _ _ _)
      | (with_reducible exact ih1 _ _ _ _ _ _)
      | (with_reducible exact ambrylaw24_known.mono _)
      | (with_reducible exact glob_Match.mono _ _ _)
      | (with_reducible exact LeO.refl _)
      | (with_reducible exact LeO.none _)
      | (with_reducible refine LeO.ite ?_ ?_)
      | (with_reducible refine LeO.bind ?_ (fun _ => ?_))
      | exact ih0 _ _ _
      | exact ih1 _ _ _ _ _ _
      | exact ambrylaw24_known.mono _
      | exact glob_Match.mono _ _ _
      | exact LeO.none _
      | refine LeO.ite ?_ ?_
      | refine LeO.bind ?_ (fun _ => ?_)
set_option maxHeartbeats 8000000 in
set_option maxRecDepth 100000 in
theorem ambrylaw24_GlobSegments.calls (k : Nat) (A0 : Option Addr) (c0 : Nat) (l0 : List Int) (A1 : Option Addr) (c1 : Nat) (l1 : List Bool) (r : Bool) (w : World) (hr0 : Kd.C (Kd.int .u8) w A0 l0.length l0) (hc0 : l0.length ≤ c0) (hr1 : Kd.C Kd.bool w A1 l1.length l1) (hc1 : l1.length ≤ c1) (h : ambrylaw24_GlobSegments.f k l0 l1 = some r) :
    Calls Try.prog 5 #[.slice A0 l0.length c0, .slice A1 l1.length c1] w fun e w' => e = .returned (.bool r) ∧ Below w.heap.size w w' := by
  have HR0 := Aside0.mk hr0
  have HC0 := Aside0.mk hc0
  clear hr0 hc0
  have HR1 := Aside0.mk hr1
  have HC1 := Aside0.mk hc1
  clear hr1 hc1
  have HB := Aside0.mk (Below.refl w.heap.size w)
  have H : ((ambrylaw24_known.f k).bind fun t233 => (if t233 = true then (if (l0.length : Int) > 12 then (ambrylaw24_GlobSegments.j0 k l0 l1 true) else (ambrylaw24_GlobSegments.j0 k l0 l1 (decide ((l1.length : Int) < (l0.length : Int))))) else (some false))) = some r := h
  clear h
  replace H := Option.bind_eq_some_iff.mp H
  obtain ⟨t233, A30, H⟩ := H
  replace H : (if t233 = true then (if (l0.length : Int) > 12 then (ambrylaw24_GlobSegments.j0 k l0 l1 true) else (ambrylaw24_GlobSegments.j0 k l0 l1 (decide ((l1.length : Int) < (l0.length : Int))))) else (some false)) = some r := H
  have A3 := Aside0.mk A30
  clear A30
  by_cases c4 : t233 = true
  · subst c4
    have H1 : (if (l0.length : Int) > 12 then (ambrylaw24_GlobSegments.j0 k l0 l1 true) else (ambrylaw24_GlobSegments.j0 k l0 l1 (decide ((l1.length : Int) < (l0.length : Int))))) = some r := by rw [if_pos rfl] at H; exact H
    clear H
    have H := H1
    clear H1
    have HC5 := Aside0.mk H
    clear H
    go_enter Try.func5, Try.ntmps5
    go_upto_region 3 with (first | ((with_reducible refine gate_callee (f := 8) rfl ?_); refine goesL_ (some 10) rfl rfl Try.func8 (by kernel_rfl) rfl #[] rfl (by (try simp only [List.map_toArray, List.map_cons, List.map_nil]); first | done | rfl | (simp only [List.length_drop, List.length_take]; rfl)) ?_; (with_reducible refine (ambrylaw24_known.calls k  true _ A3.out).mono ?_); rintro e w6 ⟨rfl, hb⟩; refine ⟨_, rfl, ?_⟩; have n0_ := Aside0.mk (below_step (by repeat (first | (with_reducible first | exact HB.out | apply below_alloc | apply pw_below_drewN | apply below_drew1) | exact HB.out)) hb); clear HB; have HB := n0_; clear n0_; (try clear hb); (try clear hb2); (try clear hk); (try clear hi)))
    (try simp only [Act.put, List.setIfInBounds_toArray, List.set_cons_zero, List.set_cons_succ])
    go_cut [21] (fun v21 wc => ∃ (kq : Nat) (x21_4 : Bool), v21 = .bool x21_4 ∧ Aside0 (ambrylaw24_GlobSegments.j0 kq l0 l1 x21_4 = some r) ∧ Aside0 (kq ≤ k) ∧ Aside0 (Below w.heap.size w wc))
    case first =>
      have H := HC5.out
      clear HC5
      by_cases c7 : (l0.length : Int) > 12
      · rw [if_pos c7] at H
        have c7b0 : decide (12 < (l0.length : Int)) = true := decide_eq_true c7
        have c7b1 : decide (12 < l0.length) = true := decide_eq_true (by omega)
        clear c7
        (first | rw [c7b0] | (simp only [i64_w, i32_w]; rw [c7b0]) | skip)
        have H' := Aside0.mk H
        clear H
        go_wp2
        go_meet
        case rel => exact ⟨_, (true), (by first | rfl | (simp; done) | (simp [*]; done)), H', ⟨by first | omega | exact Nat.le_refl _⟩, ⟨by repeat (first | (with_reducible first | exact HB.out | apply below_alloc | apply pw_below_drewN | apply below_drew1) | exact HB.out)⟩⟩
      · rw [if_neg c7] at H
        have c7b0 : decide (12 < (l0.length : Int)) = false := decide_eq_false c7
        have c7b1 : decide (12 < l0.length) = false := decide_eq_false (by omega)
        clear c7
        (first | rw [c7b0] | (simp only [i64_w, i32_w]; rw [c7b0]) | skip)
        have H' := Aside0.mk H
        clear H
        go_wp2
        go_meet
        case rel => exact ⟨_, (decide ((l1.length : Int) < (l0.length : Int))), (by first | rfl | (simp; done) | (simp [*]; done)), H', ⟨by first | omega | exact Nat.le_refl _⟩, ⟨by repeat (first | (with_reducible first | exact HB.out | apply below_alloc | apply pw_below_drewN | apply below_drew1) | exact HB.out)⟩⟩
    case rest =>
      clear HC5
      try clear c1
      try clear p2
      try clear c4
      try clear c5
      try clear c7
      try clear c7b0
      try clear c7b1
      obtain ⟨kq, x21_4, rfl, HA, HJ4, HB⟩ := hcut
      cases kq with
      | zero => exact absurd HA.out (by simp [ambrylaw24_GlobSegments.j0])
      | succ kj4 =>
        have H := HA.out
        clear HA
        simp only [ambrylaw24_GlobSegments.j0] at H
        by_cases c8 : x21_4 = true
        · subst c8
          have H1 : (some true) = some r := by rw [if_pos rfl] at H; exact H
          clear H
          have H := H1
          clear H1
          obtain rfl := Option.some.inj H
          go_wp2
          go_ret
          exact ⟨by first | rfl | (simp [errW_none, errW_some] <;> rfl) | (simp [*, errW_none, errW_some] <;> rfl), by repeat (first | (with_reducible first | exact HB.out | apply below_alloc | apply pw_below_drewN | apply below_drew1) | exact HB.out)⟩
        · replace c8 := Bool.eq_false_iff.mpr c8
          subst c8
          have H1 : (ambrylaw24_GlobSegments.l0 kj4 l0 l1 (⟨#[]⟩ : ByteArray) (⟨#[]⟩ : ByteArray) (⟨#[]⟩ : ByteArray) 0) = some r := by rw [if_neg (show ¬ (false = true) by decide)] at H; exact H
          clear H
          have H := H1
          clear H1
          have H' := Aside0.mk H
          clear H
          go_wp2
          go_loopg [5, 6, 7, 8] kj4 (fun kq v5 v6 v7 v8 w' => ∃ (x5_2 : ByteArray) (x6_2 : ByteArray) (x7_2 : ByteArray) (x8_2 : Int), v5 = .string x5_2 ∧ v6 = .string x6_2 ∧ v7 = .string x7_2 ∧ v8 = .int .i64 x8_2 ∧ Aside0 (ambrylaw24_GlobSegments.l0 kq l0 l1 x5_2 x6_2 x7_2 x8_2 = some r) ∧ Aside0 (kq ≤ kj4) ∧ Aside0 (Below w.heap.size w w'))
          case atStart => exact ⟨((⟨#[]⟩ : ByteArray)), ((⟨#[]⟩ : ByteArray)), ((⟨#[]⟩ : ByteArray)), (0), (by first | rfl | (simp; done) | (simp [*]; done)), (by first | rfl | (simp; done) | (simp [*]; done)), (by first | rfl | (simp; done) | (simp [*]; done)), (by first | rfl | (simp; done) | (simp [*]; done)), H', ⟨Nat.le_refl _⟩, ⟨by repeat (first | (with_reducible first | exact HB.out | apply below_alloc | apply pw_below_drewN | apply below_drew1) | exact HB.out)⟩⟩
          case round =>
            clear H'
            try clear c1
            try clear p2
            try clear c4
            try clear c5
            try clear c7
            try clear c7b0
            try clear c7b1
            try clear c8
            try clear p2
            obtain ⟨x5_2, x6_2, x7_2, x8_2, rfl, rfl, rfl, rfl, HA, HK2, HB⟩ := hrel
            cases gk with
            | zero => exact absurd HA.out (by simp [ambrylaw24_GlobSegments.l0])
            | succ k2 =>
              have H := HA.out
              clear HA
              simp only [ambrylaw24_GlobSegments.l0] at H
              by_cases c9 : x8_2 < (l0.length : Int)
              · rw [if_pos c9] at H
                have c9b0 : decide (x8_2 < (l0.length : Int)) = true := decide_eq_true c9
                clear c9
                obtain ⟨y234, hy234⟩ : ∃ y_ : List ByteArray, y_ = (([(⟨#[97]⟩ : ByteArray), (⟨#[98, 99]⟩ : ByteArray), (⟨#[]⟩ : ByteArray), (⟨#[100, 46, 101]⟩ : ByteArray)] : List ByteArray)) := ⟨_, rfl⟩
                replace H : (if 0 ≤ x8_2 then (if 0 ≤ (Int.tmod (rd l0 x8_2) 4) then (if (Int.tmod (rd l0 x8_2) 4) < (y234.length : Int) then (if x5_2.size + 1 ≤ 9223372036854775807 then (if (x5_2 ++ (⟨#[47]⟩ : ByteArray)).size + (rdOf ByteArray.empty y234 (Int.tmod (rd l0 x8_2) 4)).size ≤ 9223372036854775807 then (if x8_2 < (l1.length : Int) then (if rdOf false l1 x8_2 = true then (if x6_2.size + 2 ≤ 9223372036854775807 then (if x7_2.size + 3 ≤ 9223372036854775807 then (ambrylaw24_GlobSegments.l0 k2 l0 l1 ((x5_2 ++ (⟨#[47]⟩ : ByteArray)) ++ (rdOf ByteArray.empty y234 (Int.tmod (rd l0 x8_2) 4))) (x6_2 ++ (⟨#[47, 42]⟩ : ByteArray)) (x7_2 ++ (⟨#[47, 42, 42]⟩ : ByteArray)) (wrap64 (x8_2 + 1))) else (none)) else (none)) else (if x6_2.size + 1 ≤ 9223372036854775807 then (if (x6_2 ++ (⟨#[47]⟩ : ByteArray)).size + (rdOf ByteArray.empty y234 (Int.tmod (rd l0 x8_2) 4)).size ≤ 9223372036854775807 then (if x7_2.size + 1 ≤ 9223372036854775807 then (if (x7_2 ++ (⟨#[47]⟩ : ByteArray)).size + (rdOf ByteArray.empty y234 (Int.tmod (rd l0 x8_2) 4)).size ≤ 9223372036854775807 then (ambrylaw24_GlobSegments.l0 k2 l0 l1 ((x5_2 ++ (⟨#[47]⟩ : ByteArray)) ++ (rdOf ByteArray.empty y234 (Int.tmod (rd l0 x8_2) 4))) ((x6_2 ++ (⟨#[47]⟩ : ByteArray)) ++ (rdOf ByteArray.empty y234 (Int.tmod (rd l0 x8_2) 4))) ((x7_2 ++ (⟨#[47]⟩ : ByteArray)) ++ (rdOf ByteArray.empty y234 (Int.tmod (rd l0 x8_2) 4))) (wrap64 (x8_2 + 1))) else (none)) else (none)) else (none)) else (none))) else (none)) else (none)) else (none)) else (none)) else (none)) else (none)) = some r := by first | (rw [hy234]; with_reducible exact H) | (have H2_ := (Option.bind_some _ _).symm.trans H; rw [hy234]; with_reducible exact H2_) | (have H2_ := (Option.bind_some _ _).symm.trans H; with_reducible exact H2_) | with_reducible exact H | (rw [hy234]; exact H) | exact H
                have Ny234 := Aside0.mk hy234
                clear hy234
                by_cases c10 : 0 ≤ x8_2
                · rw [if_pos c10] at H
                  have c10b0 : decide (0 ≤ x8_2) = true := decide_eq_true c10
                  clear c10
                  obtain ⟨ji11, hji11⟩ : ∃ j_ : Int, (Int.tmod (rd l0 x8_2) 4) = j_ := ⟨_, rfl⟩
                  replace H : (if 0 ≤ (ji11) then (if (ji11) < (y234.length : Int) then (if x5_2.size + 1 ≤ 9223372036854775807 then (if (x5_2 ++ (⟨#[47]⟩ : ByteArray)).size + (rdOf ByteArray.empty y234 (ji11)).size ≤ 9223372036854775807 then (if x8_2 < (l1.length : Int) then (if rdOf false l1 x8_2 = true then (if x6_2.size + 2 ≤ 9223372036854775807 then (if x7_2.size + 3 ≤ 9223372036854775807 then (ambrylaw24_GlobSegments.l0 k2 l0 l1 ((x5_2 ++ (⟨#[47]⟩ : ByteArray)) ++ (rdOf ByteArray.empty y234 (ji11))) (x6_2 ++ (⟨#[47, 42]⟩ : ByteArray)) (x7_2 ++ (⟨#[47, 42, 42]⟩ : ByteArray)) (wrap64 (x8_2 + 1))) else (none)) else (none)) else (if x6_2.size + 1 ≤ 9223372036854775807 then (if (x6_2 ++ (⟨#[47]⟩ : ByteArray)).size + (rdOf ByteArray.empty y234 (ji11)).size ≤ 9223372036854775807 then (if x7_2.size + 1 ≤ 9223372036854775807 then (if (x7_2 ++ (⟨#[47]⟩ : ByteArray)).size + (rdOf ByteArray.empty y234 (ji11)).size ≤ 9223372036854775807 then (ambrylaw24_GlobSegments.l0 k2 l0 l1 ((x5_2 ++ (⟨#[47]⟩ : ByteArray)) ++ (rdOf ByteArray.empty y234 (ji11))) ((x6_2 ++ (⟨#[47]⟩ : ByteArray)) ++ (rdOf ByteArray.empty y234 (ji11))) ((x7_2 ++ (⟨#[47]⟩ : ByteArray)) ++ (rdOf ByteArray.empty y234 (ji11))) (wrap64 (x8_2 + 1))) else (none)) else (none)) else (none)) else (none))) else (none)) else (none)) else (none)) else (none)) else (none)) = some r := by first | (rw [hji11] at H; exact H) | (simp only [hji11] at H ⊢; exact H)
                  by_cases c12 : 0 ≤ (ji11)
                  · rw [if_pos c12] at H
                    have c12b0 : decide (0 ≤ (ji11)) = true := decide_eq_true c12
                    clear c12
                    by_cases c13 : (ji11) < (y234.length : Int)
                    · rw [if_pos c13] at H
                      have c13b0 : decide ((ji11) < (y234.length : Int)) = true := decide_eq_true c13
                      clear c13
                      by_cases c14 : x5_2.size + 1 ≤ 9223372036854775807
                      · rw [if_pos c14] at H
                        have c14b0 := eq_true c14
                        have c14b1 : decide (x5_2.size + 1 ≤ 9223372036854775807) = true := decide_eq_true c14
                        try have c14b2 : (9223372036854775807 < x5_2.size + 1) = False := eq_false (Nat.not_lt.2 c14)
                        by_cases c15 : (x5_2 ++ (⟨#[47]⟩ : ByteArray)).size + (rdOf ByteArray.empty y234 (ji11)).size ≤ 9223372036854775807
                        · rw [if_pos c15] at H
                          have c15b0 := eq_true c15
                          have c15b1 : decide ((x5_2 ++ (⟨#[47]⟩ : ByteArray)).size + (rdOf ByteArray.empty y234 (ji11)).size ≤ 9223372036854775807) = true := decide_eq_true c15
                          try have c15b2 : (9223372036854775807 < (x5_2 ++ (⟨#[47]⟩ : ByteArray)).size + (rdOf ByteArray.empty y234 (ji11)).size) = False := eq_false (Nat.not_lt.2 c15)
                          by_cases c16 : x8_2 < (l1.length : Int)
                          · rw [if_pos c16] at H
                            have c16b0 : decide (x8_2 < (l1.length : Int)) = true := decide_eq_true c16
                            clear c16
                            obtain ⟨bq17, hbq17⟩ : ∃ b_ : Bool, b_ = (rdOf false l1 x8_2) := ⟨_, rfl⟩
                            replace H : (if bq17 = true then (if x6_2.size + 2 ≤ 9223372036854775807 then (if x7_2.size + 3 ≤ 9223372036854775807 then (ambrylaw24_GlobSegments.l0 k2 l0 l1 ((x5_2 ++ (⟨#[47]⟩ : ByteArray)) ++ (rdOf ByteArray.empty y234 (ji11))) (x6_2 ++ (⟨#[47, 42]⟩ : ByteArray)) (x7_2 ++ (⟨#[47, 42, 42]⟩ : ByteArray)) (wrap64 (x8_2 + 1))) else (none)) else (none)) else (if x6_2.size + 1 ≤ 9223372036854775807 then (if (x6_2 ++ (⟨#[47]⟩ : ByteArray)).size + (rdOf ByteArray.empty y234 (ji11)).size ≤ 9223372036854775807 then (if x7_2.size + 1 ≤ 9223372036854775807 then (if (x7_2 ++ (⟨#[47]⟩ : ByteArray)).size + (rdOf ByteArray.empty y234 (ji11)).size ≤ 9223372036854775807 then (ambrylaw24_GlobSegments.l0 k2 l0 l1 ((x5_2 ++ (⟨#[47]⟩ : ByteArray)) ++ (rdOf ByteArray.empty y234 (ji11))) ((x6_2 ++ (⟨#[47]⟩ : ByteArray)) ++ (rdOf ByteArray.empty y234 (ji11))) ((x7_2 ++ (⟨#[47]⟩ : ByteArray)) ++ (rdOf ByteArray.empty y234 (ji11))) (wrap64 (x8_2 + 1))) else (none)) else (none)) else (none)) else (none))) = some r := by rw [← hbq17] at H; exact H
                            have Nbq17 := Aside0.mk hbq17
                            clear hbq17
                            by_cases c18 : bq17 = true
                            · subst c18
                              have H1 : (if x6_2.size + 2 ≤ 9223372036854775807 then (if x7_2.size + 3 ≤ 9223372036854775807 then (ambrylaw24_GlobSegments.l0 k2 l0 l1 ((x5_2 ++ (⟨#[47]⟩ : ByteArray)) ++ (rdOf ByteArray.empty y234 (ji11))) (x6_2 ++ (⟨#[47, 42]⟩ : ByteArray)) (x7_2 ++ (⟨#[47, 42, 42]⟩ : ByteArray)) (wrap64 (x8_2 + 1))) else (none)) else (none)) = some r := by rw [if_pos rfl] at H; exact H
                              clear H
                              have H := H1
                              clear H1
                              by_cases c19 : x6_2.size + 2 ≤ 9223372036854775807
                              · rw [if_pos c19] at H
                                have c19b0 := eq_true c19
                                have c19b1 : decide (x6_2.size + 2 ≤ 9223372036854775807) = true := decide_eq_true c19
                                try have c19b2 : (9223372036854775807 < x6_2.size + 2) = False := eq_false (Nat.not_lt.2 c19)
                                by_cases c20 : x7_2.size + 3 ≤ 9223372036854775807
                                · rw [if_pos c20] at H
                                  have c20b0 := eq_true c20
                                  have c20b1 : decide (x7_2.size + 3 ≤ 9223372036854775807) = true := decide_eq_true c20
                                  try have c20b2 : (9223372036854775807 < x7_2.size + 3) = False := eq_false (Nat.not_lt.2 c20)
                                  have H' := Aside0.mk H
                                  clear H
                                  go_wp2_with (first | ((with_reducible refine gate_dst (N := 28) rfl ?_); (try (refine gate_guard (by rfl) ?_; dsimp only)); refine Kd.R_lit Kd.string _ 9 ?hg (N := 28) ?hd (xs := ([(⟨#[97]⟩ : ByteArray), (⟨#[98, 99]⟩ : ByteArray), (⟨#[]⟩ : ByteArray), (⟨#[100, 46, 101]⟩ : ByteArray)] : List ByteArray)) (inner := [.string (⟨#[97]⟩ : ByteArray), .string (⟨#[98, 99]⟩ : ByteArray), .string (⟨#[]⟩ : ByteArray), .string (⟨#[100, 46, 101]⟩ : ByteArray)]) (ok := fun _ => True) (okp := fun _ => True) ?hr ?hp (fun _ hk => hk) trivial (Below.refl _ _) (Nat.le_refl _) (by simp) ?_; (case hd => rfl); (case hg => rfl); (case hr => first | (go_simp; done) | (go_simp; rfl)); (case hp => exact (Reps.one (show Kd.M Kd.string _ _ _ (⟨#[97]⟩ : ByteArray) [.string (⟨#[97]⟩ : ByteArray)] from rfl) (Reps.one (show Kd.M Kd.string _ _ _ (⟨#[98, 99]⟩ : ByteArray) [.string (⟨#[98, 99]⟩ : ByteArray)] from rfl) (Reps.one (show Kd.M Kd.string _ _ _ (⟨#[]⟩ : ByteArray) [.string (⟨#[]⟩ : ByteArray)] from rfl) (Reps.one (show Kd.M Kd.string _ _ _ (⟨#[100, 46, 101]⟩ : ByteArray) [.string (⟨#[100, 46, 101]⟩ : ByteArray)] from rfl) (Reps.none _ _)))))); intro v235 w21 ho22 hb hg_ hnew_; clear hg_ hnew_; (first | rw [← Ny234.out] at ho22 | (simp only [Int.reduceToNat] at ho22; rw [← Ny234.out] at ho22)); have n0_ := Aside0.mk (Kd.R_lower ho22 (below_size (by repeat (first | (with_reducible first | exact HB.out | apply below_alloc | apply pw_below_drewN | apply below_drew1) | exact HB.out)))); have n1_ := Aside0.mk (below_step (by repeat (first | (with_reducible first | exact HB.out | apply below_alloc | apply pw_below_drewN | apply below_drew1) | exact HB.out)) hb); clear HB; have HO236 := n0_; have HB := n1_; clear n0_ n1_; clear hb ho22; have p237 : 0 ≤ (x8_2 : Int) := of_decide_eq_true (by first | (with_reducible assumption) | assumption); have q237 : x8_2 < (l0.length : Int) := of_decide_eq_true (by first | (with_reducible assumption) | assumption); obtain ⟨ad237, e237, hx237_0⟩ := Kd.at_int HR0.out x8_2 p237 q237; cases e237; replace hx237_0 := (HB.out.cell (World.block_lt_of_cell? w _ hx237_0)).trans hx237_0; replace p237 := eq_true p237; replace q237 := eq_true q237; obtain ⟨Ao23, co23, eo23⟩ := Kd.R_slice HO236.out; subst eo23; have p238 : 0 ≤ ((ji11) : Int) := of_decide_eq_true (by first | (with_reducible assumption) | assumption); have q238 : (ji11) < (y234.length : Int) := of_decide_eq_true (by first | (with_reducible assumption) | assumption); obtain ⟨ad238, e238, hx238_0⟩ := Kd.at_string (Kd.R_reads' HO236.out).2.2 (ji11) p238 q238; cases e238; replace p238 := eq_true p238; replace q238 := eq_true q238; have p239 : 0 ≤ (x8_2 : Int) := of_decide_eq_true (by first | (with_reducible assumption) | assumption); have q239 : x8_2 < (l1.length : Int) := of_decide_eq_true (by first | (with_reducible assumption) | assumption); obtain ⟨ad239, e239, hx239_0⟩ := Kd.at_bool HR1.out x8_2 p239 q239; (try rw [← Nbq17.out] at hx239_0); cases e239; replace hx239_0 := (HB.out.cell (World.block_lt_of_cell? w _ hx239_0)).trans hx239_0; replace p239 := eq_true p239; replace q239 := eq_true q239))
                                  go_roundg k2
                                  case measure => have := HJ4.out; have := HK2.out; omega
                                  case rel => exact ⟨((x5_2 ++ (⟨#[47]⟩ : ByteArray)) ++ (rdOf ByteArray.empty y234 (ji11))), (x6_2 ++ (⟨#[47, 42]⟩ : ByteArray)), (x7_2 ++ (⟨#[47, 42, 42]⟩ : ByteArray)), (wrap64 (x8_2 + 1)), (by first | rfl | (simp; done) | (simp only [← hji11] <;> (first | rfl | simp)) | (simp [*]; done)), (by first | rfl | (simp; done) | (simp [*]; done)), (by first | rfl | (simp; done) | (simp [*]; done)), (by first | rfl | (simp; done) | (simp [*]; done)), H', ⟨by have := HJ4.out; have := HK2.out; omega⟩, ⟨by repeat (first | (with_reducible first | exact HB.out | apply below_alloc | apply pw_below_drewN | apply below_drew1) | exact HB.out)⟩⟩
                                · rw [if_neg c20] at H
                                  exact absurd H (by simp)
                              · rw [if_neg c19] at H
                                exact absurd H (by simp)
                            · replace c18 := Bool.eq_false_iff.mpr c18
                              subst c18
                              have H1 : (if x6_2.size + 1 ≤ 9223372036854775807 then (if (x6_2 ++ (⟨#[47]⟩ : ByteArray)).size + (rdOf ByteArray.empty y234 (ji11)).size ≤ 9223372036854775807 then (if x7_2.size + 1 ≤ 9223372036854775807 then (if (x7_2 ++ (⟨#[47]⟩ : ByteArray)).size + (rdOf ByteArray.empty y234 (ji11)).size ≤ 9223372036854775807 then (ambrylaw24_GlobSegments.l0 k2 l0 l1 ((x5_2 ++ (⟨#[47]⟩ : ByteArray)) ++ (rdOf ByteArray.empty y234 (ji11))) ((x6_2 ++ (⟨#[47]⟩ : ByteArray)) ++ (rdOf ByteArray.empty y234 (ji11))) ((x7_2 ++ (⟨#[47]⟩ : ByteArray)) ++ (rdOf ByteArray.empty y234 (ji11))) (wrap64 (x8_2 + 1))) else (none)) else (none)) else (none)) else (none)) = some r := by rw [if_neg (show ¬ (false = true) by decide)] at H; exact H
                              clear H
                              have H := H1
                              clear H1
                              by_cases c24 : x6_2.size + 1 ≤ 9223372036854775807
                              · rw [if_pos c24] at H
                                have c24b0 := eq_true c24
                                have c24b1 : decide (x6_2.size + 1 ≤ 9223372036854775807) = true := decide_eq_true c24
                                try have c24b2 : (9223372036854775807 < x6_2.size + 1) = False := eq_false (Nat.not_lt.2 c24)
                                by_cases c25 : (x6_2 ++ (⟨#[47]⟩ : ByteArray)).size + (rdOf ByteArray.empty y234 (ji11)).size ≤ 9223372036854775807
                                · rw [if_pos c25] at H
                                  have c25b0 := eq_true c25
                                  have c25b1 : decide ((x6_2 ++ (⟨#[47]⟩ : ByteArray)).size + (rdOf ByteArray.empty y234 (ji11)).size ≤ 9223372036854775807) = true := decide_eq_true c25
                                  try have c25b2 : (9223372036854775807 < (x6_2 ++ (⟨#[47]⟩ : ByteArray)).size + (rdOf ByteArray.empty y234 (ji11)).size) = False := eq_false (Nat.not_lt.2 c25)
                                  by_cases c26 : x7_2.size + 1 ≤ 9223372036854775807
                                  · rw [if_pos c26] at H
                                    have c26b0 := eq_true c26
                                    have c26b1 : decide (x7_2.size + 1 ≤ 9223372036854775807) = true := decide_eq_true c26
                                    try have c26b2 : (9223372036854775807 < x7_2.size + 1) = False := eq_false (Nat.not_lt.2 c26)
                                    by_cases c27 : (x7_2 ++ (⟨#[47]⟩ : ByteArray)).size + (rdOf ByteArray.empty y234 (ji11)).size ≤ 9223372036854775807
                                    · rw [if_pos c27] at H
                                      have c27b0 := eq_true c27
                                      have c27b1 : decide ((x7_2 ++ (⟨#[47]⟩ : ByteArray)).size + (rdOf ByteArray.empty y234 (ji11)).size ≤ 9223372036854775807) = true := decide_eq_true c27
                                      try have c27b2 : (9223372036854775807 < (x7_2 ++ (⟨#[47]⟩ : ByteArray)).size + (rdOf ByteArray.empty y234 (ji11)).size) = False := eq_false (Nat.not_lt.2 c27)
                                      have H' := Aside0.mk H
                                      clear H
                                      go_wp2_with (first | ((with_reducible refine gate_dst (N := 28) rfl ?_); (try (refine gate_guard (by rfl) ?_; dsimp only)); refine Kd.R_lit Kd.string _ 9 ?hg (N := 28) ?hd (xs := ([(⟨#[97]⟩ : ByteArray), (⟨#[98, 99]⟩ : ByteArray), (⟨#[]⟩ : ByteArray), (⟨#[100, 46, 101]⟩ : ByteArray)] : List ByteArray)) (inner := [.string (⟨#[97]⟩ : ByteArray), .string (⟨#[98, 99]⟩ : ByteArray), .string (⟨#[]⟩ : ByteArray), .string (⟨#[100, 46, 101]⟩ : ByteArray)]) (ok := fun _ => True) (okp := fun _ => True) ?hr ?hp (fun _ hk => hk) trivial (Below.refl _ _) (Nat.le_refl _) (by simp) ?_; (case hd => rfl); (case hg => rfl); (case hr => first | (go_simp; done) | (go_simp; rfl)); (case hp => exact (Reps.one (show Kd.M Kd.string _ _ _ (⟨#[97]⟩ : ByteArray) [.string (⟨#[97]⟩ : ByteArray)] from rfl) (Reps.one (show Kd.M Kd.string _ _ _ (⟨#[98, 99]⟩ : ByteArray) [.string (⟨#[98, 99]⟩ : ByteArray)] from rfl) (Reps.one (show Kd.M Kd.string _ _ _ (⟨#[]⟩ : ByteArray) [.string (⟨#[]⟩ : ByteArray)] from rfl) (Reps.one (show Kd.M Kd.string _ _ _ (⟨#[100, 46, 101]⟩ : ByteArray) [.string (⟨#[100, 46, 101]⟩ : ByteArray)] from rfl) (Reps.none _ _)))))); intro v235 w28 ho29 hb hg_ hnew_; clear hg_ hnew_; (first | rw [← Ny234.out] at ho29 | (simp only [Int.reduceToNat] at ho29; rw [← Ny234.out] at ho29)); have n0_ := Aside0.mk (Kd.R_lower ho29 (below_size (by repeat (first | (with_reducible first | exact HB.out | apply below_alloc | apply pw_below_drewN | apply below_drew1) | exact HB.out)))); have n1_ := Aside0.mk (below_step (by repeat (first | (with_reducible first | exact HB.out | apply below_alloc | apply pw_below_drewN | apply below_drew1) | exact HB.out)) hb); clear HB; have HO236 := n0_; have HB := n1_; clear n0_ n1_; clear hb ho29; have p237 : 0 ≤ (x8_2 : Int) := of_decide_eq_true (by first | (with_reducible assumption) | assumption); have q237 : x8_2 < (l0.length : Int) := of_decide_eq_true (by first | (with_reducible assumption) | assumption); obtain ⟨ad237, e237, hx237_0⟩ := Kd.at_int HR0.out x8_2 p237 q237; cases e237; replace hx237_0 := (HB.out.cell (World.block_lt_of_cell? w _ hx237_0)).trans hx237_0; replace p237 := eq_true p237; replace q237 := eq_true q237; obtain ⟨Ao30, co30, eo30⟩ := Kd.R_slice HO236.out; subst eo30; have p238 : 0 ≤ ((ji11) : Int) := of_decide_eq_true (by first | (with_reducible assumption) | assumption); have q238 : (ji11) < (y234.length : Int) := of_decide_eq_true (by first | (with_reducible assumption) | assumption); obtain ⟨ad238, e238, hx238_0⟩ := Kd.at_string (Kd.R_reads' HO236.out).2.2 (ji11) p238 q238; cases e238; replace p238 := eq_true p238; replace q238 := eq_true q238; have p239 : 0 ≤ (x8_2 : Int) := of_decide_eq_true (by first | (with_reducible assumption) | assumption); have q239 : x8_2 < (l1.length : Int) := of_decide_eq_true (by first | (with_reducible assumption) | assumption); obtain ⟨ad239, e239, hx239_0⟩ := Kd.at_bool HR1.out x8_2 p239 q239; (try rw [← Nbq17.out] at hx239_0); cases e239; replace hx239_0 := (HB.out.cell (World.block_lt_of_cell? w _ hx239_0)).trans hx239_0; replace p239 := eq_true p239; replace q239 := eq_true q239))
                                      go_roundg k2
                                      case measure => have := HJ4.out; have := HK2.out; omega
                                      case rel => exact ⟨((x5_2 ++ (⟨#[47]⟩ : ByteArray)) ++ (rdOf ByteArray.empty y234 (ji11))), ((x6_2 ++ (⟨#[47]⟩ : ByteArray)) ++ (rdOf ByteArray.empty y234 (ji11))), ((x7_2 ++ (⟨#[47]⟩ : ByteArray)) ++ (rdOf ByteArray.empty y234 (ji11))), (wrap64 (x8_2 + 1)), (by first | rfl | (simp; done) | (simp only [← hji11] <;> (first | rfl | simp)) | (simp [*]; done)), (by first | rfl | (simp; done) | (simp only [← hji11] <;> (first | rfl | simp)) | (simp [*]; done)), (by first | rfl | (simp; done) | (simp only [← hji11] <;> (first | rfl | simp)) | (simp [*]; done)), (by first | rfl | (simp; done) | (simp [*]; done)), H', ⟨by have := HJ4.out; have := HK2.out; omega⟩, ⟨by repeat (first | (with_reducible first | exact HB.out | apply below_alloc | apply pw_below_drewN | apply below_drew1) | exact HB.out)⟩⟩
                                    · rw [if_neg c27] at H
                                      exact absurd H (by simp)
                                  · rw [if_neg c26] at H
                                    exact absurd H (by simp)
                                · rw [if_neg c25] at H
                                  exact absurd H (by simp)
                              · rw [if_neg c24] at H
                                exact absurd H (by simp)
                          · rw [if_neg c16] at H
                            exact absurd H (by simp)
                        · rw [if_neg c15] at H
                          exact absurd H (by simp)
                      · rw [if_neg c14] at H
                        exact absurd H (by simp)
                    · rw [if_neg c13] at H
                      exact absurd H (by simp)
                  · rw [if_neg c12] at H
                    exact absurd H (by simp)
                · rw [if_neg c10] at H
                  exact absurd H (by simp)
              · rw [if_neg c9] at H
                have c9b0 : decide (x8_2 < (l0.length : Int)) = false := decide_eq_false c9
                clear c9
                replace H := Option.bind_eq_some_iff.mp H
                obtain ⟨t240, A310, H⟩ := H
                replace H : (if t240 = true then ((glob_Match.f k2 x7_2 x5_2).bind fun t241 => (if t241 = true then (if x5_2.size + 2 ≤ 9223372036854775807 then ((glob_Match.f k2 x6_2 (x5_2 ++ (⟨#[47, 122]⟩ : ByteArray))).bind fun t242 => (if (l0.length : Int) = 0 then (if ((!t242) == (!(x6_2.toList == (x5_2 ++ (⟨#[47, 122]⟩ : ByteArray)).toList))) = true then (if 1 + x5_2.size ≤ 9223372036854775807 then ((glob_Match.f k2 x6_2 ((⟨#[122]⟩ : ByteArray) ++ x5_2)).bind fun t243 => (if t243 = true then (some false) else (if x7_2.size + 2 ≤ 9223372036854775807 then (if x5_2.size + 4 ≤ 9223372036854775807 then ((glob_Match.f k2 (x7_2 ++ (⟨#[42, 42]⟩ : ByteArray)) (x5_2 ++ (⟨#[47, 122, 47, 121]⟩ : ByteArray))).bind fun t244 => (some t244)) else (none)) else (none)))) else (none)) else (some false)) else (if ((!t242) == (!false)) = true then (if 1 + x5_2.size ≤ 9223372036854775807 then ((glob_Match.f k2 x6_2 ((⟨#[122]⟩ : ByteArray) ++ x5_2)).bind fun t245 => (if t245 = true then (some false) else (if x7_2.size + 2 ≤ 9223372036854775807 then (if x5_2.size + 4 ≤ 9223372036854775807 then ((glob_Match.f k2 (x7_2 ++ (⟨#[42, 42]⟩ : ByteArray)) (x5_2 ++ (⟨#[47, 122, 47, 121]⟩ : ByteArray))).bind fun t246 => (some t246)) else (none)) else (none)))) else (none)) else (some false)))) else (none)) else (some false))) else (some false)) = some r := H
                have A31 := Aside0.mk A310
                clear A310
                by_cases c32 : t240 = true
                · subst c32
                  have H1 : ((glob_Match.f k2 x7_2 x5_2).bind fun t241 => (if t241 = true then (if x5_2.size + 2 ≤ 9223372036854775807 then ((glob_Match.f k2 x6_2 (x5_2 ++ (⟨#[47, 122]⟩ : ByteArray))).bind fun t242 => (if (l0.length : Int) = 0 then (if ((!t242) == (!(x6_2.toList == (x5_2 ++ (⟨#[47, 122]⟩ : ByteArray)).toList))) = true then (if 1 + x5_2.size ≤ 9223372036854775807 then ((glob_Match.f k2 x6_2 ((⟨#[122]⟩ : ByteArray) ++ x5_2)).bind fun t243 => (if t243 = true then (some false) else (if x7_2.size + 2 ≤ 9223372036854775807 then (if x5_2.size + 4 ≤ 9223372036854775807 then ((glob_Match.f k2 (x7_2 ++ (⟨#[42, 42]⟩ : ByteArray)) (x5_2 ++ (⟨#[47, 122, 47, 121]⟩ : ByteArray))).bind fun t244 => (some t244)) else (none)) else (none)))) else (none)) else (some false)) else (if ((!t242) == (!false)) = true then (if 1 + x5_2.size ≤ 9223372036854775807 then ((glob_Match.f k2 x6_2 ((⟨#[122]⟩ : ByteArray) ++ x5_2)).bind fun t245 => (if t245 = true then (some false) else (if x7_2.size + 2 ≤ 9223372036854775807 then (if x5_2.size + 4 ≤ 9223372036854775807 then ((glob_Match.f k2 (x7_2 ++ (⟨#[42, 42]⟩ : ByteArray)) (x5_2 ++ (⟨#[47, 122, 47, 121]⟩ : ByteArray))).bind fun t246 => (some t246)) else (none)) else (none)))) else (none)) else (some false)))) else (none)) else (some false))) = some r := by rw [if_pos rfl] at H; exact H
                  clear H
                  have H := H1
                  clear H1
                  replace H := Option.bind_eq_some_iff.mp H
                  obtain ⟨t241, A330, H⟩ := H
                  replace H : (if t241 = true then (if x5_2.size + 2 ≤ 9223372036854775807 then ((glob_Match.f k2 x6_2 (x5_2 ++ (⟨#[47, 122]⟩ : ByteArray))).bind fun t242 => (if (l0.length : Int) = 0 then (if ((!t242) == (!(x6_2.toList == (x5_2 ++ (⟨#[47, 122]⟩ : ByteArray)).toList))) = true then (if 1 + x5_2.size ≤ 9223372036854775807 then ((glob_Match.f k2 x6_2 ((⟨#[122]⟩ : ByteArray) ++ x5_2)).bind fun t243 => (if t243 = true then (some false) else (if x7_2.size + 2 ≤ 9223372036854775807 then (if x5_2.size + 4 ≤ 9223372036854775807 then ((glob_Match.f k2 (x7_2 ++ (⟨#[42, 42]⟩ : ByteArray)) (x5_2 ++ (⟨#[47, 122, 47, 121]⟩ : ByteArray))).bind fun t244 => (some t244)) else (none)) else (none)))) else (none)) else (some false)) else (if ((!t242) == (!false)) = true then (if 1 + x5_2.size ≤ 9223372036854775807 then ((glob_Match.f k2 x6_2 ((⟨#[122]⟩ : ByteArray) ++ x5_2)).bind fun t245 => (if t245 = true then (some false) else (if x7_2.size + 2 ≤ 9223372036854775807 then (if x5_2.size + 4 ≤ 9223372036854775807 then ((glob_Match.f k2 (x7_2 ++ (⟨#[42, 42]⟩ : ByteArray)) (x5_2 ++ (⟨#[47, 122, 47, 121]⟩ : ByteArray))).bind fun t246 => (some t246)) else (none)) else (none)))) else (none)) else (some false)))) else (none)) else (some false)) = some r := H
                  have A33 := Aside0.mk A330
                  clear A330
                  by_cases c34 : t241 = true
                  · subst c34
                    have H1 : (if x5_2.size + 2 ≤ 9223372036854775807 then ((glob_Match.f k2 x6_2 (x5_2 ++ (⟨#[47, 122]⟩ : ByteArray))).bind fun t242 => (if (l0.length : Int) = 0 then (if ((!t242) == (!(x6_2.toList == (x5_2 ++ (⟨#[47, 122]⟩ : ByteArray)).toList))) = true then (if 1 + x5_2.size ≤ 9223372036854775807 then ((glob_Match.f k2 x6_2 ((⟨#[122]⟩ : ByteArray) ++ x5_2)).bind fun t243 => (if t243 = true then (some false) else (if x7_2.size + 2 ≤ 9223372036854775807 then (if x5_2.size + 4 ≤ 9223372036854775807 then ((glob_Match.f k2 (x7_2 ++ (⟨#[42, 42]⟩ : ByteArray)) (x5_2 ++ (⟨#[47, 122, 47, 121]⟩ : ByteArray))).bind fun t244 => (some t244)) else (none)) else (none)))) else (none)) else (some false)) else (if ((!t242) == (!false)) = true then (if 1 + x5_2.size ≤ 9223372036854775807 then ((glob_Match.f k2 x6_2 ((⟨#[122]⟩ : ByteArray) ++ x5_2)).bind fun t245 => (if t245 = true then (some false) else (if x7_2.size + 2 ≤ 9223372036854775807 then (if x5_2.size + 4 ≤ 9223372036854775807 then ((glob_Match.f k2 (x7_2 ++ (⟨#[42, 42]⟩ : ByteArray)) (x5_2 ++ (⟨#[47, 122, 47, 121]⟩ : ByteArray))).bind fun t246 => (some t246)) else (none)) else (none)))) else (none)) else (some false)))) else (none)) = some r := by rw [if_pos rfl] at H; exact H
                    clear H
                    have H := H1
                    clear H1
                    by_cases c35 : x5_2.size + 2 ≤ 9223372036854775807
                    · rw [if_pos c35] at H
                      have c35b0 := eq_true c35
                      have c35b1 : decide (x5_2.size + 2 ≤ 9223372036854775807) = true := decide_eq_true c35
                      try have c35b2 : (9223372036854775807 < x5_2.size + 2) = False := eq_false (Nat.not_lt.2 c35)
                      replace H := Option.bind_eq_some_iff.mp H
                      obtain ⟨t242, A360, H⟩ := H
                      replace H : (if (l0.length : Int) = 0 then (if ((!t242) == (!(x6_2.toList == (x5_2 ++ (⟨#[47, 122]⟩ : ByteArray)).toList))) = true then (if 1 + x5_2.size ≤ 9223372036854775807 then ((glob_Match.f k2 x6_2 ((⟨#[122]⟩ : ByteArray) ++ x5_2)).bind fun t243 => (if t243 = true then (some false) else (if x7_2.size + 2 ≤ 9223372036854775807 then (if x5_2.size + 4 ≤ 9223372036854775807 then ((glob_Match.f k2 (x7_2 ++ (⟨#[42, 42]⟩ : ByteArray)) (x5_2 ++ (⟨#[47, 122, 47, 121]⟩ : ByteArray))).bind fun t244 => (some t244)) else (none)) else (none)))) else (none)) else (some false)) else (if ((!t242) == (!false)) = true then (if 1 + x5_2.size ≤ 9223372036854775807 then ((glob_Match.f k2 x6_2 ((⟨#[122]⟩ : ByteArray) ++ x5_2)).bind fun t245 => (if t245 = true then (some false) else (if x7_2.size + 2 ≤ 9223372036854775807 then (if x5_2.size + 4 ≤ 9223372036854775807 then ((glob_Match.f k2 (x7_2 ++ (⟨#[42, 42]⟩ : ByteArray)) (x5_2 ++ (⟨#[47, 122, 47, 121]⟩ : ByteArray))).bind fun t246 => (some t246)) else (none)) else (none)))) else (none)) else (some false))) = some r := H
                      have A36 := Aside0.mk A360
                      clear A360
                      by_cases c37 : (l0.length : Int) = 0
                      · rw [if_pos c37] at H
                        have c37b0 : ((l0.length : Int) == 0) = true := beq_iff_eq.mpr c37
                        have c37b1 : ((l0.length : Int) != 0) = false := bne_eq_false_iff_eq.mpr c37
                        clear c37
                        by_cases c38 : ((!t242) == (!(x6_2.toList == (x5_2 ++ (⟨#[47, 122]⟩ : ByteArray)).toList))) = true
                        · rw [if_pos c38] at H
                          have c38b0 : ((!t242) == (!(x6_2.toList == (x5_2 ++ (⟨#[47, 122]⟩ : ByteArray)).toList))) = true := c38
                          (try (have c38b1 : decide ((!t242) = (!(x6_2.toList == (x5_2 ++ (⟨#[47, 122]⟩ : ByteArray)).toList))) = true := by simpa using c38))
                          (try (have c38b2 : ((!t242) == (!(x6_2.toList == (x5_2 ++ (⟨#[47, 122]⟩ : ByteArray)).toList))) = true := by simpa using c38))
                          clear c38
                          by_cases c39 : 1 + x5_2.size ≤ 9223372036854775807
                          · rw [if_pos c39] at H
                            have c39b0 := eq_true c39
                            have c39b1 : decide (1 + x5_2.size ≤ 9223372036854775807) = true := decide_eq_true c39
                            try have c39b2 : (9223372036854775807 < 1 + x5_2.size) = False := eq_false (Nat.not_lt.2 c39)
                            replace H := Option.bind_eq_some_iff.mp H
                            obtain ⟨t243, A400, H⟩ := H
                            replace H : (if t243 = true then (some false) else (if x7_2.size + 2 ≤ 9223372036854775807 then (if x5_2.size + 4 ≤ 9223372036854775807 then ((glob_Match.f k2 (x7_2 ++ (⟨#[42, 42]⟩ : ByteArray)) (x5_2 ++ (⟨#[47, 122, 47, 121]⟩ : ByteArray))).bind fun t244 => (some t244)) else (none)) else (none))) = some r := H
                            have A40 := Aside0.mk A400
                            clear A400
                            by_cases c41 : t243 = true
                            · subst c41
                              have H1 : (some false) = some r := by rw [if_pos rfl] at H; exact H
                              clear H
                              have H := H1
                              clear H1
                              obtain rfl := Option.some.inj H
                              go_wp2_with (first | ((with_reducible refine gate_callee (f := 9) rfl ?_); refine goesL_ (some 58) rfl rfl Try.func9 (by kernel_rfl) rfl #[.string x6_2, .string x5_2] rfl (by (try simp only [List.map_toArray, List.map_cons, List.map_nil]); first | done | rfl | (simp only [List.length_drop, List.length_take]; rfl)) ?_; (with_reducible refine (glob_Match.calls k2 x6_2 x5_2 true _ A31.out).mono ?_); rintro e w42 ⟨rfl, hb⟩; refine ⟨_, rfl, ?_⟩; have n0_ := Aside0.mk (below_step (by repeat (first | (with_reducible first | exact HB.out | apply below_alloc | apply pw_below_drewN | apply below_drew1) | exact HB.out)) hb); clear HB; have HB := n0_; clear n0_; (try clear hb); (try clear hb2); (try clear hk); (try clear hi)) | (go_at_call 9; (with_reducible refine (glob_Match.calls k2 x7_2 x5_2 true _ A33.out).mono ?_); rintro e w43 ⟨rfl, hb⟩; have n0_ := Aside0.mk (below_step (by repeat (first | (with_reducible first | exact HB.out | apply below_alloc | apply pw_below_drewN | apply below_drew1) | exact HB.out)) hb); clear HB; have HB := n0_; clear n0_; (try clear hb); (try clear hb2); (try clear hk); (try clear hi)) | (go_at_call 9; (with_reducible refine (glob_Match.calls k2 x6_2 (x5_2 ++ (⟨#[47, 122]⟩ : ByteArray)) t242 _ A36.out).mono ?_); rintro e w44 ⟨rfl, hb⟩; have n0_ := Aside0.mk (below_step (by repeat (first | (with_reducible first | exact HB.out | apply below_alloc | apply pw_below_drewN | apply below_drew1) | exact HB.out)) hb); clear HB; have HB := n0_; clear n0_; (try clear hb); (try clear hb2); (try clear hk); (try clear hi)) | (go_at_call 9; (with_reducible refine (glob_Match.calls k2 x6_2 ((⟨#[122]⟩ : ByteArray) ++ x5_2) true _ A40.out).mono ?_); rintro e w45 ⟨rfl, hb⟩; have n0_ := Aside0.mk (below_step (by repeat (first | (with_reducible first | exact HB.out | apply below_alloc | apply pw_below_drewN | apply below_drew1) | exact HB.out)) hb); clear HB; have HB := n0_; clear n0_; (try clear hb); (try clear hb2); (try clear hk); (try clear hi)))
                              go_ret
                              exact ⟨by first | rfl | (simp [errW_none, errW_some] <;> rfl) | (simp [*, errW_none, errW_some] <;> rfl), by repeat (first | (with_reducible first | exact HB.out | apply below_alloc | apply pw_below_drewN | apply below_drew1) | exact HB.out)⟩
                            · replace c41 := Bool.eq_false_iff.mpr c41
                              subst c41
                              have H1 : (if x7_2.size + 2 ≤ 9223372036854775807 then (if x5_2.size + 4 ≤ 9223372036854775807 then ((glob_Match.f k2 (x7_2 ++ (⟨#[42, 42]⟩ : ByteArray)) (x5_2 ++ (⟨#[47, 122, 47, 121]⟩ : ByteArray))).bind fun t244 => (some t244)) else (none)) else (none)) = some r := by rw [if_neg (show ¬ (false = true) by decide)] at H; exact H
                              clear H
                              have H := H1
                              clear H1
                              by_cases c46 : x7_2.size + 2 ≤ 9223372036854775807
                              · rw [if_pos c46] at H
                                have c46b0 := eq_true c46
                                have c46b1 : decide (x7_2.size + 2 ≤ 9223372036854775807) = true := decide_eq_true c46
                                try have c46b2 : (9223372036854775807 < x7_2.size + 2) = False := eq_false (Nat.not_lt.2 c46)
                                by_cases c47 : x5_2.size + 4 ≤ 9223372036854775807
                                · rw [if_pos c47] at H
                                  have c47b0 := eq_true c47
                                  have c47b1 : decide (x5_2.size + 4 ≤ 9223372036854775807) = true := decide_eq_true c47
                                  try have c47b2 : (9223372036854775807 < x5_2.size + 4) = False := eq_false (Nat.not_lt.2 c47)
                                  replace H := Option.bind_eq_some_iff.mp H
                                  obtain ⟨t244, A480, H⟩ := H
                                  replace H : (some t244) = some r := H
                                  have A48 := Aside0.mk A480
                                  clear A480
                                  obtain rfl := Option.some.inj H
                                  go_wp2_with (first | ((with_reducible refine gate_callee (f := 9) rfl ?_); refine goesL_ (some 58) rfl rfl Try.func9 (by kernel_rfl) rfl #[.string x6_2, .string x5_2] rfl (by (try simp only [List.map_toArray, List.map_cons, List.map_nil]); first | done | rfl | (simp only [List.length_drop, List.length_take]; rfl)) ?_; (with_reducible refine (glob_Match.calls k2 x6_2 x5_2 true _ A31.out).mono ?_); rintro e w49 ⟨rfl, hb⟩; refine ⟨_, rfl, ?_⟩; have n0_ := Aside0.mk (below_step (by repeat (first | (with_reducible first | exact HB.out | apply below_alloc | apply pw_below_drewN | apply below_drew1) | exact HB.out)) hb); clear HB; have HB := n0_; clear n0_; (try clear hb); (try clear hb2); (try clear hk); (try clear hi)) | (go_at_call 9; (with_reducible refine (glob_Match.calls k2 x7_2 x5_2 true _ A33.out).mono ?_); rintro e w50 ⟨rfl, hb⟩; have n0_ := Aside0.mk (below_step (by repeat (first | (with_reducible first | exact HB.out | apply below_alloc | apply pw_below_drewN | apply below_drew1) | exact HB.out)) hb); clear HB; have HB := n0_; clear n0_; (try clear hb); (try clear hb2); (try clear hk); (try clear hi)) | (go_at_call 9; (with_reducible refine (glob_Match.calls k2 x6_2 (x5_2 ++ (⟨#[47, 122]⟩ : ByteArray)) t242 _ A36.out).mono ?_); rintro e w51 ⟨rfl, hb⟩; have n0_ := Aside0.mk (below_step (by repeat (first | (with_reducible first | exact HB.out | apply below_alloc | apply pw_below_drewN | apply below_drew1) | exact HB.out)) hb); clear HB; have HB := n0_; clear n0_; (try clear hb); (try clear hb2); (try clear hk); (try clear hi)) | (go_at_call 9; (with_reducible refine (glob_Match.calls k2 x6_2 ((⟨#[122]⟩ : ByteArray) ++ x5_2) false _ A40.out).mono ?_); rintro e w52 ⟨rfl, hb⟩; have n0_ := Aside0.mk (below_step (by repeat (first | (with_reducible first | exact HB.out | apply below_alloc | apply pw_below_drewN | apply below_drew1) | exact HB.out)) hb); clear HB; have HB := n0_; clear n0_; (try clear hb); (try clear hb2); (try clear hk); (try clear hi)) | (go_at_call 9; (with_reducible refine (glob_Match.calls k2 (x7_2 ++ (⟨#[42, 42]⟩ : ByteArray)) (x5_2 ++ (⟨#[47, 122, 47, 121]⟩ : ByteArray)) t244 _ A48.out).mono ?_); rintro e w53 ⟨rfl, hb⟩; have n0_ := Aside0.mk (below_step (by repeat (first | (with_reducible first | exact HB.out | apply below_alloc | apply pw_below_drewN | apply below_drew1) | exact HB.out)) hb); clear HB; have HB := n0_; clear n0_; (try clear hb); (try clear hb2); (try clear hk); (try clear hi)))
                                  go_ret
                                  exact ⟨by first | rfl | (simp [errW_none, errW_some] <;> rfl) | (simp [*, errW_none, errW_some] <;> rfl), by repeat (first | (with_reducible first | exact HB.out | apply below_alloc | apply pw_below_drewN | apply below_drew1) | exact HB.out)⟩
                                · rw [if_neg c47] at H
                                  exact absurd H (by simp)
                              · rw [if_neg c46] at H
                                exact absurd H (by simp)
                          · rw [if_neg c39] at H
                            exact absurd H (by simp)
                        · rw [if_neg c38] at H
                          have c38b0 : ((!t242) == (!(x6_2.toList == (x5_2 ++ (⟨#[47, 122]⟩ : ByteArray)).toList))) = false := by simpa using c38
                          (try (have c38b1 : decide ((!t242) = (!(x6_2.toList == (x5_2 ++ (⟨#[47, 122]⟩ : ByteArray)).toList))) = false := by simpa using c38))
                          (try (have c38b2 : ((!t242) == (!(x6_2.toList == (x5_2 ++ (⟨#[47, 122]⟩ : ByteArray)).toList))) = false := by simpa using c38))
                          (try (have c38b3 : ¬ ((!t242) = (!(x6_2.toList == (x5_2 ++ (⟨#[47, 122]⟩ : ByteArray)).toList))) := by simpa using c38))
                          clear c38
                          obtain rfl := Option.some.inj H
                          go_wp2_with (first | ((with_reducible refine gate_callee (f := 9) rfl ?_); refine goesL_ (some 58) rfl rfl Try.func9 (by kernel_rfl) rfl #[.string x6_2, .string x5_2] rfl (by (try simp only [List.map_toArray, List.map_cons, List.map_nil]); first | done | rfl | (simp only [List.length_drop, List.length_take]; rfl)) ?_; (with_reducible refine (glob_Match.calls k2 x6_2 x5_2 true _ A31.out).mono ?_); rintro e w54 ⟨rfl, hb⟩; refine ⟨_, rfl, ?_⟩; have n0_ := Aside0.mk (below_step (by repeat (first | (with_reducible first | exact HB.out | apply below_alloc | apply pw_below_drewN | apply below_drew1) | exact HB.out)) hb); clear HB; have HB := n0_; clear n0_; (try clear hb); (try clear hb2); (try clear hk); (try clear hi)) | (go_at_call 9; (with_reducible refine (glob_Match.calls k2 x7_2 x5_2 true _ A33.out).mono ?_); rintro e w55 ⟨rfl, hb⟩; have n0_ := Aside0.mk (below_step (by repeat (first | (with_reducible first | exact HB.out | apply below_alloc | apply pw_below_drewN | apply below_drew1) | exact HB.out)) hb); clear HB; have HB := n0_; clear n0_; (try clear hb); (try clear hb2); (try clear hk); (try clear hi)) | (go_at_call 9; (with_reducible refine (glob_Match.calls k2 x6_2 (x5_2 ++ (⟨#[47, 122]⟩ : ByteArray)) t242 _ A36.out).mono ?_); rintro e w56 ⟨rfl, hb⟩; have n0_ := Aside0.mk (below_step (by repeat (first | (with_reducible first | exact HB.out | apply below_alloc | apply pw_below_drewN | apply below_drew1) | exact HB.out)) hb); clear HB; have HB := n0_; clear n0_; (try clear hb); (try clear hb2); (try clear hk); (try clear hi)))
                          go_ret
                          exact ⟨by first | rfl | (simp [errW_none, errW_some] <;> rfl) | (simp [*, errW_none, errW_some] <;> rfl), by repeat (first | (with_reducible first | exact HB.out | apply below_alloc | apply pw_below_drewN | apply below_drew1) | exact HB.out)⟩
                      · rw [if_neg c37] at H
                        have c37b0 : ((l0.length : Int) == 0) = false := beq_eq_false_iff_ne.mpr c37
                        have c37b1 : ((l0.length : Int) != 0) = true := bne_iff_ne.mpr c37
                        have c37b2 : ¬ (l0 = []) := fun h_ => c37 (by rw [h_]; rfl)
                        by_cases c57 : ((!t242) == (!false)) = true
                        · rw [if_pos c57] at H
                          obtain rfl : t242 = false := by revert c57; cases t242 <;> simp



                          try clear c57
                          by_cases c58 : 1 + x5_2.size ≤ 9223372036854775807
                          · rw [if_pos c58] at H
                            have c58b0 := eq_true c58
                            have c58b1 : decide (1 + x5_2.size ≤ 9223372036854775807) = true := decide_eq_true c58
                            try have c58b2 : (9223372036854775807 < 1 + x5_2.size) = False := eq_false (Nat.not_lt.2 c58)
                            replace H := Option.bind_eq_some_iff.mp H
                            obtain ⟨t245, A590, H⟩ := H
                            replace H : (if t245 = true then (some false) else (if x7_2.size + 2 ≤ 9223372036854775807 then (if x5_2.size + 4 ≤ 9223372036854775807 then ((glob_Match.f k2 (x7_2 ++ (⟨#[42, 42]⟩ : ByteArray)) (x5_2 ++ (⟨#[47, 122, 47, 121]⟩ : ByteArray))).bind fun t246 => (some t246)) else (none)) else (none))) = some r := H
                            have A59 := Aside0.mk A590
                            clear A590
                            by_cases c60 : t245 = true
                            · subst c60
                              have H1 : (some false) = some r := by rw [if_pos rfl] at H; exact H
                              clear H
                              have H := H1
                              clear H1
                              obtain rfl := Option.some.inj H
                              go_wp2_with (first | ((with_reducible refine gate_callee (f := 9) rfl ?_); refine goesL_ (some 58) rfl rfl Try.func9 (by kernel_rfl) rfl #[.string x6_2, .string x5_2] rfl (by (try simp only [List.map_toArray, List.map_cons, List.map_nil]); first | done | rfl | (simp only [List.length_drop, List.length_take]; rfl)) ?_; (with_reducible refine (glob_Match.calls k2 x6_2 x5_2 true _ A31.out).mono ?_); rintro e w61 ⟨rfl, hb⟩; refine ⟨_, rfl, ?_⟩; have n0_ := Aside0.mk (below_step (by repeat (first | (with_reducible first | exact HB.out | apply below_alloc | apply pw_below_drewN | apply below_drew1) | exact HB.out)) hb); clear HB; have HB := n0_; clear n0_; (try clear hb); (try clear hb2); (try clear hk); (try clear hi)) | (go_at_call 9; (with_reducible refine (glob_Match.calls k2 x7_2 x5_2 true _ A33.out).mono ?_); rintro e w62 ⟨rfl, hb⟩; have n0_ := Aside0.mk (below_step (by repeat (first | (with_reducible first | exact HB.out | apply below_alloc | apply pw_below_drewN | apply below_drew1) | exact HB.out)) hb); clear HB; have HB := n0_; clear n0_; (try clear hb); (try clear hb2); (try clear hk); (try clear hi)) | (go_at_call 9; (with_reducible refine (glob_Match.calls k2 x6_2 (x5_2 ++ (⟨#[47, 122]⟩ : ByteArray)) false _ A36.out).mono ?_); rintro e w63 ⟨rfl, hb⟩; have n0_ := Aside0.mk (below_step (by repeat (first | (with_reducible first | exact HB.out | apply below_alloc | apply pw_below_drewN | apply below_drew1) | exact HB.out)) hb); clear HB; have HB := n0_; clear n0_; (try clear hb); (try clear hb2); (try clear hk); (try clear hi)) | (go_at_call 9; (with_reducible refine (glob_Match.calls k2 x6_2 ((⟨#[122]⟩ : ByteArray) ++ x5_2) true _ A59.out).mono ?_); rintro e w64 ⟨rfl, hb⟩; have n0_ := Aside0.mk (below_step (by repeat (first | (with_reducible first | exact HB.out | apply below_alloc | apply pw_below_drewN | apply below_drew1) | exact HB.out)) hb); clear HB; have HB := n0_; clear n0_; (try clear hb); (try clear hb2); (try clear hk); (try clear hi)))
                              go_ret
                              exact ⟨by first | rfl | (simp [errW_none, errW_some] <;> rfl) | (simp [*, errW_none, errW_some] <;> rfl), by repeat (first | (with_reducible first | exact HB.out | apply below_alloc | apply pw_below_drewN | apply below_drew1) | exact HB.out)⟩
                            · replace c60 := Bool.eq_false_iff.mpr c60
                              subst c60
                              have H1 : (if x7_2.size + 2 ≤ 9223372036854775807 then (if x5_2.size + 4 ≤ 9223372036854775807 then ((glob_Match.f k2 (x7_2 ++ (⟨#[42, 42]⟩ : ByteArray)) (x5_2 ++ (⟨#[47, 122, 47, 121]⟩ : ByteArray))).bind fun t246 => (some t246)) else (none)) else (none)) = some r := by rw [if_neg (show ¬ (false = true) by decide)] at H; exact H
                              clear H
                              have H := H1
                              clear H1
                              by_cases c65 : x7_2.size + 2 ≤ 9223372036854775807
                              · rw [if_pos c65] at H
                                have c65b0 := eq_true c65
                                have c65b1 : decide (x7_2.size + 2 ≤ 9223372036854775807) = true := decide_eq_true c65
                                try have c65b2 : (9223372036854775807 < x7_2.size + 2) = False := eq_false (Nat.not_lt.2 c65)
                                by_cases c66 : x5_2.size + 4 ≤ 9223372036854775807
                                · rw [if_pos c66] at H
                                  have c66b0 := eq_true c66
                                  have c66b1 : decide (x5_2.size + 4 ≤ 9223372036854775807) = true := decide_eq_true c66
                                  try have c66b2 : (9223372036854775807 < x5_2.size + 4) = False := eq_false (Nat.not_lt.2 c66)
                                  replace H := Option.bind_eq_some_iff.mp H
                                  obtain ⟨t246, A670, H⟩ := H
                                  replace H : (some t246) = some r := H
                                  have A67 := Aside0.mk A670
                                  clear A670
                                  obtain rfl := Option.some.inj H
                                  go_wp2_with (first | ((with_reducible refine gate_callee (f := 9) rfl ?_); refine goesL_ (some 58) rfl rfl Try.func9 (by kernel_rfl) rfl #[.string x6_2, .string x5_2] rfl (by (try simp only [List.map_toArray, List.map_cons, List.map_nil]); first | done | rfl | (simp only [List.length_drop, List.length_take]; rfl)) ?_; (with_reducible refine (glob_Match.calls k2 x6_2 x5_2 true _ A31.out).mono ?_); rintro e w68 ⟨rfl, hb⟩; refine ⟨_, rfl, ?_⟩; have n0_ := Aside0.mk (below_step (by repeat (first | (with_reducible first | exact HB.out | apply below_alloc | apply pw_below_drewN | apply below_drew1) | exact HB.out)) hb); clear HB; have HB := n0_; clear n0_; (try clear hb); (try clear hb2); (try clear hk); (try clear hi)) | (go_at_call 9; (with_reducible refine (glob_Match.calls k2 x7_2 x5_2 true _ A33.out).mono ?_); rintro e w69 ⟨rfl, hb⟩; have n0_ := Aside0.mk (below_step (by repeat (first | (with_reducible first | exact HB.out | apply below_alloc | apply pw_below_drewN | apply below_drew1) | exact HB.out)) hb); clear HB; have HB := n0_; clear n0_; (try clear hb); (try clear hb2); (try clear hk); (try clear hi)) | (go_at_call 9; (with_reducible refine (glob_Match.calls k2 x6_2 (x5_2 ++ (⟨#[47, 122]⟩ : ByteArray)) false _ A36.out).mono ?_); rintro e w70 ⟨rfl, hb⟩; have n0_ := Aside0.mk (below_step (by repeat (first | (with_reducible first | exact HB.out | apply below_alloc | apply pw_below_drewN | apply below_drew1) | exact HB.out)) hb); clear HB; have HB := n0_; clear n0_; (try clear hb); (try clear hb2); (try clear hk); (try clear hi)) | (go_at_call 9; (with_reducible refine (glob_Match.calls k2 x6_2 ((⟨#[122]⟩ : ByteArray) ++ x5_2) false _ A59.out).mono ?_); rintro e w71 ⟨rfl, hb⟩; have n0_ := Aside0.mk (below_step (by repeat (first | (with_reducible first | exact HB.out | apply below_alloc | apply pw_below_drewN | apply below_drew1) | exact HB.out)) hb); clear HB; have HB := n0_; clear n0_; (try clear hb); (try clear hb2); (try clear hk); (try clear hi)) | (go_at_call 9; (with_reducible refine (glob_Match.calls k2 (x7_2 ++ (⟨#[42, 42]⟩ : ByteArray)) (x5_2 ++ (⟨#[47, 122, 47, 121]⟩ : ByteArray)) t246 _ A67.out).mono ?_); rintro e w72 ⟨rfl, hb⟩; have n0_ := Aside0.mk (below_step (by repeat (first | (with_reducible first | exact HB.out | apply below_alloc | apply pw_below_drewN | apply below_drew1) | exact HB.out)) hb); clear HB; have HB := n0_; clear n0_; (try clear hb); (try clear hb2); (try clear hk); (try clear hi)))
                                  go_ret
                                  exact ⟨by first | rfl | (simp [errW_none, errW_some] <;> rfl) | (simp [*, errW_none, errW_some] <;> rfl), by repeat (first | (with_reducible first | exact HB.out | apply below_alloc | apply pw_below_drewN | apply below_drew1) | exact HB.out)⟩
                                · rw [if_neg c66] at H
                                  exact absurd H (by simp)
                              · rw [if_neg c65] at H
                                exact absurd H (by simp)
                          · rw [if_neg c58] at H
                            exact absurd H (by simp)
                        · rw [if_neg c57] at H
                          obtain rfl : t242 = true := by revert c57; cases t242 <;> simp




                          try clear c57
                          obtain rfl := Option.some.inj H
                          go_wp2_with (first | ((with_reducible refine gate_callee (f := 9) rfl ?_); refine goesL_ (some 58) rfl rfl Try.func9 (by kernel_rfl) rfl #[.string x6_2, .string x5_2] rfl (by (try simp only [List.map_toArray, List.map_cons, List.map_nil]); first | done | rfl | (simp only [List.length_drop, List.length_take]; rfl)) ?_; (with_reducible refine (glob_Match.calls k2 x6_2 x5_2 true _ A31.out).mono ?_); rintro e w73 ⟨rfl, hb⟩; refine ⟨_, rfl, ?_⟩; have n0_ := Aside0.mk (below_step (by repeat (first | (with_reducible first | exact HB.out | apply below_alloc | apply pw_below_drewN | apply below_drew1) | exact HB.out)) hb); clear HB; have HB := n0_; clear n0_; (try clear hb); (try clear hb2); (try clear hk); (try clear hi)) | (go_at_call 9; (with_reducible refine (glob_Match.calls k2 x7_2 x5_2 true _ A33.out).mono ?_); rintro e w74 ⟨rfl, hb⟩; have n0_ := Aside0.mk (below_step (by repeat (first | (with_reducible first | exact HB.out | apply below_alloc | apply pw_below_drewN | apply below_drew1) | exact HB.out)) hb); clear HB; have HB := n0_; clear n0_; (try clear hb); (try clear hb2); (try clear hk); (try clear hi)) | (go_at_call 9; (with_reducible refine (glob_Match.calls k2 x6_2 (x5_2 ++ (⟨#[47, 122]⟩ : ByteArray)) true _ A36.out).mono ?_); rintro e w75 ⟨rfl, hb⟩; have n0_ := Aside0.mk (below_step (by repeat (first | (with_reducible first | exact HB.out | apply below_alloc | apply pw_below_drewN | apply below_drew1) | exact HB.out)) hb); clear HB; have HB := n0_; clear n0_; (try clear hb); (try clear hb2); (try clear hk); (try clear hi)))
                          go_ret
                          exact ⟨by first | rfl | (simp [errW_none, errW_some] <;> rfl) | (simp [*, errW_none, errW_some] <;> rfl), by repeat (first | (with_reducible first | exact HB.out | apply below_alloc | apply pw_below_drewN | apply below_drew1) | exact HB.out)⟩
                    · rw [if_neg c35] at H
                      exact absurd H (by simp)
                  · replace c34 := Bool.eq_false_iff.mpr c34
                    subst c34
                    have H1 : (some false) = some r := by rw [if_neg (show ¬ (false = true) by decide)] at H; exact H
                    clear H
                    have H := H1
                    clear H1
                    obtain rfl := Option.some.inj H
                    go_wp2_with (first | ((with_reducible refine gate_callee (f := 9) rfl ?_); refine goesL_ (some 58) rfl rfl Try.func9 (by kernel_rfl) rfl #[.string x6_2, .string x5_2] rfl (by (try simp only [List.map_toArray, List.map_cons, List.map_nil]); first | done | rfl | (simp only [List.length_drop, List.length_take]; rfl)) ?_; (with_reducible refine (glob_Match.calls k2 x6_2 x5_2 true _ A31.out).mono ?_); rintro e w76 ⟨rfl, hb⟩; refine ⟨_, rfl, ?_⟩; have n0_ := Aside0.mk (below_step (by repeat (first | (with_reducible first | exact HB.out | apply below_alloc | apply pw_below_drewN | apply below_drew1) | exact HB.out)) hb); clear HB; have HB := n0_; clear n0_; (try clear hb); (try clear hb2); (try clear hk); (try clear hi)) | (go_at_call 9; (with_reducible refine (glob_Match.calls k2 x7_2 x5_2 false _ A33.out).mono ?_); rintro e w77 ⟨rfl, hb⟩; have n0_ := Aside0.mk (below_step (by repeat (first | (with_reducible first | exact HB.out | apply below_alloc | apply pw_below_drewN | apply below_drew1) | exact HB.out)) hb); clear HB; have HB := n0_; clear n0_; (try clear hb); (try clear hb2); (try clear hk); (try clear hi)))
                    go_ret
                    exact ⟨by first | rfl | (simp [errW_none, errW_some] <;> rfl) | (simp [*, errW_none, errW_some] <;> rfl), by repeat (first | (with_reducible first | exact HB.out | apply below_alloc | apply pw_below_drewN | apply below_drew1) | exact HB.out)⟩
                · replace c32 := Bool.eq_false_iff.mpr c32
                  subst c32
                  have H1 : (some false) = some r := by rw [if_neg (show ¬ (false = true) by decide)] at H; exact H
                  clear H
                  have H := H1
                  clear H1
                  obtain rfl := Option.some.inj H
                  go_wp2_with (first | ((with_reducible refine gate_callee (f := 9) rfl ?_); refine goesL_ (some 58) rfl rfl Try.func9 (by kernel_rfl) rfl #[.string x6_2, .string x5_2] rfl (by (try simp only [List.map_toArray, List.map_cons, List.map_nil]); first | done | rfl | (simp only [List.length_drop, List.length_take]; rfl)) ?_; (with_reducible refine (glob_Match.calls k2 x6_2 x5_2 false _ A31.out).mono ?_); rintro e w78 ⟨rfl, hb⟩; refine ⟨_, rfl, ?_⟩; have n0_ := Aside0.mk (below_step (by repeat (first | (with_reducible first | exact HB.out | apply below_alloc | apply pw_below_drewN | apply below_drew1) | exact HB.out)) hb); clear HB; have HB := n0_; clear n0_; (try clear hb); (try clear hb2); (try clear hk); (try clear hi)))
                  go_ret
                  exact ⟨by first | rfl | (simp [errW_none, errW_some] <;> rfl) | (simp [*, errW_none, errW_some] <;> rfl), by repeat (first | (with_reducible first | exact HB.out | apply below_alloc | apply pw_below_drewN | apply below_drew1) | exact HB.out)⟩
  · replace c4 := Bool.eq_false_iff.mpr c4
    subst c4
    have H1 : (some false) = some r := by rw [if_neg (show ¬ (false = true) by decide)] at H; exact H
    clear H
    have H := H1
    clear H1
    obtain rfl := Option.some.inj H
    go_enter Try.func5, Try.ntmps5
    go_wp2_with (first | ((with_reducible refine gate_callee (f := 8) rfl ?_); refine goesL_ (some 10) rfl rfl Try.func8 (by kernel_rfl) rfl #[] rfl (by (try simp only [List.map_toArray, List.map_cons, List.map_nil]); first | done | rfl | (simp only [List.length_drop, List.length_take]; rfl)) ?_; (with_reducible refine (ambrylaw24_known.calls k  false _ A3.out).mono ?_); rintro e w79 ⟨rfl, hb⟩; refine ⟨_, rfl, ?_⟩; have n0_ := Aside0.mk (below_step (by repeat (first | (with_reducible first | exact HB.out | apply below_alloc | apply pw_below_drewN | apply below_drew1) | exact HB.out)) hb); clear HB; have HB := n0_; clear n0_; (try clear hb); (try clear hb2); (try clear hk); (try clear hi)))
    go_ret
    exact ⟨by first | rfl | (simp [errW_none, errW_some] <;> rfl) | (simp [*, errW_none, errW_some] <;> rfl), by repeat (first | (with_reducible first | exact HB.out | apply below_alloc | apply pw_below_drewN | apply below_drew1) | exact HB.out)⟩

/-! ### ambrylaw24_GlobGreat: function 6 -/
mutual
def ambrylaw24_GlobGreat.l0 : Nat → Int → Int → Int → ByteArray → ByteArray → Int → Option (Bool)
  | 0, _, _, _, _, _, _ => none
  | k + 1, x0, x1, x2, x7, x8, x9 => if x9 < (wrap64 (Int.tmod x0 60)) then ((some (([(⟨#[42, 97]⟩ : ByteArray), (⟨#[42, 42, 97]⟩ : ByteArray), (⟨#[63, 42]⟩ : ByteArray), (⟨#[42, 42]⟩ : ByteArray)] : List ByteArray) : List ByteArray)).bind fun y248 => (if 0 ≤ (Int.tmod (wrap64 (x2)) 4) then (if (Int.tmod (wrap64 (x2)) 4) < (y248.length : Int) then (if x7.size + (rdOf ByteArray.empty y248 (Int.tmod (wrap64 (x2)) 4)).size ≤ 9223372036854775807 then (ambrylaw24_GlobGreat.l0 k x0 x1 x2 (x7 ++ (rdOf ByteArray.empty y248 (Int.tmod (wrap64 (x2)) 4))) x8 (wrap64 (x9 + 1))) else (none)) else (none)) else (none))) else (ambrylaw24_GlobGreat.l1 k x1 x2 x7 x8 0)
def ambrylaw24_GlobGreat.l1 : Nat → Int → Int → ByteArray → ByteArray → Int → Option (Bool)
  | 0, _, _, _, _, _ => none
  | k + 1, x1, x2, x7, x8, x10 => if x10 < (wrap64 (x1)) then ((some (([(⟨#[97]⟩ : ByteArray), (⟨#[97, 98]⟩ : ByteArray), (⟨#[97, 47]⟩ : ByteArray)] : List ByteArray) : List ByteArray)).bind fun y252 => (if 0 ≤ (Int.tmod (wrap64 (Int.tdiv (wrap64 (x2)) 4)) 3) then (if (Int.tmod (wrap64 (Int.tdiv (wrap64 (x2)) 4)) 3) < (y252.length : Int) then (if x8.size + (rdOf ByteArray.empty y252 (Int.tmod (wrap64 (Int.tdiv (wrap64 (x2)) 4)) 3)).size ≤ 9223372036854775807 then (ambrylaw24_GlobGreat.l1 k x1 x2 x7 (x8 ++ (rdOf ByteArray.empty y252 (Int.tmod (wrap64 (Int.tdiv (wrap64 (x2)) 4)) 3))) (wrap64 (x10 + 1))) else (none)) else (none)) else (none))) else ((glob_Match.f k x7 x8).bind fun t256 => ((ambryref23_Match.f k x7 x8).bind fun t257 => (if (t256 == t257) = true then (if x7.size + 1 ≤ 9223372036854775807 then ((glob_Match.f k (x7 ++ (⟨#[98]⟩ : ByteArray)) x8).bind fun t258 => ((ambryref23_Match.f k (x7 ++ (⟨#[98]⟩ : ByteArray)) x8).bind fun t259 => (some (t258 == t259)))) else (none)) else (some false))))
end
def ambrylaw24_GlobGreat.f (k : Nat) (a0 : Int) (a1 : Int) (a2 : Int) : Option (Bool) := (ambrylaw24_known.f k).bind fun t247 => (if t247 = true then (ambrylaw24_GlobGreat.l0 k a0 a1 a2 (⟨#[]⟩ : ByteArray) (⟨#[]⟩ : ByteArray) 0) else (some false))
theorem ambrylaw24_GlobGreat.mono_l : ∀ k, (∀ y0 y1 y2 y3 y4 y5, LeO (ambrylaw24_GlobGreat.l0 k y0 y1 y2 y3 y4 y5) (ambrylaw24_GlobGreat.l0 (k + 1) y0 y1 y2 y3 y4 y5)) ∧ (∀ y0 y1 y2 y3 y4, LeO (ambrylaw24_GlobGreat.l1 k y0 y1 y2 y3 y4) (ambrylaw24_GlobGreat.l1 (k + 1) y0 y1 y2 y3 y4))
  | 0 => ⟨fun _ _ _ _ _ _ r h => by simp [ambrylaw24_GlobGreat.l0] at h, fun _ _ _ _ _ r h => by simp [ambrylaw24_GlobGreat.l1] at h⟩
  | k + 1 => by
    obtain ⟨ih0, ih1⟩ := ambrylaw24_GlobGreat.mono_l k
    refine ⟨?_, ?_⟩
    · intro y0 y1 y2 y3 y4 y5
      unfold ambrylaw24_GlobGreat.l0
      repeat' first
      | (with_reducible exact ih0 _ _ _ _ _ _)
      | (with_reducible exact ih1 _ _ _ _ _)
      | (with_reducible exact ambrylaw24_known.mono _)
      | (with_reducible exact ambryref23_Match.mono _ _ _)
      | (with_reducible exact glob_Match.mono _ _ _)
      | (with_reducible exact LeO.refl _)
      | (with_reducible exact LeO.none _)
      | (with_reducible refine LeO.ite ?_ ?_)
      | (with_reducible refine LeO.bind ?_ (fun _ => ?_))
      | exact ih0 _ _ _ _ _ _
      | exact ih1 _ _ _ _ _
      | exact ambrylaw24_known.mono _
      | exact ambryref23_Match.mono _ _ _
      | exact glob_Match.mono _ _ _
      | exact LeO.none _
      | refine LeO.ite ?_ ?_
      | refine LeO.bind ?_ (fun _ => ?_)
    · intro y0 y1 y2 y3 y4
      unfold ambrylaw24_GlobGreat.l1
      repeat' first
      | (with_reducible exact ih0 _ _ _ _ _ _)
      | (with_reducible exact ih1 _ _ _ _ _)
      | (with_reducible exact ambrylaw24_known.mono _)
      | (with_reducible exact ambryref23_Match.mono _ _ _)
      | (with_reducible exact glob_Match.mono _ _ _)
      | (with_reducible exact LeO.refl _)
      | (with_reducible exact LeO.none _)
      | (with_reducible refine LeO.ite ?_ ?_)
      | (with_reducible refine LeO.bind ?_ (fun _ => ?_))
      | exact ih0 _ _ _ _ _ _
      | exact ih1 _ _ _ _ _
      | exact ambrylaw24_known.mono _
      | exact ambryref23_Match.mono _ _ _
      | exact glob_Match.mono _ _ _
      | exact LeO.none _
      | refine LeO.ite ?_ ?_
      | refine LeO.bind ?_ (fun _ => ?_)
theorem ambrylaw24_GlobGreat.mono : ∀ a0 a1 a2 k, LeO (ambrylaw24_GlobGreat.f k a0 a1 a2) (ambrylaw24_GlobGreat.f (k + 1) a0 a1 a2) := by
  intro a0 a1 a2 k
  obtain ⟨ih0, ih1⟩ := ambrylaw24_GlobGreat.mono_l k
  unfold ambrylaw24_GlobGreat.f
  repeat' first
      | (with_reducible exact ih0 _ _ _ _ _ _)
      | (with_reducible exact ih1 _ _ _ _ _)
      | (with_reducible exact ambrylaw24_known.mono _)
      | (with_reducible exact ambryref23_Match.mono _ _ _)
      | (with_reducible exact glob_Match.mono _ _ _)
      | (with_reducible exact LeO.refl _)
      | (with_reducible exact LeO.none _)
      | (with_reducible refine LeO.ite ?_ ?_)
      | (with_reducible refine LeO.bind ?_ (fun _ => ?_))
      | exact ih0 _ _ _ _ _ _
      | exact ih1 _ _ _ _ _
      | exact ambrylaw24_known.mono _
      | exact ambryref23_Match.mono _ _ _
      | exact glob_Match.mono _ _ _
      | exact LeO.none _
      | refine LeO.ite ?_ ?_
      | refine LeO.bind ?_ (fun _ => ?_)
set_option maxHeartbeats 8000000 in
set_option maxRecDepth 100000 in
theorem ambrylaw24_GlobGreat.calls (k : Nat) (a0 : Int) (a1 : Int) (a2 : Int) (r : Bool) (w : World) (h : ambrylaw24_GlobGreat.f k a0 a1 a2 = some r) :
    Calls Try.prog 6 #[.int .u8 a0, .int .u8 a1, .int .u8 a2] w fun e w' => e = .returned (.bool r) ∧ Below w.heap.size w w' := by
  have HB := Aside0.mk (Below.refl w.heap.size w)
  have H : ((ambrylaw24_known.f k).bind fun t247 => (if t247 = true then (ambrylaw24_GlobGreat.l0 k a0 a1 a2 (⟨#[]⟩ : ByteArray) (⟨#[]⟩ : ByteArray) 0) else (some false))) = some r := h
  clear h
  replace H := Option.bind_eq_some_iff.mp H
  obtain ⟨t247, A40, H⟩ := H
  replace H : (if t247 = true then (ambrylaw24_GlobGreat.l0 k a0 a1 a2 (⟨#[]⟩ : ByteArray) (⟨#[]⟩ : ByteArray) 0) else (some false)) = some r := H
  have A4 := Aside0.mk A40
  clear A40
  by_cases c5 : t247 = true
  · subst c5
    have H1 : (ambrylaw24_GlobGreat.l0 k a0 a1 a2 (⟨#[]⟩ : ByteArray) (⟨#[]⟩ : ByteArray) 0) = some r := by rw [if_pos rfl] at H; exact H
    clear H
    have H := H1
    clear H1
    have H' := Aside0.mk H
    clear H
    go_enter Try.func6, Try.ntmps6
    go_wp2_with (first | ((with_reducible refine gate_callee (f := 8) rfl ?_); refine goesL_ (some 11) rfl rfl Try.func8 (by kernel_rfl) rfl #[] rfl (by (try simp only [List.map_toArray, List.map_cons, List.map_nil]); first | done | rfl | (simp only [List.length_drop, List.length_take]; rfl)) ?_; (with_reducible refine (ambrylaw24_known.calls k  true _ A4.out).mono ?_); rintro e w6 ⟨rfl, hb⟩; refine ⟨_, rfl, ?_⟩; have n0_ := Aside0.mk (below_step (by repeat (first | (with_reducible first | exact HB.out | apply below_alloc | apply pw_below_drewN | apply below_drew1) | exact HB.out)) hb); clear HB; have HB := n0_; clear n0_; (try clear hb); (try clear hb2); (try clear hk); (try clear hi)))
    go_loopg [7, 9] k (fun kq v7 v9 w' => ∃ (x7_1 : ByteArray) (x9_1 : Int), v7 = .string x7_1 ∧ v9 = .int .i64 x9_1 ∧ Aside0 (ambrylaw24_GlobGreat.l0 kq a0 a1 a2 x7_1 (⟨#[]⟩ : ByteArray) x9_1 = some r) ∧ Aside0 (kq ≤ k) ∧ Aside0 (Below w.heap.size w w'))
    case atStart => exact ⟨((⟨#[]⟩ : ByteArray)), (0), (by first | rfl | (simp; done) | (simp [*]; done)), (by first | rfl | (simp; done) | (simp [*]; done)), H', ⟨Nat.le_refl _⟩, ⟨by repeat (first | (with_reducible first | exact HB.out | apply below_alloc | apply pw_below_drewN | apply below_drew1) | exact HB.out)⟩⟩
    case round =>
      clear H'
      try clear p2
      try clear c5
      try clear c6
      obtain ⟨x7_1, x9_1, rfl, rfl, HA, HK1, HB⟩ := hrel
      cases gk with
      | zero => exact absurd HA.out (by simp [ambrylaw24_GlobGreat.l0])
      | succ k1 =>
        have H := HA.out
        clear HA
        simp only [ambrylaw24_GlobGreat.l0] at H
        by_cases c7 : x9_1 < (wrap64 (Int.tmod a0 60))
        · rw [if_pos c7] at H
          have c7b0 : decide (x9_1 < (wrap64 (Int.tmod a0 60))) = true := decide_eq_true c7
          clear c7
          obtain ⟨y248, hy248⟩ : ∃ y_ : List ByteArray, y_ = (([(⟨#[42, 97]⟩ : ByteArray), (⟨#[42, 42, 97]⟩ : ByteArray), (⟨#[63, 42]⟩ : ByteArray), (⟨#[42, 42]⟩ : ByteArray)] : List ByteArray)) := ⟨_, rfl⟩
          replace H : (if 0 ≤ (Int.tmod (wrap64 (a2)) 4) then (if (Int.tmod (wrap64 (a2)) 4) < (y248.length : Int) then (if x7_1.size + (rdOf ByteArray.empty y248 (Int.tmod (wrap64 (a2)) 4)).size ≤ 9223372036854775807 then (ambrylaw24_GlobGreat.l0 k1 a0 a1 a2 (x7_1 ++ (rdOf ByteArray.empty y248 (Int.tmod (wrap64 (a2)) 4))) (⟨#[]⟩ : ByteArray) (wrap64 (x9_1 + 1))) else (none)) else (none)) else (none)) = some r := by first | (rw [hy248]; with_reducible exact H) | (have H2_ := (Option.bind_some _ _).symm.trans H; rw [hy248]; with_reducible exact H2_) | (have H2_ := (Option.bind_some _ _).symm.trans H; with_reducible exact H2_) | with_reducible exact H | (rw [hy248]; exact H) | exact H
          have Ny248 := Aside0.mk hy248
          clear hy248
          obtain ⟨ji8, hji8⟩ : ∃ j_ : Int, (Int.tmod (wrap64 (a2)) 4) = j_ := ⟨_, rfl⟩
          replace H : (if 0 ≤ (ji8) then (if (ji8) < (y248.length : Int) then (if x7_1.size + (rdOf ByteArray.empty y248 (ji8)).size ≤ 9223372036854775807 then (ambrylaw24_GlobGreat.l0 k1 a0 a1 a2 (x7_1 ++ (rdOf ByteArray.empty y248 (ji8))) (⟨#[]⟩ : ByteArray) (wrap64 (x9_1 + 1))) else (none)) else (none)) else (none)) = some r := by first | (rw [hji8] at H; exact H) | (simp only [hji8] at H ⊢; exact H)
          by_cases c9 : 0 ≤ (ji8)
          · rw [if_pos c9] at H
            have c9b0 : decide (0 ≤ (ji8)) = true := decide_eq_true c9
            clear c9
            by_cases c10 : (ji8) < (y248.length : Int)
            · rw [if_pos c10] at H
              have c10b0 : decide ((ji8) < (y248.length : Int)) = true := decide_eq_true c10
              clear c10
              by_cases c11 : x7_1.size + (rdOf ByteArray.empty y248 (ji8)).size ≤ 9223372036854775807
              · rw [if_pos c11] at H
                have c11b0 := eq_true c11
                have c11b1 : decide (x7_1.size + (rdOf ByteArray.empty y248 (ji8)).size ≤ 9223372036854775807) = true := decide_eq_true c11
                try have c11b2 : (9223372036854775807 < x7_1.size + (rdOf ByteArray.empty y248 (ji8)).size) = False := eq_false (Nat.not_lt.2 c11)
                have H' := Aside0.mk H
                clear H
                go_wp2_with (first | ((with_reducible refine gate_dst (N := 21) rfl ?_); refine Kd.R_lit Kd.string _ 9 ?hg (N := 21) ?hd (xs := ([(⟨#[42, 97]⟩ : ByteArray), (⟨#[42, 42, 97]⟩ : ByteArray), (⟨#[63, 42]⟩ : ByteArray), (⟨#[42, 42]⟩ : ByteArray)] : List ByteArray)) (inner := [.string (⟨#[42, 97]⟩ : ByteArray), .string (⟨#[42, 42, 97]⟩ : ByteArray), .string (⟨#[63, 42]⟩ : ByteArray), .string (⟨#[42, 42]⟩ : ByteArray)]) (ok := fun _ => True) (okp := fun _ => True) ?hr ?hp (fun _ hk => hk) trivial (Below.refl _ _) (Nat.le_refl _) (by simp) ?_; (case hd => rfl); (case hg => rfl); (case hr => first | (go_simp; done) | (go_simp; rfl)); (case hp => exact (Reps.one (show Kd.M Kd.string _ _ _ (⟨#[42, 97]⟩ : ByteArray) [.string (⟨#[42, 97]⟩ : ByteArray)] from rfl) (Reps.one (show Kd.M Kd.string _ _ _ (⟨#[42, 42, 97]⟩ : ByteArray) [.string (⟨#[42, 42, 97]⟩ : ByteArray)] from rfl) (Reps.one (show Kd.M Kd.string _ _ _ (⟨#[63, 42]⟩ : ByteArray) [.string (⟨#[63, 42]⟩ : ByteArray)] from rfl) (Reps.one (show Kd.M Kd.string _ _ _ (⟨#[42, 42]⟩ : ByteArray) [.string (⟨#[42, 42]⟩ : ByteArray)] from rfl) (Reps.none _ _)))))); intro v249 w12 ho13 hb hg_ hnew_; clear hg_ hnew_; (first | rw [← Ny248.out] at ho13 | (simp only [Int.reduceToNat] at ho13; rw [← Ny248.out] at ho13)); have n0_ := Aside0.mk (Kd.R_lower ho13 (below_size (by repeat (first | (with_reducible first | exact HB.out | apply below_alloc | apply pw_below_drewN | apply below_drew1) | exact HB.out)))); have n1_ := Aside0.mk (below_step (by repeat (first | (with_reducible first | exact HB.out | apply below_alloc | apply pw_below_drewN | apply below_drew1) | exact HB.out)) hb); clear HB; have HO250 := n0_; have HB := n1_; clear n0_ n1_; clear hb ho13; obtain ⟨Ao14, co14, eo14⟩ := Kd.R_slice HO250.out; subst eo14; have p251 : 0 ≤ ((ji8) : Int) := of_decide_eq_true (by first | (with_reducible assumption) | assumption); have q251 : (ji8) < (y248.length : Int) := of_decide_eq_true (by first | (with_reducible assumption) | assumption); obtain ⟨ad251, e251, hx251_0⟩ := Kd.at_string (Kd.R_reads' HO250.out).2.2 (ji8) p251 q251; cases e251; replace p251 := eq_true p251; replace q251 := eq_true q251))
                go_roundg k1
                case measure => have := HK1.out; omega
                case rel => exact ⟨(x7_1 ++ (rdOf ByteArray.empty y248 (ji8))), (wrap64 (x9_1 + 1)), (by first | rfl | (simp; done) | (simp only [← hji8] <;> (first | rfl | simp)) | (simp [*]; done)), (by first | rfl | (simp; done) | (simp [*]; done)), H', ⟨by have := HK1.out; omega⟩, ⟨by repeat (first | (with_reducible first | exact HB.out | apply below_alloc | apply pw_below_drewN | apply below_drew1) | exact HB.out)⟩⟩
              · rw [if_neg c11] at H
                exact absurd H (by simp)
            · rw [if_neg c10] at H
              exact absurd H (by simp)
          · rw [if_neg c9] at H
            exact absurd H (by simp)
        · rw [if_neg c7] at H
          have c7b0 : decide (x9_1 < (wrap64 (Int.tmod a0 60))) = false := decide_eq_false c7
          clear c7
          have H' := Aside0.mk H
          clear H
          go_wp2
          go_loopg [8, 10] k1 (fun kq v8 v10 w' => ∃ (x8_2 : ByteArray) (x10_2 : Int), v8 = .string x8_2 ∧ v10 = .int .i64 x10_2 ∧ Aside0 (ambrylaw24_GlobGreat.l1 kq a1 a2 x7_1 x8_2 x10_2 = some r) ∧ Aside0 (kq ≤ k1) ∧ Aside0 (Below w.heap.size w w'))
          case atStart => exact ⟨((⟨#[]⟩ : ByteArray)), (0), (by first | rfl | (simp; done) | (simp [*]; done)), (by first | rfl | (simp; done) | (simp [*]; done)), H', ⟨Nat.le_refl _⟩, ⟨by repeat (first | (with_reducible first | exact HB.out | apply below_alloc | apply pw_below_drewN | apply below_drew1) | exact HB.out)⟩⟩
          case round =>
            clear H'
            try clear hji8
            try clear c1
            try clear p2
            try clear q2
            try clear hx2
            try clear c5
            try clear c6
            try clear p6
            try clear c7
            try clear c7b0
            try clear c8
            try clear c9
            try clear c9b0
            try clear c10
            try clear c10b0
            try clear c11
            try clear c11b0
            try clear c11b1
            try clear c11b2
            try clear hx251_0
            try clear p2
            try clear p251
            try clear q251
            obtain ⟨x8_2, x10_2, rfl, rfl, HA, HK2, HB⟩ := hrel
            cases gk with
            | zero => exact absurd HA.out (by simp [ambrylaw24_GlobGreat.l1])
            | succ k2 =>
              have H := HA.out
              clear HA
              simp only [ambrylaw24_GlobGreat.l1] at H
              by_cases c15 : x10_2 < (wrap64 (a1))
              · rw [if_pos c15] at H
                have c15b0 : decide (x10_2 < (wrap64 (a1))) = true := decide_eq_true c15
                clear c15
                obtain ⟨y252, hy252⟩ : ∃ y_ : List ByteArray, y_ = (([(⟨#[97]⟩ : ByteArray), (⟨#[97, 98]⟩ : ByteArray), (⟨#[97, 47]⟩ : ByteArray)] : List ByteArray)) := ⟨_, rfl⟩
                replace H : (if 0 ≤ (Int.tmod (wrap64 (Int.tdiv (wrap64 (a2)) 4)) 3) then (if (Int.tmod (wrap64 (Int.tdiv (wrap64 (a2)) 4)) 3) < (y252.length : Int) then (if x8_2.size + (rdOf ByteArray.empty y252 (Int.tmod (wrap64 (Int.tdiv (wrap64 (a2)) 4)) 3)).size ≤ 9223372036854775807 then (ambrylaw24_GlobGreat.l1 k2 a1 a2 x7_1 (x8_2 ++ (rdOf ByteArray.empty y252 (Int.tmod (wrap64 (Int.tdiv (wrap64 (a2)) 4)) 3))) (wrap64 (x10_2 + 1))) else (none)) else (none)) else (none)) = some r := by first | (rw [hy252]; with_reducible exact H) | (have H2_ := (Option.bind_some _ _).symm.trans H; rw [hy252]; with_reducible exact H2_) | (have H2_ := (Option.bind_some _ _).symm.trans H; with_reducible exact H2_) | with_reducible exact H | (rw [hy252]; exact H) | exact H
                have Ny252 := Aside0.mk hy252
                clear hy252
                obtain ⟨ji16, hji16⟩ : ∃ j_ : Int, (Int.tmod (wrap64 (Int.tdiv (wrap64 (a2)) 4)) 3) = j_ := ⟨_, rfl⟩
                replace H : (if 0 ≤ (ji16) then (if (ji16) < (y252.length : Int) then (if x8_2.size + (rdOf ByteArray.empty y252 (ji16)).size ≤ 9223372036854775807 then (ambrylaw24_GlobGreat.l1 k2 a1 a2 x7_1 (x8_2 ++ (rdOf ByteArray.empty y252 (ji16))) (wrap64 (x10_2 + 1))) else (none)) else (none)) else (none)) = some r := by first | (rw [hji16] at H; exact H) | (simp only [hji16] at H ⊢; exact H)
                by_cases c17 : 0 ≤ (ji16)
                · rw [if_pos c17] at H
                  have c17b0 : decide (0 ≤ (ji16)) = true := decide_eq_true c17
                  clear c17
                  by_cases c18 : (ji16) < (y252.length : Int)
                  · rw [if_pos c18] at H
                    have c18b0 : decide ((ji16) < (y252.length : Int)) = true := decide_eq_true c18
                    clear c18
                    by_cases c19 : x8_2.size + (rdOf ByteArray.empty y252 (ji16)).size ≤ 9223372036854775807
                    · rw [if_pos c19] at H
                      have c19b0 := eq_true c19
                      have c19b1 : decide (x8_2.size + (rdOf ByteArray.empty y252 (ji16)).size ≤ 9223372036854775807) = true := decide_eq_true c19
                      try have c19b2 : (9223372036854775807 < x8_2.size + (rdOf ByteArray.empty y252 (ji16)).size) = False := eq_false (Nat.not_lt.2 c19)
                      have H' := Aside0.mk H
                      clear H
                      go_wp2_with (first | ((with_reducible refine gate_dst (N := 35) rfl ?_); refine Kd.R_lit Kd.string _ 9 ?hg (N := 35) ?hd (xs := ([(⟨#[97]⟩ : ByteArray), (⟨#[97, 98]⟩ : ByteArray), (⟨#[97, 47]⟩ : ByteArray)] : List ByteArray)) (inner := [.string (⟨#[97]⟩ : ByteArray), .string (⟨#[97, 98]⟩ : ByteArray), .string (⟨#[97, 47]⟩ : ByteArray)]) (ok := fun _ => True) (okp := fun _ => True) ?hr ?hp (fun _ hk => hk) trivial (Below.refl _ _) (Nat.le_refl _) (by simp) ?_; (case hd => rfl); (case hg => rfl); (case hr => first | (go_simp; done) | (go_simp; rfl)); (case hp => exact (Reps.one (show Kd.M Kd.string _ _ _ (⟨#[97]⟩ : ByteArray) [.string (⟨#[97]⟩ : ByteArray)] from rfl) (Reps.one (show Kd.M Kd.string _ _ _ (⟨#[97, 98]⟩ : ByteArray) [.string (⟨#[97, 98]⟩ : ByteArray)] from rfl) (Reps.one (show Kd.M Kd.string _ _ _ (⟨#[97, 47]⟩ : ByteArray) [.string (⟨#[97, 47]⟩ : ByteArray)] from rfl) (Reps.none _ _))))); intro v253 w20 ho21 hb hg_ hnew_; clear hg_ hnew_; (first | rw [← Ny252.out] at ho21 | (simp only [Int.reduceToNat] at ho21; rw [← Ny252.out] at ho21)); have n0_ := Aside0.mk (Kd.R_lower ho21 (below_size (by repeat (first | (with_reducible first | exact HB.out | apply below_alloc | apply pw_below_drewN | apply below_drew1) | exact HB.out)))); have n1_ := Aside0.mk (below_step (by repeat (first | (with_reducible first | exact HB.out | apply below_alloc | apply pw_below_drewN | apply below_drew1) | exact HB.out)) hb); clear HB; have HO254 := n0_; have HB := n1_; clear n0_ n1_; clear hb ho21; obtain ⟨Ao22, co22, eo22⟩ := Kd.R_slice HO254.out; subst eo22; have p255 : 0 ≤ ((ji16) : Int) := of_decide_eq_true (by first | (with_reducible assumption) | assumption); have q255 : (ji16) < (y252.length : Int) := of_decide_eq_true (by first | (with_reducible assumption) | assumption); obtain ⟨ad255, e255, hx255_0⟩ := Kd.at_string (Kd.R_reads' HO254.out).2.2 (ji16) p255 q255; cases e255; replace p255 := eq_true p255; replace q255 := eq_true q255))
                      go_roundg k2
                      case measure => have := HK1.out; have := HK2.out; omega
                      case rel => exact ⟨(x8_2 ++ (rdOf ByteArray.empty y252 (ji16))), (wrap64 (x10_2 + 1)), (by first | rfl | (simp; done) | (simp only [← hji16] <;> (first | rfl | simp)) | (simp [*]; done)), (by first | rfl | (simp; done) | (simp [*]; done)), H', ⟨by have := HK1.out; have := HK2.out; omega⟩, ⟨by repeat (first | (with_reducible first | exact HB.out | apply below_alloc | apply pw_below_drewN | apply below_drew1) | exact HB.out)⟩⟩
                    · rw [if_neg c19] at H
                      exact absurd H (by simp)
                  · rw [if_neg c18] at H
                    exact absurd H (by simp)
                · rw [if_neg c17] at H
                  exact absurd H (by simp)
              · rw [if_neg c15] at H
                have c15b0 : decide (x10_2 < (wrap64 (a1))) = false := decide_eq_false c15
                clear c15
                replace H := Option.bind_eq_some_iff.mp H
                obtain ⟨t256, A230, H⟩ := H
                replace H : ((ambryref23_Match.f k2 x7_1 x8_2).bind fun t257 => (if (t256 == t257) = true then (if x7_1.size + 1 ≤ 9223372036854775807 then ((glob_Match.f k2 (x7_1 ++ (⟨#[98]⟩ : ByteArray)) x8_2).bind fun t258 => ((ambryref23_Match.f k2 (x7_1 ++ (⟨#[98]⟩ : ByteArray)) x8_2).bind fun t259 => (some (t258 == t259)))) else (none)) else (some false))) = some r := H
                have A23 := Aside0.mk A230
                clear A230
                replace H := Option.bind_eq_some_iff.mp H
                obtain ⟨t257, A240, H⟩ := H
                replace H : (if (t256 == t257) = true then (if x7_1.size + 1 ≤ 9223372036854775807 then ((glob_Match.f k2 (x7_1 ++ (⟨#[98]⟩ : ByteArray)) x8_2).bind fun t258 => ((ambryref23_Match.f k2 (x7_1 ++ (⟨#[98]⟩ : ByteArray)) x8_2).bind fun t259 => (some (t258 == t259)))) else (none)) else (some false)) = some r := H
                have A24 := Aside0.mk A240
                clear A240
                by_cases c25 : (t256 == t257) = true
                · rw [if_pos c25] at H
                  have c25b0 : (t256 == t257) = true := c25
                  (try (have c25b1 : decide (t256 = t257) = true := by simpa using c25))
                  (try (have c25b2 : (t256 == t257) = true := by simpa using c25))
                  clear c25
                  by_cases c26 : x7_1.size + 1 ≤ 9223372036854775807
                  · rw [if_pos c26] at H
                    have c26b0 := eq_true c26
                    have c26b1 : decide (x7_1.size + 1 ≤ 9223372036854775807) = true := decide_eq_true c26
                    try have c26b2 : (9223372036854775807 < x7_1.size + 1) = False := eq_false (Nat.not_lt.2 c26)
                    replace H := Option.bind_eq_some_iff.mp H
                    obtain ⟨t258, A270, H⟩ := H
                    replace H : ((ambryref23_Match.f k2 (x7_1 ++ (⟨#[98]⟩ : ByteArray)) x8_2).bind fun t259 => (some (t258 == t259))) = some r := H
                    have A27 := Aside0.mk A270
                    clear A270
                    replace H := Option.bind_eq_some_iff.mp H
                    obtain ⟨t259, A280, H⟩ := H
                    replace H : (some (t258 == t259)) = some r := H
                    have A28 := Aside0.mk A280
                    clear A280
                    obtain rfl := Option.some.inj H
                    go_wp2_with (first | ((with_reducible refine gate_callee (f := 9) rfl ?_); refine goesL_ (some 45) rfl rfl Try.func9 (by kernel_rfl) rfl #[.string x7_1, .string x8_2] rfl (by (try simp only [List.map_toArray, List.map_cons, List.map_nil]); first | done | rfl | (simp only [List.length_drop, List.length_take]; rfl)) ?_; (with_reducible refine (glob_Match.calls k2 x7_1 x8_2 t256 _ A23.out).mono ?_); rintro e w29 ⟨rfl, hb⟩; refine ⟨_, rfl, ?_⟩; have n0_ := Aside0.mk (below_step (by repeat (first | (with_reducible first | exact HB.out | apply below_alloc | apply pw_below_drewN | apply below_drew1) | exact HB.out)) hb); clear HB; have HB := n0_; clear n0_; (try clear hb); (try clear hb2); (try clear hk); (try clear hi)) | ((with_reducible refine gate_callee (f := 10) rfl ?_); refine goesL_ (some 48) rfl rfl Try.func10 (by kernel_rfl) rfl #[.string x7_1, .string x8_2] rfl (by (try simp only [List.map_toArray, List.map_cons, List.map_nil]); first | done | rfl | (simp only [List.length_drop, List.length_take]; rfl)) ?_; (with_reducible refine (ambryref23_Match.calls k2 x7_1 x8_2 t257 _ A24.out).mono ?_); rintro e w30 ⟨rfl, hb⟩; refine ⟨_, rfl, ?_⟩; have n0_ := Aside0.mk (below_step (by repeat (first | (with_reducible first | exact HB.out | apply below_alloc | apply pw_below_drewN | apply below_drew1) | exact HB.out)) hb); clear HB; have HB := n0_; clear n0_; (try clear hb); (try clear hb2); (try clear hk); (try clear hi)) | (go_at_call 9; (with_reducible refine (glob_Match.calls k2 (x7_1 ++ (⟨#[98]⟩ : ByteArray)) x8_2 t258 _ A27.out).mono ?_); rintro e w31 ⟨rfl, hb⟩; have n0_ := Aside0.mk (below_step (by repeat (first | (with_reducible first | exact HB.out | apply below_alloc | apply pw_below_drewN | apply below_drew1) | exact HB.out)) hb); clear HB; have HB := n0_; clear n0_; (try clear hb); (try clear hb2); (try clear hk); (try clear hi)) | (go_at_call 10; (with_reducible refine (ambryref23_Match.calls k2 (x7_1 ++ (⟨#[98]⟩ : ByteArray)) x8_2 t259 _ A28.out).mono ?_); rintro e w32 ⟨rfl, hb⟩; have n0_ := Aside0.mk (below_step (by repeat (first | (with_reducible first | exact HB.out | apply below_alloc | apply pw_below_drewN | apply below_drew1) | exact HB.out)) hb); clear HB; have HB := n0_; clear n0_; (try clear hb); (try clear hb2); (try clear hk); (try clear hi)))
                    go_ret
                    exact ⟨by first | rfl | (simp [errW_none, errW_some] <;> rfl) | (simp [*, errW_none, errW_some] <;> rfl), by repeat (first | (with_reducible first | exact HB.out | apply below_alloc | apply pw_below_drewN | apply below_drew1) | exact HB.out)⟩
                  · rw [if_neg c26] at H
                    exact absurd H (by simp)
                · rw [if_neg c25] at H
                  have c25b0 : (t256 == t257) = false := by simpa using c25
                  (try (have c25b1 : decide (t256 = t257) = false := by simpa using c25))
                  (try (have c25b2 : (t256 == t257) = false := by simpa using c25))
                  (try (have c25b3 : ¬ (t256 = t257) := by simpa using c25))
                  clear c25
                  obtain rfl := Option.some.inj H
                  go_wp2_with (first | ((with_reducible refine gate_callee (f := 9) rfl ?_); refine goesL_ (some 45) rfl rfl Try.func9 (by kernel_rfl) rfl #[.string x7_1, .string x8_2] rfl (by (try simp only [List.map_toArray, List.map_cons, List.map_nil]); first | done | rfl | (simp only [List.length_drop, List.length_take]; rfl)) ?_; (with_reducible refine (glob_Match.calls k2 x7_1 x8_2 t256 _ A23.out).mono ?_); rintro e w33 ⟨rfl, hb⟩; refine ⟨_, rfl, ?_⟩; have n0_ := Aside0.mk (below_step (by repeat (first | (with_reducible first | exact HB.out | apply below_alloc | apply pw_below_drewN | apply below_drew1) | exact HB.out)) hb); clear HB; have HB := n0_; clear n0_; (try clear hb); (try clear hb2); (try clear hk); (try clear hi)) | ((with_reducible refine gate_callee (f := 10) rfl ?_); refine goesL_ (some 48) rfl rfl Try.func10 (by kernel_rfl) rfl #[.string x7_1, .string x8_2] rfl (by (try simp only [List.map_toArray, List.map_cons, List.map_nil]); first | done | rfl | (simp only [List.length_drop, List.length_take]; rfl)) ?_; (with_reducible refine (ambryref23_Match.calls k2 x7_1 x8_2 t257 _ A24.out).mono ?_); rintro e w34 ⟨rfl, hb⟩; refine ⟨_, rfl, ?_⟩; have n0_ := Aside0.mk (below_step (by repeat (first | (with_reducible first | exact HB.out | apply below_alloc | apply pw_below_drewN | apply below_drew1) | exact HB.out)) hb); clear HB; have HB := n0_; clear n0_; (try clear hb); (try clear hb2); (try clear hk); (try clear hi)))
                  go_ret
                  exact ⟨by first | rfl | (simp [errW_none, errW_some] <;> rfl) | (simp [*, errW_none, errW_some] <;> rfl), by repeat (first | (with_reducible first | exact HB.out | apply below_alloc | apply pw_below_drewN | apply below_drew1) | exact HB.out)⟩
  · replace c5 := Bool.eq_false_iff.mpr c5
    subst c5
    have H1 : (some false) = some r := by rw [if_neg (show ¬ (false = true) by decide)] at H; exact H
    clear H
    have H := H1
    clear H1
    obtain rfl := Option.some.inj H
    go_enter Try.func6, Try.ntmps6
    go_wp2_with (first | ((with_reducible refine gate_callee (f := 8) rfl ?_); refine goesL_ (some 11) rfl rfl Try.func8 (by kernel_rfl) rfl #[] rfl (by (try simp only [List.map_toArray, List.map_cons, List.map_nil]); first | done | rfl | (simp only [List.length_drop, List.length_take]; rfl)) ?_; (with_reducible refine (ambrylaw24_known.calls k  false _ A4.out).mono ?_); rintro e w35 ⟨rfl, hb⟩; refine ⟨_, rfl, ?_⟩; have n0_ := Aside0.mk (below_step (by repeat (first | (with_reducible first | exact HB.out | apply below_alloc | apply pw_below_drewN | apply below_drew1) | exact HB.out)) hb); clear HB; have HB := n0_; clear n0_; (try clear hb); (try clear hb2); (try clear hk); (try clear hi)))
    go_ret
    exact ⟨by first | rfl | (simp [errW_none, errW_some] <;> rfl) | (simp [*, errW_none, errW_some] <;> rfl), by repeat (first | (with_reducible first | exact HB.out | apply below_alloc | apply pw_below_drewN | apply below_drew1) | exact HB.out)⟩

/-- THE ONE PURE STATEMENT of ambrylaw24_GlobGreat: yours. -/
def ambrylaw24_GlobGreat.Pure : Prop := ∀ (a0 : Int) (a1 : Int) (a2 : Int), (Lit.int .u8 a0).wf = true → (Lit.int .u8 a1).wf = true → (Lit.int .u8 a2).wf = true → ∃ k, ambrylaw24_GlobGreat.f k a0 a1 a2 = some true
theorem ambrylaw24_GlobGreat.walk (P : ambrylaw24_GlobGreat.Pure) (a0 : Int) (a1 : Int) (a2 : Int) (w : World) (w0 : (Lit.int .u8 a0).wf = true) (w1 : (Lit.int .u8 a1).wf = true) (w2 : (Lit.int .u8 a2).wf = true) :
    Calls Try.prog 6 #[.int .u8 a0, .int .u8 a1, .int .u8 a2] w fun e w' => e = .returned (.bool true) ∧ Below w.heap.size w w' := by
  obtain ⟨k, h⟩ := P a0 a1 a2 w0 w1 w2
  refine (ambrylaw24_GlobGreat.calls k a0 a1 a2 true w h).mono ?_
  rintro e w' ⟨rfl, hd⟩
  exact ⟨rfl, hd⟩

end Go.Proofs.Ytjmgnlkpkngjeaa.G
