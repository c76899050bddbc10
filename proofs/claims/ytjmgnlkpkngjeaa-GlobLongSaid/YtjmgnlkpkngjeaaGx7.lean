-- PRINTED by print.py (a twelfth state) out of the translation. Not trusted: Lean checks it.
import Derived.Test.YtjmgnlkpkngjeaaGx0
import Derived.Test.YtjmgnlkpkngjeaaGx2
import Derived.Test.YtjmgnlkpkngjeaaGx3
namespace Go.Proofs.Ytjmgnlkpkngjeaa.G
open Go.RowKit Go.Proofs.YtjmgnlkpkngjeaaW.PrintWords Go.Proofs.YtjmgnlkpkngjeaaW.PrintLast Go.Proofs.YtjmgnlkpkngjeaaW.PrintMore
attribute [local go_sem] max2_int min2_int max_two min_two max_three min_three max_four min_four   -- for this text's walks alone
set_option linter.unusedVariables false
set_option linter.unusedSimpArgs false

/-! ### ambrylaw24_GlobLong: function 7 -/
def ambrylaw24_GlobLong.l0 : Nat → Int → List Int → Int → Option (Bool)
  | 0, _, _, _ => none
  | k + 1, x3, x4, x5 => if x5 < x3 then (if 0 ≤ x5 then (if x5 < (x4.length : Int) then (ambrylaw24_GlobLong.l0 k x3 (x4.set (x5 : Int).toNat 97) (wrap64 (x5 + 1))) else (none)) else (none)) else ((glob_Valid.f k (strOfNums x4)).bind fun t265 => (if ((t265 == 0) == (decide (x3 ≤ 200))) = true then ((glob_Match.f k (strOfNums x4) (strOfNums x4)).bind fun t266 => (some (t266 == (decide (x3 ≤ 200))))) else (some false)))
def ambrylaw24_GlobLong.f (k : Nat) (a0 : Int) : Option (Bool) := (ambrylaw24_known.f k).bind fun t260 => (if t260 = true then (if 0 ≤ (wrap64 (198 + (wrap64 ((Go.bits .and .i64 a0 3) + (Go.bits .and .i64 (a0 / 4) 1))))) then (if (wrap64 (198 + (wrap64 ((Go.bits .and .i64 a0 3) + (Go.bits .and .i64 (a0 / 4) 1)))) : Int).toNat ≤ 281474976710656 then (ambrylaw24_GlobLong.l0 k (wrap64 (198 + (wrap64 ((Go.bits .and .i64 a0 3) + (Go.bits .and .i64 (a0 / 4) 1))))) (List.replicate (wrap64 (198 + (wrap64 ((Go.bits .and .i64 a0 3) + (Go.bits .and .i64 (a0 / 4) 1)))) : Int).toNat 0) 0) else (none)) else (none)) else (some false))
theorem ambrylaw24_GlobLong.mono_l : ∀ k, (∀ y0 y1 y2, LeO (ambrylaw24_GlobLong.l0 k y0 y1 y2) (ambrylaw24_GlobLong.l0 (k + 1) y0 y1 y2))
  | 0 => fun _ _ _ r h => by simp [ambrylaw24_GlobLong.l0] at h
  | k + 1 => by
    have ih0 := ambrylaw24_GlobLong.mono_l k
    · intro y0 y1 y2
      unfold ambrylaw24_GlobLong.l0
      repeat' first
      | (with_reducible exact ih0 _ _ _)
      | (with_reducible exact ambrylaw24_known.mono _)
      | (with_reducible exact glob_Match.mono _ _ _)
      | (with_reducible exact glob_Valid.mono _ _)
      | (with_reducible exact LeO.refl _)
      | (with_reducible exact LeO.none _)
      | (with_reducible refine LeO.ite ?_ ?_)
      | (with_reducible refine LeO.bind ?_ (fun _ => ?_))
      | exact ih0 _ _ _
      | exact ambrylaw24_known.mono _
      | exact glob_Match.mono _ _ _
      | exact glob_Valid.mono _ _
      | exact LeO.none _
      | refine LeO.ite ?_ ?_
      | refine LeO.bind ?_ (fun _ => ?_)
theorem ambrylaw24_GlobLong.mono : ∀ a0 k, LeO (ambrylaw24_GlobLong.f k a0) (ambrylaw24_GlobLong.f (k + 1) a0) := by
  intro a0 k
  have ih0 := ambrylaw24_GlobLong.mono_l k
  unfold ambrylaw24_GlobLong.f
  repeat' first
      | (with_reducible exact ih0 _ _ _)
      | (with_reducible exact ambrylaw24_known.mono _)
      | (with_reducible exact glob_Match.mono _ _ _)
      | (with_reducible exact glob_Valid.mono _ _)
      | (with_reducible exact LeO.refl _)
      | (with_reducible exact LeO.none _)
      | (with_reducible refine LeO.ite ?_ ?_)
      | (with_reducible refine LeO.bind ?_ (fun _ => ?_))
      | exact ih0 _ _ _
      | exact ambrylaw24_known.mono _
      | exact glob_Match.mono _ _ _
      | exact glob_Valid.mono _ _
      | exact LeO.none _
      | refine LeO.ite ?_ ?_
      | refine LeO.bind ?_ (fun _ => ?_)
set_option maxHeartbeats 8000000 in
set_option maxRecDepth 100000 in
theorem ambrylaw24_GlobLong.calls (k : Nat) (a0 : Int) (r : Bool) (w : World) (h : ambrylaw24_GlobLong.f k a0 = some r) :
    Calls Try.prog 7 #[.int .i64 a0] w fun e w' => e = .returned (.bool r) ∧ Below w.heap.size w w' := by
  have HB := Aside0.mk (Below.refl w.heap.size w)
  have H : ((ambrylaw24_known.f k).bind fun t260 => (if t260 = true then (if 0 ≤ (wrap64 (198 + (wrap64 ((Go.bits .and .i64 a0 3) + (Go.bits .and .i64 (a0 / 4) 1))))) then (if (wrap64 (198 + (wrap64 ((Go.bits .and .i64 a0 3) + (Go.bits .and .i64 (a0 / 4) 1)))) : Int).toNat ≤ 281474976710656 then (ambrylaw24_GlobLong.l0 k (wrap64 (198 + (wrap64 ((Go.bits .and .i64 a0 3) + (Go.bits .and .i64 (a0 / 4) 1))))) (List.replicate (wrap64 (198 + (wrap64 ((Go.bits .and .i64 a0 3) + (Go.bits .and .i64 (a0 / 4) 1)))) : Int).toNat 0) 0) else (none)) else (none)) else (some false))) = some r := h
  clear h
  replace H := Option.bind_eq_some_iff.mp H
  obtain ⟨t260, A20, H⟩ := H
  replace H : (if t260 = true then (if 0 ≤ (wrap64 (198 + (wrap64 ((Go.bits .and .i64 a0 3) + (Go.bits .and .i64 (a0 / 4) 1))))) then (if (wrap64 (198 + (wrap64 ((Go.bits .and .i64 a0 3) + (Go.bits .and .i64 (a0 / 4) 1)))) : Int).toNat ≤ 281474976710656 then (ambrylaw24_GlobLong.l0 k (wrap64 (198 + (wrap64 ((Go.bits .and .i64 a0 3) + (Go.bits .and .i64 (a0 / 4) 1))))) (List.replicate (wrap64 (198 + (wrap64 ((Go.bits .and .i64 a0 3) + (Go.bits .and .i64 (a0 / 4) 1)))) : Int).toNat 0) 0) else (none)) else (none)) else (some false)) = some r := H
  have A2 := Aside0.mk A20
  clear A20
  by_cases c3 : t260 = true
  · subst c3
    have H1 : (if 0 ≤ (wrap64 (198 + (wrap64 ((Go.bits .and .i64 a0 3) + (Go.bits .and .i64 (a0 / 4) 1))))) then (if (wrap64 (198 + (wrap64 ((Go.bits .and .i64 a0 3) + (Go.bits .and .i64 (a0 / 4) 1)))) : Int).toNat ≤ 281474976710656 then (ambrylaw24_GlobLong.l0 k (wrap64 (198 + (wrap64 ((Go.bits .and .i64 a0 3) + (Go.bits .and .i64 (a0 / 4) 1))))) (List.replicate (wrap64 (198 + (wrap64 ((Go.bits .and .i64 a0 3) + (Go.bits .and .i64 (a0 / 4) 1)))) : Int).toNat 0) 0) else (none)) else (none)) = some r := by rw [if_pos rfl] at H; exact H
    clear H
    have H := H1
    clear H1
    obtain ⟨ji4, hji4⟩ : ∃ j_ : Int, (wrap64 (198 + (wrap64 ((Go.bits .and .i64 a0 3) + (Go.bits .and .i64 (a0 / 4) 1))))) = j_ := ⟨_, rfl⟩
    replace H : (if 0 ≤ (ji4) then (if (ji4 : Int).toNat ≤ 281474976710656 then (ambrylaw24_GlobLong.l0 k ji4 (List.replicate (ji4 : Int).toNat 0) 0) else (none)) else (none)) = some r := by first | (rw [hji4] at H; exact H) | (simp only [hji4] at H ⊢; exact H)
    (try rw [hji4] at A2)
    have hji4w : (IntKind.i64.wrap (198 + (wrap64 ((Go.bits .and .i64 a0 3) + (Go.bits .and .i64 (a0 / 4) 1))))) = ji4 := (i64_w _).trans hji4
    by_cases c5 : 0 ≤ (ji4)
    · rw [if_pos c5] at H
      have c5b0 := eq_true c5
      have c5b1 : decide (0 ≤ (ji4)) = true := decide_eq_true c5
      clear c5
      by_cases c6 : (ji4 : Int).toNat ≤ 281474976710656
      · rw [if_pos c6] at H
        have c6b0 := eq_true c6
        have c6b1 : decide ((ji4 : Int).toNat ≤ 281474976710656) = true := decide_eq_true c6
        clear c6
        obtain ⟨y261, hy261⟩ : ∃ y_ : List Int, y_ = (List.replicate (ji4 : Int).toNat 0) := ⟨_, rfl⟩
        replace H : (ambrylaw24_GlobLong.l0 k ji4 y261 0) = some r := by first | (rw [hy261]; with_reducible exact H) | (have H2_ := (Option.bind_some _ _).symm.trans H; rw [hy261]; with_reducible exact H2_) | (have H2_ := (Option.bind_some _ _).symm.trans H; with_reducible exact H2_) | with_reducible exact H | (rw [hy261]; exact H) | exact H
        have Ny261 := Aside0.mk hy261
        clear hy261
        have H' := Aside0.mk H
        clear H
        go_enter Try.func7, Try.ntmps7
        go_wp2_with (first | ((with_reducible refine gate_callee (f := 8) rfl ?_); refine goesL_ (some 7) rfl rfl Try.func8 (by kernel_rfl) rfl #[] rfl (by (try simp only [List.map_toArray, List.map_cons, List.map_nil]); first | done | rfl | (simp only [List.length_drop, List.length_take]; rfl)) ?_; (with_reducible refine (ambrylaw24_known.calls k  true _ A2.out).mono ?_); rintro e w7 ⟨rfl, hb⟩; refine ⟨_, rfl, ?_⟩; have n0_ := Aside0.mk (below_step (by repeat (first | (with_reducible first | exact HB.out | apply below_alloc | apply pw_below_drewN | apply below_drew1) | exact HB.out)) hb); clear HB; have HB := n0_; clear n0_; (try clear hb); (try clear hb2); (try clear hk); (try clear hi)) | ((with_reducible refine gate_dst (N := 17) rfl ?_); refine Kd.R_make (Kd.int .u8) _ 5 rfl (N := 17) rfl 28 _ _ rfl ji4 rfl rfl Try.underlying28 (.int .u8 0) 1 info5 rfl (by decide) (by omega) 0 (ok := fun _ => True) (okp := fun _ => True) rfl (fun _ hk => hk) trivial (of_decide_eq_true (by first | (with_reducible assumption) | assumption)) (Nat.le_trans (Nat.mul_le_mul_right _ (of_decide_eq_true (by first | (with_reducible assumption) | assumption) : ji4.toNat ≤ 281474976710656)) (by omega)) (Below.refl _ _) (Nat.le_refl _) ?_; intro v262 w8 ho9 hb hg_ hnew_; clear hg_ hnew_; (first | rw [← Ny261.out] at ho9 | (simp only [Int.reduceToNat] at ho9; rw [← Ny261.out] at ho9)); have n0_ := Aside0.mk (Kd.R_lower ho9 (below_size (by repeat (first | (with_reducible first | exact HB.out | apply below_alloc | apply pw_below_drewN | apply below_drew1) | exact HB.out)))); have n1_ := Aside0.mk (below_step (by repeat (first | (with_reducible first | exact HB.out | apply below_alloc | apply pw_below_drewN | apply below_drew1) | exact HB.out)) hb); clear HB; have HO263 := n0_; have HB := n1_; clear n0_ n1_; clear hb ho9))
        go_loopg [5] k (fun kq v5 w' => ∃ (x4_1 : List Int) (x5_1 : Int), v5 = .int .i64 x5_1 ∧ Aside0 (ambrylaw24_GlobLong.l0 kq ji4 x4_1 x5_1 = some r) ∧ Aside0 (kq ≤ k) ∧ Aside0 (Kd.R (Kd.int .u8) 5 w' w.heap.size (fun _ => True) v262 x4_1) ∧ Aside0 (Below w.heap.size w w'))
        case atStart => exact ⟨(y261), (0), (by first | rfl | (simp; done) | (simp [*]; done)), H', ⟨Nat.le_refl _⟩, ⟨by (with_reducible repeat (first | apply Kd.R_alloc | apply Kd.R_drewN | apply Kd.R_drew)); exact HO263.out⟩, ⟨by repeat (first | (with_reducible first | exact HB.out | apply below_alloc | apply pw_below_drewN | apply below_drew1) | exact HB.out)⟩⟩
        case round =>
          clear H'
          try clear hji4
          try clear hji4w
          try clear p2
          try clear c3
          try clear c5
          try clear c5b0
          try clear c5b1
          try clear c6
          try clear c6b0
          try clear c6b1
          try clear p6
          try clear c7
          try clear c8
          obtain ⟨x4_1, x5_1, rfl, HA, HK1, HO_4, HB⟩ := hrel
          cases gk with
          | zero => exact absurd HA.out (by simp [ambrylaw24_GlobLong.l0])
          | succ k1 =>
            have H := HA.out
            clear HA
            simp only [ambrylaw24_GlobLong.l0] at H
            by_cases c10 : x5_1 < ji4
            · rw [if_pos c10] at H
              have c10b0 : decide (x5_1 < ji4) = true := decide_eq_true c10
              clear c10
              by_cases c11 : 0 ≤ x5_1
              · rw [if_pos c11] at H
                have c11b0 : decide (0 ≤ x5_1) = true := decide_eq_true c11
                clear c11
                by_cases c12 : x5_1 < (x4_1.length : Int)
                · rw [if_pos c12] at H
                  have c12b0 : decide (x5_1 < (x4_1.length : Int)) = true := decide_eq_true c12
                  clear c12
                  obtain ⟨y264, hy264⟩ : ∃ y_ : List Int, y_ = (x4_1.set (x5_1 : Int).toNat 97) := ⟨_, rfl⟩
                  replace H : (ambrylaw24_GlobLong.l0 k1 ji4 y264 (wrap64 (x5_1 + 1))) = some r := by first | (rw [hy264]; with_reducible exact H) | (have H2_ := (Option.bind_some _ _).symm.trans H; rw [hy264]; with_reducible exact H2_) | (have H2_ := (Option.bind_some _ _).symm.trans H; with_reducible exact H2_) | with_reducible exact H | (rw [hy264]; exact H) | exact H
                  have Ny264 := Aside0.mk hy264
                  clear hy264
                  have H' := Aside0.mk H
                  clear H
                  have p13 : 0 ≤ (x5_1 : Int) := of_decide_eq_true (by first | (with_reducible assumption) | assumption)
                  have q13 : (x5_1 : Int) < ((x4_1.length : Int) : Int) := of_decide_eq_true (by first | (with_reducible assumption) | assumption)
                  obtain ⟨go13, co13, eo13, gb13, gl13, cl13, HG13⟩ := Kd.R_form HO_4.out (by omega)
                  (first | cases eo13 | (injection eo13 with ea_ en_ ec_; (first | subst ea_ | (injection ea_ with ea_; subst ea_)); subst ec_; clear en_))
                  have GB13 := Aside0.mk gb13
                  have GG13 := Aside0.mk HG13
                  clear gb13 gl13 HG13
                  obtain ⟨hx13_0, hf13_0⟩ := Kd.R_celln 0 HO_4.out (x5_1 : Int) p13 q13
                  replace p13 := eq_true p13
                  replace q13 := eq_true q13
                  have HP14 := Kd.R_putg HO_4.out (x5_1 : Int) 97
                  go_wp2_with (first | ((with_reducible refine gate_store (t := 5) (p := 25) rfl ?_); refine store_event (t := 5) (p := 25) (v := ?vo_w15) (w1 := (wr.setCell ⟨go13, (x5_1 : Int).toNat, none⟩ (.int .u8 97))) ?hg ?ho ?hn ?hr ?_; (case ho => rfl); (case hg => rfl); (case hn => rfl); (case hr => first | (go_simp; done) | (go_simp; rfl)); intro w15 hw; have hg : wr.grownBy w15 (some go13) := (by rw [hw]; exact HP14.2); have hp_ : Kd.R (Kd.int .u8) 5 w15 w.heap.size (fun _ => True) (.slice (some ⟨go13, 0, none⟩) x4_1.length co13) y264 := (by rw [hw, Ny264.out]; exact HP14.1); clear HP14; have n0_ := Aside0.mk (hp_); have n1_ := Aside0.mk ((by rw [hw]; exact below_set (HB.out) GB13.out : Below w.heap.size w w15)); clear HO_4; clear HB; have HO_4 := n0_; have HB := n1_; clear n0_ n1_; clear hg hw hp_))
                  go_roundg k1
                  case measure => have := HK1.out; omega
                  case rel => exact ⟨(y264), (wrap64 (x5_1 + 1)), (by first | rfl | (simp; done) | (simp [*]; done)), H', ⟨by have := HK1.out; omega⟩, ⟨by (with_reducible repeat (first | apply Kd.R_alloc | apply Kd.R_drewN | apply Kd.R_drew)); exact HO_4.out⟩, ⟨by repeat (first | (with_reducible first | exact HB.out | apply below_alloc | apply pw_below_drewN | apply below_drew1) | exact HB.out)⟩⟩
                · rw [if_neg c12] at H
                  exact absurd H (by simp)
              · rw [if_neg c11] at H
                exact absurd H (by simp)
            · rw [if_neg c10] at H
              have c10b0 : decide (x5_1 < ji4) = false := decide_eq_false c10
              clear c10
              replace H := Option.bind_eq_some_iff.mp H
              obtain ⟨t265, A160, H⟩ := H
              replace H : (if ((t265 == 0) == (decide (ji4 ≤ 200))) = true then ((glob_Match.f k1 (strOfNums x4_1) (strOfNums x4_1)).bind fun t266 => (some (t266 == (decide (ji4 ≤ 200))))) else (some false)) = some r := H
              have A16 := Aside0.mk A160
              clear A160
              by_cases c17 : ((t265 == 0) == (decide (ji4 ≤ 200))) = true
              · rw [if_pos c17] at H
                have c17b0 : ((t265 == 0) == (decide (ji4 ≤ 200))) = true := c17
                (try (have c17b1 : decide ((t265 == 0) = (decide (ji4 ≤ 200))) = true := by simpa using c17))
                (try (have c17b2 : ((t265 == 0) == (decide (ji4 ≤ 200))) = true := by simpa using c17))
                clear c17
                replace H := Option.bind_eq_some_iff.mp H
                obtain ⟨t266, A180, H⟩ := H
                replace H : (some (t266 == (decide (ji4 ≤ 200)))) = some r := H
                have A18 := Aside0.mk A180
                clear A180
                obtain rfl := Option.some.inj H
                have hcv19 := own_string (P := Try.prog) Try.underlying28 Try.underlying5 Try.underlying9 (Kd.own_of_R HO_4.out)
                go_wp2_with (first | ((with_reducible refine gate_callee (f := 11) rfl ?_); refine goesL_ (some 30) rfl rfl Try.func11 (by kernel_rfl) rfl #[.string (strOfNums x4_1)] rfl (by (try simp only [List.map_toArray, List.map_cons, List.map_nil]); first | done | rfl | (simp only [List.length_drop, List.length_take]; rfl)) ?_; (with_reducible refine (glob_Valid.calls k1 (strOfNums x4_1) t265 _ A16.out).mono ?_); rintro e w20 ⟨rfl, hb⟩; refine ⟨_, rfl, ?_⟩; have n0_ := Aside0.mk (Kd.R_below (by (with_reducible repeat (first | apply Kd.R_alloc | apply Kd.R_drewN | apply Kd.R_drew)); exact HO_4.out) hb); have n1_ := Aside0.mk (below_step (by repeat (first | (with_reducible first | exact HB.out | apply below_alloc | apply pw_below_drewN | apply below_drew1) | exact HB.out)) hb); clear HO_4; clear HB; have HO_4 := n0_; have HB := n1_; clear n0_ n1_; (try clear hb); (try clear hb2); (try clear hk); (try clear hi); have hcv21 := own_string (P := Try.prog) Try.underlying28 Try.underlying5 Try.underlying9 (Kd.own_of_R HO_4.out); have hcv22 := own_string (P := Try.prog) Try.underlying28 Try.underlying5 Try.underlying9 (Kd.own_of_R HO_4.out)) | (go_at_call 9; (with_reducible refine (glob_Match.calls k1 (strOfNums x4_1) (strOfNums x4_1) t266 _ A18.out).mono ?_); rintro e w23 ⟨rfl, hb⟩; have n0_ := Aside0.mk (Kd.R_below (by (with_reducible repeat (first | apply Kd.R_alloc | apply Kd.R_drewN | apply Kd.R_drew)); exact HO_4.out) hb); have n1_ := Aside0.mk (below_step (by repeat (first | (with_reducible first | exact HB.out | apply below_alloc | apply pw_below_drewN | apply below_drew1) | exact HB.out)) hb); clear HO_4; clear HB; have HO_4 := n0_; have HB := n1_; clear n0_ n1_; (try clear hb); (try clear hb2); (try clear hk); (try clear hi)))
                go_ret
                exact ⟨by first | rfl | (simp [errW_none, errW_some] <;> rfl) | (simp only [← hji4]; first | rfl | (simp [errW_none, errW_some] <;> rfl)) | (simp [*, errW_none, errW_some] <;> rfl), by repeat (first | (with_reducible first | exact HB.out | apply below_alloc | apply pw_below_drewN | apply below_drew1) | exact HB.out)⟩
              · rw [if_neg c17] at H
                have c17b0 : ((t265 == 0) == (decide (ji4 ≤ 200))) = false := by simpa using c17
                (try (have c17b1 : decide ((t265 == 0) = (decide (ji4 ≤ 200))) = false := by simpa using c17))
                (try (have c17b2 : ((t265 == 0) == (decide (ji4 ≤ 200))) = false := by simpa using c17))
                (try (have c17b3 : ¬ ((t265 == 0) = (decide (ji4 ≤ 200))) := by simpa using c17))
                clear c17
                obtain rfl := Option.some.inj H
                have hcv24 := own_string (P := Try.prog) Try.underlying28 Try.underlying5 Try.underlying9 (Kd.own_of_R HO_4.out)
                go_wp2_with (first | ((with_reducible refine gate_callee (f := 11) rfl ?_); refine goesL_ (some 30) rfl rfl Try.func11 (by kernel_rfl) rfl #[.string (strOfNums x4_1)] rfl (by (try simp only [List.map_toArray, List.map_cons, List.map_nil]); first | done | rfl | (simp only [List.length_drop, List.length_take]; rfl)) ?_; (with_reducible refine (glob_Valid.calls k1 (strOfNums x4_1) t265 _ A16.out).mono ?_); rintro e w25 ⟨rfl, hb⟩; refine ⟨_, rfl, ?_⟩; have n0_ := Aside0.mk (Kd.R_below (by (with_reducible repeat (first | apply Kd.R_alloc | apply Kd.R_drewN | apply Kd.R_drew)); exact HO_4.out) hb); have n1_ := Aside0.mk (below_step (by repeat (first | (with_reducible first | exact HB.out | apply below_alloc | apply pw_below_drewN | apply below_drew1) | exact HB.out)) hb); clear HO_4; clear HB; have HO_4 := n0_; have HB := n1_; clear n0_ n1_; (try clear hb); (try clear hb2); (try clear hk); (try clear hi)))
                go_ret
                exact ⟨by first | rfl | (simp [errW_none, errW_some] <;> rfl) | (simp only [← hji4]; first | rfl | (simp [errW_none, errW_some] <;> rfl)) | (simp [*, errW_none, errW_some] <;> rfl), by repeat (first | (with_reducible first | exact HB.out | apply below_alloc | apply pw_below_drewN | apply below_drew1) | exact HB.out)⟩
      · rw [if_neg c6] at H
        exact absurd H (by simp)
    · rw [if_neg c5] at H
      exact absurd H (by simp)
  · replace c3 := Bool.eq_false_iff.mpr c3
    subst c3
    have H1 : (some false) = some r := by rw [if_neg (show ¬ (false = true) by decide)] at H; exact H
    clear H
    have H := H1
    clear H1
    obtain rfl := Option.some.inj H
    go_enter Try.func7, Try.ntmps7
    go_wp2_with (first | ((with_reducible refine gate_callee (f := 8) rfl ?_); refine goesL_ (some 7) rfl rfl Try.func8 (by kernel_rfl) rfl #[] rfl (by (try simp only [List.map_toArray, List.map_cons, List.map_nil]); first | done | rfl | (simp only [List.length_drop, List.length_take]; rfl)) ?_; (with_reducible refine (ambrylaw24_known.calls k  false _ A2.out).mono ?_); rintro e w26 ⟨rfl, hb⟩; refine ⟨_, rfl, ?_⟩; have n0_ := Aside0.mk (below_step (by repeat (first | (with_reducible first | exact HB.out | apply below_alloc | apply pw_below_drewN | apply below_drew1) | exact HB.out)) hb); clear HB; have HB := n0_; clear n0_; (try clear hb); (try clear hb2); (try clear hk); (try clear hi)))
    go_ret
    exact ⟨by first | rfl | (simp [errW_none, errW_some] <;> rfl) | (simp [*, errW_none, errW_some] <;> rfl), by repeat (first | (with_reducible first | exact HB.out | apply below_alloc | apply pw_below_drewN | apply below_drew1) | exact HB.out)⟩

/-- THE ONE PURE STATEMENT of ambrylaw24_GlobLong: yours. -/
def ambrylaw24_GlobLong.Pure : Prop := ∀ (a0 : Int), (Lit.int .i64 a0).wf = true → ∃ k, ambrylaw24_GlobLong.f k a0 = some true
theorem ambrylaw24_GlobLong.walk (P : ambrylaw24_GlobLong.Pure) (a0 : Int) (w : World) (w0 : (Lit.int .i64 a0).wf = true) :
    Calls Try.prog 7 #[.int .i64 a0] w fun e w' => e = .returned (.bool true) ∧ Below w.heap.size w w' := by
  obtain ⟨k, h⟩ := P a0 w0
  refine (ambrylaw24_GlobLong.calls k a0 true w h).mono ?_
  rintro e w' ⟨rfl, hd⟩
  exact ⟨rfl, hd⟩

end Go.Proofs.Ytjmgnlkpkngjeaa.G
