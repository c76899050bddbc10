-- PRINTED by print.py (a twelfth state) out of the translation. Not trusted: Lean checks it.
import Derived.Test.YtgpkgfdojfnafaaDoorKx0
import Derived.Test.YtgpkgfdojfnafaaDoorKx1
namespace Go.Proofs.YtgpkgfdojfnafaaDoor.K
open Go.RowKit Go.Proofs.YtgpkgfdojfnafaaDoorW.PrintWords Go.Proofs.YtgpkgfdojfnafaaDoorW.PrintLast Go.Proofs.YtgpkgfdojfnafaaDoorW.PrintMore
attribute [local go_sem] max2_int min2_int max_two min_two max_three min_three max_four min_four   -- for this text's walks alone
set_option linter.unusedVariables false
set_option linter.unusedSimpArgs false

/-! ### norm_Escapes: function 8 -/
def norm_Escapes.l0 : Nat → ByteArray → List Int → Int → Option (ByteArray × Bool)
  | 0, _, _, _ => none
  | k + 1, x0, x4, x5 => if x5 < (x0.size : Int) then (if 0 ≤ x5 then (if (bt x0 x5) = 37 then (if x5 ≤ (x0.size : Int) then ((norm_escaped.f k (x0.extract (x5 : Int).toNat x0.size)).bind fun bt116 => (if bt116.2 = true then ((norm_plain.f bt116.1).bind fun t118 => (if t118 = true then (if x4.length < 140737488355328 then (norm_Escapes.l0 k x0 (x4 ++ [bt116.1]) (wrap64 ((wrap64 (x5 + 2)) + 1))) else (none)) else (if 0 ≤ (bt116.1 / 16) then (if (bt116.1 / 16) < 16 then (if 0 ≤ (Go.bits .and .u8 bt116.1 15) then (if (Go.bits .and .u8 bt116.1 15) < 16 then ((some (([37, bt (⟨#[48, 49, 50, 51, 52, 53, 54, 55, 56, 57, 65, 66, 67, 68, 69, 70]⟩ : ByteArray) (bt116.1 / 16), bt (⟨#[48, 49, 50, 51, 52, 53, 54, 55, 56, 57, 65, 66, 67, 68, 69, 70]⟩ : ByteArray) (Go.bits .and .u8 bt116.1 15)] : List Int) : List Int)).bind fun y122 => (if x4.length + y122.length < 140737488355328 then (norm_Escapes.l0 k x0 (x4 ++ y122) (wrap64 ((wrap64 (x5 + 2)) + 1))) else (none))) else (none)) else (none)) else (none)) else (none)))) else (some ((⟨#[]⟩ : ByteArray), false)))) else (none)) else (if x4.length < 140737488355328 then (norm_Escapes.l0 k x0 (x4 ++ [bt x0 x5]) (wrap64 (x5 + 1))) else (none))) else (none)) else (some (strOfNums x4, true))
def norm_Escapes.f (k : Nat) (a0 : ByteArray) : Option (ByteArray × Bool) := norm_Escapes.l0 k a0 ([] : List Int) 0
theorem norm_Escapes.mono_l : ∀ k, (∀ y0 y1 y2, LeO (norm_Escapes.l0 k y0 y1 y2) (norm_Escapes.l0 (k + 1) y0 y1 y2))
  | 0 => fun _ _ _ r h => by simp [norm_Escapes.l0] at h
  | k + 1 => by
    have ih0 := norm_Escapes.mono_l k
    · intro y0 y1 y2
      unfold norm_Escapes.l0
      repeat' first
      | (with_reducible exact ih0 _ _ _)
      | (with_reducible exact norm_escaped.mono _ _)
      | (with_reducible exact LeO.refl _)
      | (with_reducible exact LeO.none _)
      | (with_reducible refine LeO.ite ?_ ?_)
      | (with_reducible refine LeO.bind ?_ (fun _ => ?_))
      | exact ih0 _ _ _
      | exact norm_escaped.mono _ _
      | exact LeO.none _
      | refine LeO.ite ?_ ?_
      | refine LeO.bind ?_ (fun _ => ?_)
theorem norm_Escapes.mono : ∀ a0 k, LeO (norm_Escapes.f k a0) (norm_Escapes.f (k + 1) a0) := by
  intro a0 k
  have ih0 := norm_Escapes.mono_l k
  unfold norm_Escapes.f
  repeat' first
      | (with_reducible exact ih0 _ _ _)
      | (with_reducible exact norm_escaped.mono _ _)
      | (with_reducible exact LeO.refl _)
      | (with_reducible exact LeO.none _)
      | (with_reducible refine LeO.ite ?_ ?_)
      | (with_reducible refine LeO.bind ?_ (fun _ => ?_))
      | exact ih0 _ _ _
      | exact norm_escaped.mono _ _
      | exact LeO.none _
      | refine LeO.ite ?_ ?_
      | refine LeO.bind ?_ (fun _ => ?_)
def norm_Escapes.T8 : Bool × List (List Nat × List Nat) := (true, [([], []), ([], []), ([1], [1]), ([2], [2]), ([], []), ([4], [4]), ([5], [5]), ([3, 6], [3, 6]), ([0, 7], [0, 7]), ([8, 8, 0, 1, 2, 3, 4, 5, 6, 7, 8], [0, 8])])
def norm_Escapes.B8 : List Nat := [0, 0, 2, 6, 0, 16, 48, 126, 255, 511]
theorem norm_Escapes.tab8 : rtab .any (opsOf Tryd.f8 8) = norm_Escapes.T8 := by kernel_rfl
theorem norm_Escapes.bits8 : waitsOk norm_Escapes.T8.2 norm_Escapes.B8 = true := by kernel_rfl
set_option maxHeartbeats 8000000 in
set_option maxRecDepth 100000 in
theorem norm_Escapes.calls (k : Nat) (a0 : ByteArray) (r1 : ByteArray) (r2 : Bool) (w : World) (h : norm_Escapes.f k a0 = some (r1, r2)) :
    Calls Tryd.prog 8 #[.string a0] w fun e w' => e = .returned (.tuple #[.string r1, .bool r2]) ∧ Below w.heap.size w w' := by
  have HB := Aside0.mk (Below.refl w.heap.size w)
  have H : (norm_Escapes.l0 k a0 ([] : List Int) 0) = some (r1, r2) := h
  clear h
  have H' := Aside0.mk H
  clear H
  go_enter Tryd.func8, Tryd.ntmps8
  go_wp2
  go_loopg [4, 5] k (fun kq v4 v5 w' => ∃ (x4_1 : List Int) (x5_1 : Int), v5 = .int .i64 x5_1 ∧ Aside0 (norm_Escapes.l0 kq a0 x4_1 x5_1 = some (r1, r2)) ∧ Aside0 (kq ≤ k) ∧ Aside0 (Kd.R (Kd.int .u8) 5 w' w.heap.size (fun _ => True) v4 x4_1) ∧ Aside0 (Below w.heap.size w w'))
  case atStart => exact ⟨(([] : List Int)), (0), (by first | rfl | (simp; done) | (simp [*]; done)), H', ⟨Nat.le_refl _⟩, ⟨by first | exact Kd.R_nil _ _ _ _ _ | exact Kd.N_nil _ _ _ _ _ | exact Kd.V_nil _ _ _ _ _ | exact Kd.Q_nil _ _ _ _ _ | exact Kd.S_nil _ _ _ _ _⟩, ⟨by repeat (first | (with_reducible first | exact HB.out | apply below_alloc | apply pw_below_drewN | apply below_drew1) | exact HB.out)⟩⟩
  case round =>
    clear H'
    obtain ⟨x4_1, x5_1, rfl, HA, HK1, HO_4, HB⟩ := hrel
    cases gk with
    | zero => exact absurd HA.out (by simp [norm_Escapes.l0])
    | succ k1 =>
      have H := HA.out
      clear HA
      simp only [norm_Escapes.l0] at H
      by_cases c2 : x5_1 < (a0.size : Int)
      · rw [if_pos c2] at H
        have c2b0 : decide (x5_1 < (a0.size : Int)) = true := decide_eq_true c2
        clear c2
        by_cases c3 : 0 ≤ x5_1
        · rw [if_pos c3] at H
          have c3b0 : decide (0 ≤ x5_1) = true := decide_eq_true c3
          clear c3
          by_cases c5 : (bt a0 x5_1) = 37
          · rw [if_pos c5] at H
            have c5b0 : ((bt a0 x5_1) == 37) = true := beq_iff_eq.mpr c5
            have c5b1 : ((bt a0 x5_1) != 37) = false := bne_eq_false_iff_eq.mpr c5
            clear c5
            have c6b0 := eq_true (of_decide_eq_true (by first | (with_reducible assumption) | assumption) : 0 ≤ x5_1)
            by_cases c7 : x5_1 ≤ (a0.size : Int)
            · rw [if_pos c7] at H
              have c7b0 := eq_true c7
              have c7b1 : decide (x5_1 ≤ (a0.size : Int)) = true := decide_eq_true c7
              clear c7
              replace H := Option.bind_eq_some_iff.mp H
              obtain ⟨⟨t116, t117⟩, A80, H⟩ := H
              replace H : (if t117 = true then ((norm_plain.f t116).bind fun t118 => (if t118 = true then (if x4_1.length < 140737488355328 then (norm_Escapes.l0 k1 a0 (x4_1 ++ [t116]) (wrap64 ((wrap64 (x5_1 + 2)) + 1))) else (none)) else (if 0 ≤ (t116 / 16) then (if (t116 / 16) < 16 then (if 0 ≤ (Go.bits .and .u8 t116 15) then (if (Go.bits .and .u8 t116 15) < 16 then ((some (([37, bt (⟨#[48, 49, 50, 51, 52, 53, 54, 55, 56, 57, 65, 66, 67, 68, 69, 70]⟩ : ByteArray) (t116 / 16), bt (⟨#[48, 49, 50, 51, 52, 53, 54, 55, 56, 57, 65, 66, 67, 68, 69, 70]⟩ : ByteArray) (Go.bits .and .u8 t116 15)] : List Int) : List Int)).bind fun y122 => (if x4_1.length + y122.length < 140737488355328 then (norm_Escapes.l0 k1 a0 (x4_1 ++ y122) (wrap64 ((wrap64 (x5_1 + 2)) + 1))) else (none))) else (none)) else (none)) else (none)) else (none)))) else (some ((⟨#[]⟩ : ByteArray), false))) = some (r1, r2) := H
              have A8 := Aside0.mk A80
              clear A80
              by_cases c9 : t117 = true
              · subst c9
                have H1 : ((norm_plain.f t116).bind fun t118 => (if t118 = true then (if x4_1.length < 140737488355328 then (norm_Escapes.l0 k1 a0 (x4_1 ++ [t116]) (wrap64 ((wrap64 (x5_1 + 2)) + 1))) else (none)) else (if 0 ≤ (t116 / 16) then (if (t116 / 16) < 16 then (if 0 ≤ (Go.bits .and .u8 t116 15) then (if (Go.bits .and .u8 t116 15) < 16 then ((some (([37, bt (⟨#[48, 49, 50, 51, 52, 53, 54, 55, 56, 57, 65, 66, 67, 68, 69, 70]⟩ : ByteArray) (t116 / 16), bt (⟨#[48, 49, 50, 51, 52, 53, 54, 55, 56, 57, 65, 66, 67, 68, 69, 70]⟩ : ByteArray) (Go.bits .and .u8 t116 15)] : List Int) : List Int)).bind fun y122 => (if x4_1.length + y122.length < 140737488355328 then (norm_Escapes.l0 k1 a0 (x4_1 ++ y122) (wrap64 ((wrap64 (x5_1 + 2)) + 1))) else (none))) else (none)) else (none)) else (none)) else (none)))) = some (r1, r2) := by rw [if_pos rfl] at H; exact H
                clear H
                have H := H1
                clear H1
                replace H := Option.bind_eq_some_iff.mp H
                obtain ⟨t118, A100, H⟩ := H
                replace H : (if t118 = true then (if x4_1.length < 140737488355328 then (norm_Escapes.l0 k1 a0 (x4_1 ++ [t116]) (wrap64 ((wrap64 (x5_1 + 2)) + 1))) else (none)) else (if 0 ≤ (t116 / 16) then (if (t116 / 16) < 16 then (if 0 ≤ (Go.bits .and .u8 t116 15) then (if (Go.bits .and .u8 t116 15) < 16 then ((some (([37, bt (⟨#[48, 49, 50, 51, 52, 53, 54, 55, 56, 57, 65, 66, 67, 68, 69, 70]⟩ : ByteArray) (t116 / 16), bt (⟨#[48, 49, 50, 51, 52, 53, 54, 55, 56, 57, 65, 66, 67, 68, 69, 70]⟩ : ByteArray) (Go.bits .and .u8 t116 15)] : List Int) : List Int)).bind fun y122 => (if x4_1.length + y122.length < 140737488355328 then (norm_Escapes.l0 k1 a0 (x4_1 ++ y122) (wrap64 ((wrap64 (x5_1 + 2)) + 1))) else (none))) else (none)) else (none)) else (none)) else (none))) = some (r1, r2) := H
                have A10 := Aside0.mk A100
                clear A100
                by_cases c11 : t118 = true
                · subst c11
                  have H1 : (if x4_1.length < 140737488355328 then (norm_Escapes.l0 k1 a0 (x4_1 ++ [t116]) (wrap64 ((wrap64 (x5_1 + 2)) + 1))) else (none)) = some (r1, r2) := by rw [if_pos rfl] at H; exact H
                  clear H
                  have H := H1
                  clear H1
                  by_cases c12 : x4_1.length < 140737488355328
                  · rw [if_pos c12] at H
                    have LMc12 := Aside0.mk c12
                    clear c12
                    obtain ⟨y119, hy119⟩ : ∃ y_ : List Int, y_ = (x4_1 ++ [t116]) := ⟨_, rfl⟩
                    replace H : (norm_Escapes.l0 k1 a0 y119 (wrap64 ((wrap64 (x5_1 + 2)) + 1))) = some (r1, r2) := by first | (rw [hy119]; with_reducible exact H) | (have H2_ := (Option.bind_some _ _).symm.trans H; rw [hy119]; with_reducible exact H2_) | (have H2_ := (Option.bind_some _ _).symm.trans H; with_reducible exact H2_) | with_reducible exact H | (rw [hy119]; exact H) | exact H
                    have Ny119 := Aside0.mk hy119
                    clear hy119
                    have H' := Aside0.mk H
                    clear H
                    have p4 : 0 ≤ (x5_1 : Int) := of_decide_eq_true (by first | (with_reducible assumption) | assumption)
                    have q4 : x5_1 < (a0.size : Int) := of_decide_eq_true (by first | (with_reducible assumption) | assumption)
                    have hx4 := bt_at a0 x5_1
                    replace p4 := eq_true p4
                    replace q4 := eq_true q4
                    go_wp2_with (first | ((with_reducible refine gate_callee (f := 18) rfl ?_); refine goesL_ (some 28) rfl rfl Tryd.func18 (by kernel_rfl) rfl #[.string (a0.extract (x5_1 : Int).toNat a0.size)] rfl (by (try simp only [List.map_toArray, List.map_cons, List.map_nil]); first | done | rfl | (simp only [List.length_drop, List.length_take]; rfl)) ?_; (with_reducible refine (norm_escaped.calls k1 (a0.extract (x5_1 : Int).toNat a0.size) t116 true _ A8.out).mono ?_); rintro e w' ⟨rfl, ⟨nd, rfl⟩⟩; refine ⟨_, rfl, ?_⟩) | ((with_reducible refine gate_callee (f := 19) rfl ?_); refine goesL_ (some 45) rfl rfl Tryd.func19 (by kernel_rfl) rfl #[.int .u8 t116] rfl (by (try simp only [List.map_toArray, List.map_cons, List.map_nil]); first | done | rfl | (simp only [List.length_drop, List.length_take]; rfl)) ?_; (with_reducible refine (norm_plain.calls t116 true _ A10.out).mono ?_); rintro e w' ⟨rfl, ⟨nd, rfl⟩⟩; refine ⟨_, rfl, ?_⟩) | ((with_reducible refine gate_builtin (b := .append) (xs := #[.tmp 46, .tmp 48]) rfl ?_); at_builtin; refine Kd.R_append (Kd.int .u8) (w0 := w) w.heap.size rfl (.tmp 46) (.tmp 48) 29 5 (.int .u8 0) 1 rfl Tryd.underlying29 info5 rfl (by decide) (by omega) u4 x4_1 t116 [.int .u8 t116] (fun _ => True) (fun _ => False) rfl rfl ?aP (fun _ hk => hk.elim) ?aF ?aO ?aB ?aS ?aL ?_; (case aP => exact rfl); (case aB => exact (by repeat (first | (with_reducible first | exact HB.out | apply below_alloc | apply pw_below_drewN | apply below_drew1) | exact HB.out))); (case aF => exact (fun _ _ => trivial)); (case aO => exact (by (with_reducible repeat (first | apply Kd.R_alloc | apply Kd.R_drewN | apply Kd.R_drew)); exact HO_4.out)); (case aS => exact (below_size (by repeat (first | (with_reducible first | exact HB.out | apply below_alloc | apply pw_below_drewN | apply below_drew1) | exact HB.out)))); (case aL => have := LMc12.out; omega); intro v120 w13 ho hb hg hat; rw [← Ny119.out] at ho; have n0_ := Aside0.mk (hb); have n1_ := Aside0.mk (ho); clear HB; clear HO_4; have HB := n0_; have HO121 := n1_; clear n0_ n1_; clear ho hb hg hat))
                    go_roundg k1
                    case measure => have := HK1.out; omega
                    case rel => exact ⟨(y119), (wrap64 ((wrap64 (x5_1 + 2)) + 1)), (by first | rfl | (simp; done) | (simp [*]; done)), H', ⟨by have := HK1.out; omega⟩, ⟨by (with_reducible repeat (first | apply Kd.R_alloc | apply Kd.R_drewN | apply Kd.R_drew)); exact HO121.out⟩, ⟨by repeat (first | (with_reducible first | exact HB.out | apply below_alloc | apply pw_below_drewN | apply below_drew1) | exact HB.out)⟩⟩
                  · rw [if_neg c12] at H
                    exact absurd H (by simp)
                · replace c11 := Bool.eq_false_iff.mpr c11
                  subst c11
                  have H1 : (if 0 ≤ (t116 / 16) then (if (t116 / 16) < 16 then (if 0 ≤ (Go.bits .and .u8 t116 15) then (if (Go.bits .and .u8 t116 15) < 16 then ((some (([37, bt (⟨#[48, 49, 50, 51, 52, 53, 54, 55, 56, 57, 65, 66, 67, 68, 69, 70]⟩ : ByteArray) (t116 / 16), bt (⟨#[48, 49, 50, 51, 52, 53, 54, 55, 56, 57, 65, 66, 67, 68, 69, 70]⟩ : ByteArray) (Go.bits .and .u8 t116 15)] : List Int) : List Int)).bind fun y122 => (if x4_1.length + y122.length < 140737488355328 then (norm_Escapes.l0 k1 a0 (x4_1 ++ y122) (wrap64 ((wrap64 (x5_1 + 2)) + 1))) else (none))) else (none)) else (none)) else (none)) else (none)) = some (r1, r2) := by rw [if_neg (show ¬ (false = true) by decide)] at H; exact H
                  clear H
                  have H := H1
                  clear H1
                  obtain ⟨ji14, hji14⟩ : ∃ j_ : Int, (t116 / 16) = j_ := ⟨_, rfl⟩
                  replace H : (if 0 ≤ (ji14) then (if (ji14) < 16 then (if 0 ≤ (Go.bits .and .u8 t116 15) then (if (Go.bits .and .u8 t116 15) < 16 then ((some (([37, bt (⟨#[48, 49, 50, 51, 52, 53, 54, 55, 56, 57, 65, 66, 67, 68, 69, 70]⟩ : ByteArray) (ji14), bt (⟨#[48, 49, 50, 51, 52, 53, 54, 55, 56, 57, 65, 66, 67, 68, 69, 70]⟩ : ByteArray) (Go.bits .and .u8 t116 15)] : List Int) : List Int)).bind fun y122 => (if x4_1.length + y122.length < 140737488355328 then (norm_Escapes.l0 k1 a0 (x4_1 ++ y122) (wrap64 ((wrap64 (x5_1 + 2)) + 1))) else (none))) else (none)) else (none)) else (none)) else (none)) = some (r1, r2) := by first | (rw [hji14] at H; exact H) | (simp only [hji14] at H ⊢; exact H)
                  (try rw [hji14] at A8)
                  (try rw [hji14] at A10)
                  by_cases c15 : 0 ≤ (ji14)
                  · rw [if_pos c15] at H
                    have c15b0 : decide (0 ≤ (ji14)) = true := decide_eq_true c15
                    clear c15
                    by_cases c16 : (ji14) < 16
                    · rw [if_pos c16] at H
                      have c16b0 : decide ((ji14) < 16) = true := decide_eq_true c16
                      clear c16
                      by_cases c18 : 0 ≤ (Go.bits .and .u8 t116 15)
                      · rw [if_pos c18] at H
                        have c18b0 : decide (0 ≤ (Go.bits .and .u8 t116 15)) = true := decide_eq_true c18
                        clear c18
                        by_cases c19 : (Go.bits .and .u8 t116 15) < 16
                        · rw [if_pos c19] at H
                          have c19b0 : decide ((Go.bits .and .u8 t116 15) < 16) = true := decide_eq_true c19
                          clear c19
                          obtain ⟨y122, hy122⟩ : ∃ y_ : List Int, y_ = (([37, bt (⟨#[48, 49, 50, 51, 52, 53, 54, 55, 56, 57, 65, 66, 67, 68, 69, 70]⟩ : ByteArray) (ji14), bt (⟨#[48, 49, 50, 51, 52, 53, 54, 55, 56, 57, 65, 66, 67, 68, 69, 70]⟩ : ByteArray) (Go.bits .and .u8 t116 15)] : List Int)) := ⟨_, rfl⟩
                          replace H : (if x4_1.length + y122.length < 140737488355328 then (norm_Escapes.l0 k1 a0 (x4_1 ++ y122) (wrap64 ((wrap64 (x5_1 + 2)) + 1))) else (none)) = some (r1, r2) := by first | (rw [hy122]; with_reducible exact H) | (have H2_ := (Option.bind_some _ _).symm.trans H; rw [hy122]; with_reducible exact H2_) | (have H2_ := (Option.bind_some _ _).symm.trans H; with_reducible exact H2_) | with_reducible exact H | (rw [hy122]; exact H) | exact H
                          have Ny122 := Aside0.mk hy122
                          clear hy122
                          by_cases c21 : x4_1.length + y122.length < 140737488355328
                          · rw [if_pos c21] at H
                            have LMc21 := Aside0.mk c21
                            clear c21
                            obtain ⟨y125, hy125⟩ : ∃ y_ : List Int, y_ = (x4_1 ++ y122) := ⟨_, rfl⟩
                            replace H : (norm_Escapes.l0 k1 a0 y125 (wrap64 ((wrap64 (x5_1 + 2)) + 1))) = some (r1, r2) := by first | (rw [hy125]; with_reducible exact H) | (have H2_ := (Option.bind_some _ _).symm.trans H; rw [hy125]; with_reducible exact H2_) | (have H2_ := (Option.bind_some _ _).symm.trans H; with_reducible exact H2_) | with_reducible exact H | (rw [hy125]; exact H) | exact H
                            have Ny125 := Aside0.mk hy125
                            clear hy125
                            have H' := Aside0.mk H
                            clear H
                            have p4 : 0 ≤ (x5_1 : Int) := of_decide_eq_true (by first | (with_reducible assumption) | assumption)
                            have q4 : x5_1 < (a0.size : Int) := of_decide_eq_true (by first | (with_reducible assumption) | assumption)
                            have hx4 := bt_at a0 x5_1
                            replace p4 := eq_true p4
                            replace q4 := eq_true q4
                            try go_wp2_with (first | ((with_reducible refine gate_callee (f := 18) rfl ?_); refine goesL_ (some 28) rfl rfl Tryd.func18 (by kernel_rfl) rfl #[.string (a0.extract (x5_1 : Int).toNat a0.size)] rfl (by (try simp only [List.map_toArray, List.map_cons, List.map_nil]); first | done | rfl | (simp only [List.length_drop, List.length_take]; rfl)) ?_; (with_reducible refine (norm_escaped.calls k1 (a0.extract (x5_1 : Int).toNat a0.size) t116 true _ A8.out).mono ?_); rintro e w' ⟨rfl, ⟨nd, rfl⟩⟩; refine ⟨_, rfl, ?_⟩) | ((with_reducible refine gate_callee (f := 19) rfl ?_); refine goesL_ (some 45) rfl rfl Tryd.func19 (by kernel_rfl) rfl #[.int .u8 t116] rfl (by (try simp only [List.map_toArray, List.map_cons, List.map_nil]); first | done | rfl | (simp only [List.length_drop, List.length_take]; rfl)) ?_; (with_reducible refine (norm_plain.calls t116 false _ A10.out).mono ?_); rintro e w' ⟨rfl, ⟨nd, rfl⟩⟩; refine ⟨_, rfl, ?_⟩))
                            (try (rw [drewN_self wr]; generalize hq_ : World.drewN wr _ = wr; have n0_ : Aside0 (Kd.R (Kd.int .u8) 5 wr w.heap.size (fun _ => True) u4 x4_1) := ⟨by rw [← hq_]; exact (by (with_reducible repeat (first | apply Kd.R_alloc | apply Kd.R_drewN | apply Kd.R_drew)); exact HO_4.out)⟩; have n1_ : Aside0 (Below w.heap.size w wr) := ⟨by rw [← hq_]; exact (by repeat (first | (with_reducible first | exact HB.out | apply below_alloc | apply pw_below_drewN | apply below_drew1) | exact HB.out))⟩; clear HO_4 HB hq_; have HO_4 := n0_; have HB := n1_; clear n0_ n1_))
                            have n0_ := Aside0.mk (Kd.R_drew HO_4.out)
                            have n1_ := Aside0.mk (below_drew1 HB.out)
                            clear HO_4
                            clear HB
                            have HO_4 := n0_
                            have HB := n1_
                            clear n0_ n1_
                            have p17 : 0 ≤ ((ji14) : Int) := of_decide_eq_true (by first | (with_reducible assumption) | assumption)
                            have q17 : (ji14) < (16 : Int) := of_decide_eq_true (by first | (with_reducible assumption) | assumption)
                            have hx17 := bt_at (⟨#[48, 49, 50, 51, 52, 53, 54, 55, 56, 57, 65, 66, 67, 68, 69, 70]⟩ : ByteArray) (ji14)
                            replace p17 := eq_true p17
                            replace q17 := eq_true q17
                            have p20 : 0 ≤ ((Go.bits .and .u8 t116 15) : Int) := of_decide_eq_true (by first | (with_reducible assumption) | assumption)
                            have q20 : (Go.bits .and .u8 t116 15) < (16 : Int) := of_decide_eq_true (by first | (with_reducible assumption) | assumption)
                            have hx20 := bt_at (⟨#[48, 49, 50, 51, 52, 53, 54, 55, 56, 57, 65, 66, 67, 68, 69, 70]⟩ : ByteArray) (Go.bits .and .u8 t116 15)
                            replace p20 := eq_true p20
                            replace q20 := eq_true q20
                            refine start_ (n := 10) (S := fun w' => True) (ds := []) #[false, false, false, false, false, false, false, false, false, false] (by kernel_rfl) rfl rfl trivial (fun hHeld => ?_); refine with_tabW norm_Escapes.tab8 norm_Escapes.bits8 (fun HT_ HW_ => ?_)
                            generalize wr.drew = w22 at HO_4 HB hHeld ⊢
                            refine pure_ (i := 0) (N := some 31) (v := ?_) (a' := ?_) #[true, false, false, false, false, false, false, false, false, false] rfl rfl (any_of HT_.out (by kernel_rfl)) (fun _ _ _ h => h) (Or.inl ⟨by rfl, ?_⟩) ?_ ?_
                            rotate_left
                            · intro w'
                              go_simp
                              with_reducible rfl
                            rotate_left
                            · simp only [Act.put, List.setIfInBounds_toArray, List.set_cons_zero, List.set_cons_succ, i64_w, i32_w]
                              rfl
                            refine pure_ (i := 1) (N := some 32) (v := ?_) (a' := ?_) #[true, true, false, false, false, false, false, false, false, false] rfl rfl (any_of HT_.out (by kernel_rfl)) (fun _ _ _ h => h) (Or.inl ⟨by rfl, ?_⟩) ?_ ?_
                            rotate_left
                            · intro w'
                              go_simp
                              with_reducible rfl
                            rotate_left
                            · simp only [Act.put, List.setIfInBounds_toArray, List.set_cons_zero, List.set_cons_succ, i64_w, i32_w]
                              rfl
                            refine pure_ (i := 2) (N := some 33) (v := ?_) (a' := ?_) #[true, true, true, false, false, false, false, false, false, false] rfl rfl (any_of HT_.out (by kernel_rfl)) (fun _ _ _ h => h) (Or.inl ⟨by rfl, ?_⟩) ?_ ?_
                            rotate_left
                            · intro w'
                              go_simp
                              with_reducible rfl
                            rotate_left
                            · simp only [Act.put, List.setIfInBounds_toArray, List.set_cons_zero, List.set_cons_succ, i64_w, i32_w]
                              rfl
                            refine pure_ (i := 4) (N := some 35) (v := ?_) (a' := ?_) #[true, true, true, false, true, false, false, false, false, false] rfl rfl (any_of HT_.out (by kernel_rfl)) (fun _ _ _ h => h) (Or.inl ⟨by rfl, ?_⟩) ?_ ?_
                            rotate_left
                            · intro w'
                              go_simp
                              with_reducible rfl
                            rotate_left
                            · simp only [Act.put, List.setIfInBounds_toArray, List.set_cons_zero, List.set_cons_succ, i64_w, i32_w]
                              rfl
                            refine pure_ (i := 5) (N := some 36) (v := ?_) (a' := ?_) #[true, true, true, false, true, true, false, false, false, false] rfl rfl (any_of HT_.out (by kernel_rfl)) (fun _ _ _ h => h) (Or.inl ⟨by rfl, ?_⟩) ?_ ?_
                            rotate_left
                            · intro w'
                              go_simp
                              with_reducible rfl
                            rotate_left
                            · simp only [Act.put, List.setIfInBounds_toArray, List.set_cons_zero, List.set_cons_succ, i64_w, i32_w]
                              rfl
                            refine take_ (i := 3) (N := some 34) (v := ?_) (a' := ?_) #[true, true, true, true, true, true, false, false, false, false] rfl rfl (take_ofW HT_.out HW_.out (by kernel_rfl)) (fun _ _ _ h => h) (Or.inl ⟨by rfl, ?_⟩) hHeld ?_ ?_
                            rotate_left
                            · intro w' _
                              go_simp
                              with_reducible rfl
                            rotate_left
                            · simp only [Act.put, List.setIfInBounds_toArray, List.set_cons_zero, List.set_cons_succ, i64_w, i32_w]
                              rfl
                            refine take_ (i := 6) (N := some 37) (v := ?_) (a' := ?_) #[true, true, true, true, true, true, true, false, false, false] rfl rfl (take_ofW HT_.out HW_.out (by kernel_rfl)) (fun _ _ _ h => h) (Or.inl ⟨by rfl, ?_⟩) hHeld ?_ ?_
                            rotate_left
                            · intro w' _
                              go_simp
                              with_reducible rfl
                            rotate_left
                            · simp only [Act.put, List.setIfInBounds_toArray, List.set_cons_zero, List.set_cons_succ, i64_w, i32_w]
                              rfl
                            refine one_ (i := 7) (N := some 38) #[true, true, true, true, true, true, true, true, false, false] rfl rfl (one_of HT_.out (by kernel_rfl)) (by decide) (fun K hK => ?_)
                            refine Kd.R_lit_step (Kd.int .u8) _ 5 ?hg (N := 38) ?hd (xs := ([37, bt (⟨#[48, 49, 50, 51, 52, 53, 54, 55, 56, 57, 65, 66, 67, 68, 69, 70]⟩ : ByteArray) (ji14), bt (⟨#[48, 49, 50, 51, 52, 53, 54, 55, 56, 57, 65, 66, 67, 68, 69, 70]⟩ : ByteArray) (Go.bits .and .u8 t116 15)] : List Int)) (inner := [.int .u8 37, .int .u8 (bt (⟨#[48, 49, 50, 51, 52, 53, 54, 55, 56, 57, 65, 66, 67, 68, 69, 70]⟩ : ByteArray) (ji14)), .int .u8 (bt (⟨#[48, 49, 50, 51, 52, 53, 54, 55, 56, 57, 65, 66, 67, 68, 69, 70]⟩ : ByteArray) (Go.bits .and .u8 t116 15))]) (ok := fun _ => True) (okp := fun _ => True) ?hr ?hp (fun _ hk => hk) trivial (Below.refl _ _) (Nat.le_refl _) (by simp) ?_; (case hd => rfl); (case hg => rfl); (case hr => first | (go_simp; done) | (go_simp; rfl)); (case hp => exact (Reps.one (show Kd.M (Kd.int .u8) _ _ _ 37 [.int .u8 37] from rfl) (Reps.one (show Kd.M (Kd.int .u8) _ _ _ (bt (⟨#[48, 49, 50, 51, 52, 53, 54, 55, 56, 57, 65, 66, 67, 68, 69, 70]⟩ : ByteArray) (ji14)) [.int .u8 (bt (⟨#[48, 49, 50, 51, 52, 53, 54, 55, 56, 57, 65, 66, 67, 68, 69, 70]⟩ : ByteArray) (ji14))] from rfl) (Reps.one (show Kd.M (Kd.int .u8) _ _ _ (bt (⟨#[48, 49, 50, 51, 52, 53, 54, 55, 56, 57, 65, 66, 67, 68, 69, 70]⟩ : ByteArray) (Go.bits .and .u8 t116 15)) [.int .u8 (bt (⟨#[48, 49, 50, 51, 52, 53, 54, 55, 56, 57, 65, 66, 67, 68, 69, 70]⟩ : ByteArray) (Go.bits .and .u8 t116 15))] from rfl) (Reps.none _ _)))))
                            intro v123 w23 ho24 hb hg_ hnew_
                            clear hg_ hnew_
                            (first | rw [← Ny122.out] at ho24 | (simp only [Int.reduceToNat] at ho24; rw [← Ny122.out] at ho24))
                            have n0_ := Aside0.mk (Kd.R_elder' (by (with_reducible repeat (first | apply Kd.R_alloc | apply Kd.R_drewN | apply Kd.R_drew)); exact HO_4.out) (Kd.R_base ho24) hb)
                            have n1_ := Aside0.mk (Kd.R_lower (Kd.R_new' ho24 (Kd.R_lt (by (with_reducible repeat (first | apply Kd.R_alloc | apply Kd.R_drewN | apply Kd.R_drew)); exact HO_4.out))) (below_size (by repeat (first | (with_reducible first | exact HB.out | apply below_alloc | apply pw_below_drewN | apply below_drew1) | exact HB.out))))
                            have n2_ := Aside0.mk (below_step (by repeat (first | (with_reducible first | exact HB.out | apply below_alloc | apply pw_below_drewN | apply below_drew1) | exact HB.out)) hb)
                            clear HO_4
                            clear HB
                            have HO_4 := n0_
                            have HO124 := n1_
                            have HB := n2_
                            clear n0_ n1_ n2_
                            clear hb ho24
                            obtain ⟨Ao26, co26, eo26⟩ := Kd.R_slice HO124.out
                            (first | subst eo26 | (injection eo26 with f1_ f2_ f3_; have f4_ := f1_.symm; have f5_ := f3_.symm; clear f1_ f2_ f3_; subst f4_; subst f5_))
                            refine hK.out _ _ trivial (fun hHeld => ?_)
                            clear hK K
                            refine norm_ (a' := ?_) ?_ ?_
                            rotate_left
                            · show Act.put _ (some 38) _ = _
                              simp only [Act.put, List.setIfInBounds_toArray, List.set_cons_zero, List.set_cons_succ, i64_w, i32_w]
                              rfl
                            refine one_ (i := 8) (N := some 39) #[true, true, true, true, true, true, true, true, true, false] rfl rfl (one_of HT_.out (by kernel_rfl)) (by decide) (fun K hK => ?_)
                            refine Kd.R_append_rows_step (Kd.int .u8) (w0 := w) w.heap.size (by rfl) (.tmp 31) (.tmp 38) 29 5 (.int .u8 0) 1 rfl Tryd.underlying29 info5 rfl (by decide) (by omega) u4 x4_1 y122 _ _ _ (fun k_ => some k_ ≠ (.slice Ao26 y122.length co26 : Value).ownBlock) (fun _ => False) rfl rfl ?aO ?aR (fun _ _ h => h) (fun _ h => h.elim) ?aF ?aB ?aS ?aL ?_
                            (case aR => repeat (first | exact (Kd.R_reads' HO124.out).2.2 | (with_reducible refine Kd.C_alloc ?_ _) | (with_reducible refine Kd.C_drewN ?_ _) | (with_reducible refine Kd.C_drew ?_)))
                            (case aB => exact (by repeat (first | (with_reducible first | exact HB.out | apply below_alloc | apply pw_below_drewN | apply below_drew1) | exact HB.out)))
                            (case aF => exact (fun k_ hk => Kd.fresh' (Kd.R_lt (by (with_reducible repeat (first | apply Kd.R_alloc | apply Kd.R_drewN | apply Kd.R_drew)); exact HO124.out)) k_ hk))
                            (case aO => exact (by (with_reducible repeat (first | apply Kd.R_alloc | apply Kd.R_drewN | apply Kd.R_drew)); exact Kd.R_mono HO_4.out (fun _ hk => hk.2)))
                            (case aS => exact (below_size (by repeat (first | (with_reducible first | exact HB.out | apply below_alloc | apply pw_below_drewN | apply below_drew1) | exact HB.out))))
                            (case aL => have := LMc21.out; omega)
                            intro v126 w25 ho hb hg hat
                            rw [← Ny125.out] at ho
                            have n0_ := Aside0.mk (Kd.R_after (ok := (fun _ => True)) (by (with_reducible repeat (first | apply Kd.R_alloc | apply Kd.R_drewN | apply Kd.R_drew)); exact HO124.out) hg hat)
                            have n1_ := Aside0.mk (hb)
                            have n2_ := Aside0.mk (ho)
                            clear HO124
                            clear HB
                            clear HO_4
                            have HO124 := n0_
                            have HB := n1_
                            have HO127 := n2_
                            clear n0_ n1_ n2_
                            clear ho hb hg hat
                            refine hK.out _ _ trivial (fun hHeld => ?_)
                            clear hK K
                            refine norm_ (a' := ?_) ?_ ?_
                            rotate_left
                            · show Act.put _ (some 39) _ = _
                              simp only [Act.put, List.setIfInBounds_toArray, List.set_cons_zero, List.set_cons_succ, i64_w, i32_w]
                              rfl
                            refine pure_ (i := 9) (N := some 4) (v := ?_) (a' := ?_) #[true, true, true, true, true, true, true, true, true, true] rfl rfl (any_of HT_.out (by kernel_rfl)) (fun _ _ _ h => h) (Or.inl ⟨by rfl, ?_⟩) ?_ ?_
                            rotate_left
                            · intro w'
                              go_simp
                              with_reducible rfl
                            rotate_left
                            · simp only [Act.put, List.setIfInBounds_toArray, List.set_cons_zero, List.set_cons_succ, i64_w, i32_w]
                              rfl
                            refine done_ (done_of HT_.out (by kernel_rfl)) ?_
                            try go_wp2
                            go_roundg k1
                            case measure => have := HK1.out; omega
                            case rel => exact ⟨(y125), (wrap64 ((wrap64 (x5_1 + 2)) + 1)), (by first | rfl | (simp; done) | (simp [*]; done)), H', ⟨by have := HK1.out; omega⟩, ⟨by (with_reducible repeat (first | apply Kd.R_alloc | apply Kd.R_drewN | apply Kd.R_drew)); exact Kd.R_mono HO127.out (fun _ hk => trivial)⟩, ⟨by repeat (first | (with_reducible first | exact HB.out | apply below_alloc | apply pw_below_drewN | apply below_drew1) | exact HB.out)⟩⟩
                          · rw [if_neg c21] at H
                            exact absurd H (by simp)
                        · rw [if_neg c19] at H
                          exact absurd H (by simp)
                      · rw [if_neg c18] at H
                        exact absurd H (by simp)
                    · rw [if_neg c16] at H
                      exact absurd H (by simp)
                  · rw [if_neg c15] at H
                    exact absurd H (by simp)
              · replace c9 := Bool.eq_false_iff.mpr c9
                subst c9
                have H1 : (some ((⟨#[]⟩ : ByteArray), false)) = some (r1, r2) := by rw [if_neg (show ¬ (false = true) by decide)] at H; exact H
                clear H
                have H := H1
                clear H1
                simp only [Option.some.injEq, Prod.mk.injEq] at H
                obtain ⟨rfl, rfl⟩ := H
                have p4 : 0 ≤ (x5_1 : Int) := of_decide_eq_true (by first | (with_reducible assumption) | assumption)
                have q4 : x5_1 < (a0.size : Int) := of_decide_eq_true (by first | (with_reducible assumption) | assumption)
                have hx4 := bt_at a0 x5_1
                replace p4 := eq_true p4
                replace q4 := eq_true q4
                go_wp2_with (first | ((with_reducible refine gate_callee (f := 18) rfl ?_); refine goesL_ (some 28) rfl rfl Tryd.func18 (by kernel_rfl) rfl #[.string (a0.extract (x5_1 : Int).toNat a0.size)] rfl (by (try simp only [List.map_toArray, List.map_cons, List.map_nil]); first | done | rfl | (simp only [List.length_drop, List.length_take]; rfl)) ?_; (with_reducible refine (norm_escaped.calls k1 (a0.extract (x5_1 : Int).toNat a0.size) t116 false _ A8.out).mono ?_); rintro e w' ⟨rfl, ⟨nd, rfl⟩⟩; refine ⟨_, rfl, ?_⟩))
                go_ret2
                exact ⟨by first | rfl | (simp [errW_none, errW_some] <;> rfl) | (simp [*, errW_none, errW_some] <;> rfl), by repeat (first | (with_reducible first | exact HB.out | apply below_alloc | apply pw_below_drewN | apply below_drew1) | exact HB.out)⟩
            · rw [if_neg c7] at H
              exact absurd H (by simp)
          · rw [if_neg c5] at H
            have c5b0 : ((bt a0 x5_1) == 37) = false := beq_eq_false_iff_ne.mpr c5
            have c5b1 : ((bt a0 x5_1) != 37) = true := bne_iff_ne.mpr c5
            by_cases c28 : x4_1.length < 140737488355328
            · rw [if_pos c28] at H
              have LMc28 := Aside0.mk c28
              clear c28
              obtain ⟨y113, hy113⟩ : ∃ y_ : List Int, y_ = (x4_1 ++ [bt a0 x5_1]) := ⟨_, rfl⟩
              replace H : (norm_Escapes.l0 k1 a0 y113 (wrap64 (x5_1 + 1))) = some (r1, r2) := by first | (rw [hy113]; with_reducible exact H) | (have H2_ := (Option.bind_some _ _).symm.trans H; rw [hy113]; with_reducible exact H2_) | (have H2_ := (Option.bind_some _ _).symm.trans H; with_reducible exact H2_) | with_reducible exact H | (rw [hy113]; exact H) | exact H
              have Ny113 := Aside0.mk hy113
              clear hy113
              have H' := Aside0.mk H
              clear H
              have p4 : 0 ≤ (x5_1 : Int) := of_decide_eq_true (by first | (with_reducible assumption) | assumption)
              have q4 : x5_1 < (a0.size : Int) := of_decide_eq_true (by first | (with_reducible assumption) | assumption)
              have hx4 := bt_at a0 x5_1
              replace p4 := eq_true p4
              replace q4 := eq_true q4
              have p27 : 0 ≤ (x5_1 : Int) := of_decide_eq_true (by first | (with_reducible assumption) | assumption)
              have q27 : x5_1 < (a0.size : Int) := of_decide_eq_true (by first | (with_reducible assumption) | assumption)
              have hx27 := bt_at a0 x5_1
              replace p27 := eq_true p27
              replace q27 := eq_true q27
              go_wp2_with (first | ((with_reducible refine gate_builtin (b := .append) (xs := #[.tmp 18, .tmp 22]) rfl ?_); at_builtin; refine Kd.R_append (Kd.int .u8) (w0 := w) w.heap.size rfl (.tmp 18) (.tmp 22) 29 5 (.int .u8 0) 1 rfl Tryd.underlying29 info5 rfl (by decide) (by omega) u4 x4_1 (bt a0 x5_1) [.int .u8 (bt a0 x5_1)] (fun _ => True) (fun _ => False) rfl rfl ?aP (fun _ hk => hk.elim) ?aF ?aO ?aB ?aS ?aL ?_; (case aP => exact rfl); (case aB => exact (by repeat (first | (with_reducible first | exact HB.out | apply below_alloc | apply pw_below_drewN | apply below_drew1) | exact HB.out))); (case aF => exact (fun _ _ => trivial)); (case aO => exact (by (with_reducible repeat (first | apply Kd.R_alloc | apply Kd.R_drewN | apply Kd.R_drew)); exact HO_4.out)); (case aS => exact (below_size (by repeat (first | (with_reducible first | exact HB.out | apply below_alloc | apply pw_below_drewN | apply below_drew1) | exact HB.out)))); (case aL => have := LMc28.out; omega); intro v114 w29 ho hb hg hat; rw [← Ny113.out] at ho; have n0_ := Aside0.mk (hb); have n1_ := Aside0.mk (ho); clear HB; clear HO_4; have HB := n0_; have HO115 := n1_; clear n0_ n1_; clear ho hb hg hat))
              go_roundg k1
              case measure => have := HK1.out; omega
              case rel => exact ⟨(y113), (wrap64 (x5_1 + 1)), (by first | rfl | (simp; done) | (simp [*]; done)), H', ⟨by have := HK1.out; omega⟩, ⟨by (with_reducible repeat (first | apply Kd.R_alloc | apply Kd.R_drewN | apply Kd.R_drew)); exact HO115.out⟩, ⟨by repeat (first | (with_reducible first | exact HB.out | apply below_alloc | apply pw_below_drewN | apply below_drew1) | exact HB.out)⟩⟩
            · rw [if_neg c28] at H
              exact absurd H (by simp)
        · rw [if_neg c3] at H
          exact absurd H (by simp)
      · rw [if_neg c2] at H
        have c2b0 : decide (x5_1 < (a0.size : Int)) = false := decide_eq_false c2
        clear c2
        simp only [Option.some.injEq, Prod.mk.injEq] at H
        obtain ⟨rfl, rfl⟩ := H
        have hcv30 := own_string (P := Tryd.prog) Tryd.underlying29 Tryd.underlying5 Tryd.underlying9 (Kd.own_of_R HO_4.out)
        go_wp2
        go_ret2
        exact ⟨by first | rfl | (simp [errW_none, errW_some] <;> rfl) | (simp [*, errW_none, errW_some] <;> rfl), by repeat (first | (with_reducible first | exact HB.out | apply below_alloc | apply pw_below_drewN | apply below_drew1) | exact HB.out)⟩

/-! ### strings_Cut: function 22 -/
-- FOR strings.Cut
def strings_Cut.f (a0 : ByteArray) (a1 : ByteArray) : Option (ByteArray × ByteArray × Bool) :=
  match a1.data.toList with
  | [c] => if a0.size ≤ 140737488355328 then some (Leaf.cutAt a0 (Lib.indexByte a0.data.toList c)) else none
  | _ => none
theorem strings_Cut.idx (s : ByteArray) (c : UInt8) (i : Int) (w : World) (h : Lib.indexByte s.data.toList c = i) :
    Calls Tryd.prog 38 #[.string s, .string ⟨#[c]⟩] w fun e w' => e = .returned (.int .i64 i) ∧ w' = w := h ▸ Tryd.stringslite_Index_one s c w
theorem strings_Cut.yes (s : ByteArray) (c : UInt8) (n : Nat) (w : World) (hs : s.size ≤ 140737488355328) (hn : n < s.size) (h : Lib.indexByte s.data.toList c = (n : Int)) :
    Calls Tryd.prog 31 #[.string s, .string ⟨#[c]⟩] w fun e w' => e = .returned (.tuple #[.string (s.extract 0 n), .string (s.extract (n + 1) s.size), .bool true]) ∧ Drawn0 w w' := by
  have H := Lib.hid h
  clear h
  go_enter Tryd.func31, Tryd.ntmps31
  go_wp2_with (go_at_call 38; refine (strings_Cut.idx _ _ _ _ H.out).mono ?_; rintro e w' ⟨rfl, rfl⟩)
  go_quiet (fail)
  go_wp2
  go_ret3
  exact ⟨rfl, ⟨_, rfl⟩⟩
theorem strings_Cut.no (s : ByteArray) (c : UInt8) (w : World) (h : Lib.indexByte s.data.toList c = -1) :
    Calls Tryd.prog 31 #[.string s, .string ⟨#[c]⟩] w fun e w' => e = .returned (.tuple #[.string s, .string ⟨#[]⟩, .bool false]) ∧ Drawn0 w w' := by
  have H := Lib.hid h
  clear h
  go_enter Tryd.func31, Tryd.ntmps31
  go_wp2_with (go_at_call 38; refine (strings_Cut.idx _ _ _ _ H.out).mono ?_; rintro e w' ⟨rfl, rfl⟩)
  go_ret3
  exact ⟨rfl, Drawn0.refl _⟩
theorem strings_Cut.calls (a0 : ByteArray) (a1 : ByteArray) (r1 : ByteArray) (r2 : ByteArray) (r3 : Bool) (w : World) (h : strings_Cut.f a0 a1 = some (r1, r2, r3)) :
    Calls Tryd.prog 22 #[.string a0, .string a1] w fun e w' => e = .returned (.tuple #[.string r1, .string r2, .bool r3]) ∧ Drawn0 w w' := by
  obtain ⟨⟨l⟩⟩ := a1
  unfold strings_Cut.f at h
  simp only at h
  split at h
  case h_2 => cases h
  rename_i c
  split at h
  case isFalse => cases h
  rename_i hs
  have h := Option.some.inj h
  have lite : Calls Tryd.prog 31 #[.string a0, .string ⟨#[c]⟩] w fun e w' => e = .returned (.tuple #[.string r1, .string r2, .bool r3]) ∧ Drawn0 w w' := by
    have hge := Lib.indexByte_ge a0.data.toList c
    rcases Leaf.indexByte_lt a0.data.toList c with hi | hi
    · have hsz : (a0.data.toList.length : Int) = (a0.size : Int) := by rw [data_length]
      by_cases h0 : 0 ≤ Lib.indexByte a0.data.toList c
      · obtain ⟨n, hn⟩ := Int.eq_ofNat_of_zero_le h0
        rw [Leaf.cutAt, if_pos h0, hn] at h
        cases h
        exact strings_Cut.yes a0 c n w hs (by omega) hn
      · have hm : Lib.indexByte a0.data.toList c = -1 := by omega
        rw [Leaf.cutAt, if_neg h0] at h
        cases h
        exact strings_Cut.no a0 c w hm
    · rw [Leaf.cutAt, if_neg (by omega)] at h
      cases h
      exact strings_Cut.no a0 c w hi
  have L := Lib.hid lite
  clear lite h
  go_enter Tryd.func22, Tryd.ntmps22
  go_wp2_with (go_at_call 31; refine L.out.mono ?_; rintro e w' ⟨rfl, hd⟩)
  have HD := Aside0.mk hd
  clear hd
  go_wp2
  go_ret3
  exact ⟨rfl, HD.out⟩

/-! ### norm_Split: function 12 -/
def norm_Split.f (a0 : ByteArray) : Option (ByteArray × ByteArray × Bool) := (strings_Cut.f a0 (⟨#[63]⟩ : ByteArray)).bind fun bt128 => (some (bt128.1, bt128.2.1, bt128.2.2))
set_option maxHeartbeats 8000000 in
set_option maxRecDepth 100000 in
theorem norm_Split.calls (a0 : ByteArray) (r1 : ByteArray) (r2 : ByteArray) (r3 : Bool) (w : World) (h : norm_Split.f a0 = some (r1, r2, r3)) :
    Calls Tryd.prog 12 #[.string a0] w fun e w' => e = .returned (.tuple #[.string r1, .string r2, .bool r3]) ∧ Drawn0 w w' := by
  have H : ((strings_Cut.f a0 (⟨#[63]⟩ : ByteArray)).bind fun bt128 => (some (bt128.1, bt128.2.1, bt128.2.2))) = some (r1, r2, r3) := h
  clear h
  replace H := Option.bind_eq_some_iff.mp H
  obtain ⟨⟨t128, t129, t130⟩, A20, H⟩ := H
  replace H : (some (t128, t129, t130)) = some (r1, r2, r3) := H
  have A2 := Aside0.mk A20
  clear A20
  simp only [Option.some.injEq, Prod.mk.injEq] at H
  obtain ⟨rfl, rfl, rfl⟩ := H
  go_enter Tryd.func12, Tryd.ntmps12
  go_wp2_with (first | ((with_reducible refine gate_callee (f := 22) rfl ?_); refine goesL_ (some 6) rfl rfl Tryd.func22 (by kernel_rfl) rfl #[.string a0, .string (⟨#[63]⟩ : ByteArray)] rfl (by (try simp only [List.map_toArray, List.map_cons, List.map_nil]); first | done | rfl | (simp only [List.length_drop, List.length_take]; rfl)) ?_; (with_reducible refine (strings_Cut.calls a0 (⟨#[63]⟩ : ByteArray) t128 t129 t130 _ A2.out).mono ?_); rintro e w' ⟨rfl, ⟨nd, rfl⟩⟩; refine ⟨_, rfl, ?_⟩))
  go_ret3
  exact ⟨by first | rfl | (simp; done) | (simp [*]; done) | (simp; exact Leaf.ne_nil_bool _) | (simp; rw [IntKind.wrap_u8]; exact congrArg (fun z => bits BinOp.or IntKind.i64 z _ % 256) (by unfold wrap64; exact IntKind.wrap_i64 _)), by repeat (first | exact Drawn0.refl _ | apply Drawn0.step)⟩

/-! ### norm_Dots: function 14 -/
-- FOR ambry/norm.Dots
-- MAKING
def norm_Dots.bare (a : ByteArray) : ByteArray := ⟨(Lib.trimPrefix a.data.toList [47]).toArray⟩
def norm_Dots.segs (s : ByteArray) : List ByteArray := Lib.splitB ⟨#[47]⟩ 0 (Lib.countB s ⟨#[47]⟩) s
def norm_Dots.step (out : List ByteArray) (s : ByteArray) : List ByteArray := if s.toList = ([46] : List UInt8) then out else if s.toList = ([46, 46] : List UInt8) then out.dropLast else out ++ [s]
def norm_Dots.text (l : List ByteArray) : List UInt8 := l.flatMap fun s => 47 :: s.data.toList
def norm_Dots.walk (l : List ByteArray) : List ByteArray := if (l.getLastD ByteArray.empty).toList = ([] : List UInt8) then l.dropLast else l
def norm_Dots.ends (s : ByteArray) : Bool := decide (s.toList = ([] : List UInt8)) || decide (s.toList = ([46] : List UInt8)) || decide (s.toList = ([46, 46] : List UInt8))
def norm_Dots.tell (out : List ByteArray) (e : Bool) : List UInt8 := norm_Dots.text out ++ (if e = true ∨ out.length = 0 then [47] else [])
def norm_Dots.all (a : ByteArray) : List UInt8 := norm_Dots.tell ((norm_Dots.walk (norm_Dots.segs (norm_Dots.bare a))).foldl norm_Dots.step []) (norm_Dots.ends ((norm_Dots.segs (norm_Dots.bare a)).getLastD ByteArray.empty))
def norm_Dots.f (a0 : ByteArray) : Option (ByteArray) := if a0.size ≤ 4294967280 ∧ (norm_Dots.all a0).length ≤ 140737488355328 then some ⟨(norm_Dots.all a0).toArray⟩ else none
theorem norm_Dots.split1 (s : ByteArray) (w : World) (hs : s.size < 4294967281) :
    Calls Tryd.prog 23 #[.string s, .string ⟨#[47]⟩] w fun e w' => e = .returned (.slice (some ⟨w.heap.size, 0, none⟩) (norm_Dots.segs s).length (norm_Dots.segs s).length) ∧ w' = w.alloc (.cells ((norm_Dots.segs s).map Value.string).toArray 9) := by
  have h1 : 1 ≤ (⟨#[47]⟩ : ByteArray).size := by decide
  have hle := Lib.countB_le ⟨#[47]⟩ h1 s.size s (Nat.le_refl _)
  have hlen : (norm_Dots.segs s).length = Lib.countB s ⟨#[47]⟩ + 1 := Lib.splitB_all ⟨#[47]⟩ h1 0 _ s rfl
  have hI : ∀ (x : ByteArray) (c : Array Value), x.size ≤ s.size → Calls Tryd.prog 41 #[.string x, .string ⟨#[47]⟩] (w.alloc (.cells c 9)) fun e w' => e = .returned (.int .i64 (Lib.indexB x ⟨#[47]⟩)) ∧ w' = w.alloc (.cells c 9) := fun x c _ =>
    (Tryd.strings_Index_one x 47 _).mono fun e w' ⟨he, hw⟩ => ⟨by rw [he, ← Lib.index_one], hw⟩
  have hC : Calls Tryd.prog 40 #[.string s, .string ⟨#[47]⟩] w fun e w' => e = .returned (.int .i64 (Lib.countB s ⟨#[47]⟩)) ∧ w' = w :=
    (Tryd.strings_Count_one s 47 w).mono fun e w' ⟨he, hw⟩ => ⟨by
      rw [he]
      show _ = Ending.returned (Value.int .i64 ((Lib.count s.data.toList [47] : Nat) : Int))
      rw [Lib.count_one]; rfl, hw⟩
  have c : Calls Tryd.prog 32 #[.string s, .string ⟨#[47]⟩, .int .i64 0, .int .i64 (-1)] w fun e w' => e = .returned (.slice (some ⟨w.heap.size, 0, none⟩) (Lib.splitB ⟨#[47]⟩ 0 (Lib.countB s ⟨#[47]⟩ + 1 - 1) s).length (Lib.countB s ⟨#[47]⟩ + 1)) ∧ w' = w.alloc (.cells (Lib.cellsOf (Lib.splitB ⟨#[47]⟩ 0 (Lib.countB s ⟨#[47]⟩ + 1 - 1) s) (Lib.countB s ⟨#[47]⟩ + 1)) 9) :=
    Any.strings_genSplit_core Tryd.lays221 (by kernel_rfl) s ⟨#[47]⟩ 0 (-1) (Lib.countB s ⟨#[47]⟩ + 1) w hs h1 (Nat.zero_le _) hI hC (by decide) (by decide) (by rw [if_pos (by decide)]; omega)
  rw [Nat.add_sub_cancel] at c
  have e2 : Lib.cellsOf (Lib.splitB ⟨#[47]⟩ 0 (Lib.countB s ⟨#[47]⟩) s) (Lib.countB s ⟨#[47]⟩ + 1) = ((norm_Dots.segs s).map Value.string).toArray := by rw [← hlen]; exact Lib.cellsOf_full _
  rw [e2] at c
  have C := Lib.hid c
  have HL := Lib.hid hlen
  clear c e2 hI hC hle hlen
  go_enter Tryd.func23, Tryd.ntmps23
  go_wp2_with (go_at_call 32; refine C.out.mono ?_; rintro e w' ⟨rfl, hw⟩; rw [hw])
  go_ret
  exact ⟨congrArg (fun m => Ending.returned (Value.slice (some ⟨w.heap.size, 0, none⟩) (norm_Dots.segs s).length m)) HL.out.symm, rfl⟩
def norm_Dots.Row (W : World) (g : Nat) (ys : List ByteArray) : Prop := ∃ C : Array Value, W.heap[g]? = some (.cells C 9 (0, 0)) ∧ ∀ (j : Nat) (y : ByteArray), ys[j]? = some y → C[j]? = some (.string y)
theorem norm_Dots.Row.made (w : World) (l : List ByteArray) : norm_Dots.Row (w.alloc (.cells (l.map Value.string).toArray 9)) w.heap.size l := ⟨_, heap_alloc_new w _, fun j y h => by simp [h]⟩
theorem norm_Dots.Row.lt {W : World} {g : Nat} {ys : List ByteArray} (h : norm_Dots.Row W g ys) : g < W.heap.size := by
  obtain ⟨C, hb, _⟩ := h
  exact (Array.getElem?_eq_some_iff.1 hb).1
theorem norm_Dots.Row.of_heap {W W' : World} {g : Nat} {ys : List ByteArray} (h : norm_Dots.Row W g ys) (hh : W'.heap[g]? = W.heap[g]?) : norm_Dots.Row W' g ys := by
  obtain ⟨C, hb, r⟩ := h
  exact ⟨C, hh.trans hb, r⟩
theorem norm_Dots.Row.below {W W' : World} {g : Nat} {ys : List ByteArray} (h : norm_Dots.Row W g ys) (hb : Below W.heap.size W W') : norm_Dots.Row W' g ys := h.of_heap (hb.block g h.lt)
theorem norm_Dots.Row.cell {W : World} {g : Nat} {ys : List ByteArray} (h : norm_Dots.Row W g ys) {j : Nat} (hj : j < ys.length) : W.cell? ⟨g, j, none⟩ = some (.string (ys.getD j ByteArray.empty)) := by
  obtain ⟨C, hb, hc⟩ := h
  have := hc j (ys.getD j ByteArray.empty) (by rw [List.getD_eq_getElem?_getD, List.getElem?_eq_getElem hj]; rfl)
  simp [World.cell?, hb, this]
theorem norm_Dots.Row.own {W : World} {base g n cap : Nat} {ys : List ByteArray} (h : W.ownsRow base 9 1 (.slice (some ⟨g, 0, none⟩) n cap) n (ys.map Value.string)) : norm_Dots.Row W g ys := by
  obtain ⟨hl, h2⟩ := h
  rcases h2 with ⟨e, _⟩ | ⟨g', cap', C, e, _, hb, _, _, _, ht⟩
  · cases e
  · injection e with e1 e2 e3
    injection e1 with e1
    injection e1 with e1 _ _
    subst e1
    refine ⟨C, hb, fun j y hy => ?_⟩
    have h3 : (ys.map Value.string)[j]? = some (.string y) := by rw [List.getElem?_map, hy]; rfl
    rw [← ht, List.getElem?_take] at h3
    split at h3
    · rw [Array.getElem?_toList] at h3; exact h3
    · cases h3
theorem norm_Dots.prefix_size (a : ByteArray) : (norm_Dots.bare a).size ≤ a.size := by
  unfold norm_Dots.bare
  show ((Lib.trimPrefix a.data.toList [47]).toArray).size ≤ a.data.size
  rw [List.size_toArray, ← Array.length_toList]
  unfold Lib.trimPrefix
  split
  · rw [List.length_drop]; omega
  · exact Nat.le_refl _
theorem norm_Dots.walk_len (l : List ByteArray) (x : ByteArray) (n : Nat) (hx : l.getLastD ByteArray.empty = x) (hn : l.length = n + 1) : (x.toList = [] → (norm_Dots.walk l).length = n) ∧ (¬ x.toList = [] → (norm_Dots.walk l).length = n + 1) := by
  unfold norm_Dots.walk
  rw [hx]
  refine ⟨fun h => ?_, fun h => ?_⟩
  · rw [if_pos h, List.length_dropLast, hn]; rfl
  · rw [if_neg h, hn]
theorem norm_Dots.Row.walk {W : World} {g : Nat} {l : List ByteArray} (h : norm_Dots.Row W g l) : norm_Dots.Row W g (norm_Dots.walk l) := by
  unfold norm_Dots.walk
  split
  · obtain ⟨C, hb, hc⟩ := h
    refine ⟨C, hb, fun j y hy => hc j y ?_⟩
    rw [List.getElem?_dropLast] at hy
    split at hy
    · exact hy
    · cases hy
  · exact h
theorem norm_Dots.fold_next (l : List ByteArray) (k : Nat) (hk : k < l.length) : (l.take (k + 1)).foldl norm_Dots.step [] = norm_Dots.step ((l.take k).foldl norm_Dots.step []) (l.getD k ByteArray.empty) := by
  have e : l.take (k + 1) = l.take k ++ [l.getD k ByteArray.empty] := by
    rw [List.take_succ_eq_append_getElem hk, List.getD_eq_getElem?_getD, List.getElem?_eq_getElem hk]; rfl
  rw [e, List.foldl_append]; rfl
theorem norm_Dots.step_dot {s : ByteArray} (ys : List ByteArray) (h : s.toList = [46]) : norm_Dots.step ys s = ys := if_pos h
theorem norm_Dots.step_up {s : ByteArray} (ys : List ByteArray) (h : s.toList = [46, 46]) : norm_Dots.step ys s = ys.dropLast := by
  unfold norm_Dots.step
  rw [if_neg (by rw [h]; decide), if_pos h]
theorem norm_Dots.step_on {s : ByteArray} (ys : List ByteArray) (h1 : ¬ s.toList = [46]) (h2 : ¬ s.toList = [46, 46]) : norm_Dots.step ys s = ys ++ [s] := by
  unfold norm_Dots.step
  rw [if_neg h1, if_neg h2]
theorem norm_Dots.text_next (l : List ByteArray) (k : Nat) (hk : k < l.length) : norm_Dots.text (l.take (k + 1)) = norm_Dots.text (l.take k) ++ 47 :: (l.getD k ByteArray.empty).data.toList ∧ (norm_Dots.text (l.take (k + 1))).length ≤ (norm_Dots.text l).length := by
  have e : l.take (k + 1) = l.take k ++ [l.getD k ByteArray.empty] := by
    rw [List.take_succ_eq_append_getElem hk, List.getD_eq_getElem?_getD, List.getElem?_eq_getElem hk]; rfl
  refine ⟨by rw [e]; simp [norm_Dots.text], ?_⟩
  conv => rhs; rw [← List.take_append_drop (k + 1) l]
  simp only [norm_Dots.text, List.flatMap_append, List.length_append]
  omega
theorem norm_Dots.infoS : (Tryd.prog.info? 9).map (fun i => (i.zero, i.size, i.bytes)) = some (some (.string ByteArray.empty), 1, 16) := by kernel_rfl
set_option maxHeartbeats 4000000 in
theorem norm_Dots.calls (a0 : ByteArray) (r : ByteArray) (w : World) (h : norm_Dots.f a0 = some r) :
    Calls Tryd.prog 14 #[.string a0] w fun e w' => e = .returned (.string r) ∧ Below w.heap.size w w' := by
  unfold norm_Dots.f at h
  split at h
  case isFalse => cases h
  rename_i hs
  obtain rfl := Option.some.inj h
  clear h
  have hps := norm_Dots.prefix_size a0
  have HS := Lib.hid (show (norm_Dots.bare a0).size < 4294967281 by omega)
  have HT := Lib.hid hs.2
  clear hps hs
  go_enter Tryd.func14, Tryd.ntmps14
  go_wp2_with (go_at_call 24; refine (Tryd.strings_TrimPrefix _ _ _).mono ?_; rintro e w' ⟨rfl, hw⟩; rw [hw])
  go_wp2_with (go_at_call 23; refine (norm_Dots.split1 (norm_Dots.bare a0) _ HS.out).mono ?_)
  rintro e w1 ⟨rfl, hw1⟩
  have hlen : (norm_Dots.segs (norm_Dots.bare a0)).length = Lib.countB (norm_Dots.bare a0) ⟨#[47]⟩ + 1 := Lib.splitB_all ⟨#[47]⟩ (by decide) 0 _ _ rfl
  have hle := Lib.countB_le ⟨#[47]⟩ (by decide) (norm_Dots.bare a0).size (norm_Dots.bare a0) (Nat.le_refl _)
  have HR := Aside0.mk (hw1 ▸ norm_Dots.Row.made w (norm_Dots.segs (norm_Dots.bare a0)))
  have HW := Aside0.mk (hw1 ▸ below_alloc (Below.refl w.heap.size w) _ : Below w.heap.size w w1)
  have hb1 := HS.out
  clear hw1
  generalize hl : norm_Dots.segs (norm_Dots.bare a0) = l at *
  have hall : norm_Dots.all a0 = norm_Dots.tell ((norm_Dots.walk l).foldl norm_Dots.step []) (norm_Dots.ends (l.getLastD ByteArray.empty)) := by rw [← hl]; rfl
  have HA := Lib.hid hall
  clear hl hall
  obtain ⟨n, hn⟩ : ∃ n, l.length = n + 1 := ⟨_, hlen⟩
  have hn2 : n ≤ 4294967282 := by omega
  have hc := HR.out.cell (j := n) (by omega)
  have hlast : l.getLastD ByteArray.empty = l.getD n ByteArray.empty := by
    rw [List.getLastD_eq_getLast?, List.getLast?_eq_getElem?, hn, List.getD_eq_getElem?_getD]; rfl
  have HA2 := Lib.hid hlast
  clear hlast
  rw [hn]
  generalize l.getD n ByteArray.empty = x at hc HA2
  clear hlen hle HS hb1
  obtain ⟨i0, hi, hz0, hz1, hz2⟩ := info_parts norm_Dots.infoS
  have hcases : x.toList = [] ∨ x.toList = [46] ∨ x.toList = [46, 46] ∨ (¬ x.toList = [] ∧ ¬ x.toList = [46] ∧ ¬ x.toList = [46, 46]) := by
    by_cases h1 : x.toList = []
    · exact .inl h1
    by_cases h2 : x.toList = [46]
    · exact .inr (.inl h2)
    by_cases h3 : x.toList = [46, 46]
    · exact .inr (.inr (.inl h3))
    · exact .inr (.inr (.inr ⟨h1, h2, h3⟩))
  rcases hcases with hx | hx | hx | ⟨hx, hx2, hx3⟩
  case' inr.inr.inr =>
    have hb1 : x.toList.isEmpty = false := by simpa using hx
    have hb2 : (x.toList == [46]) = false := beq_false_of_ne hx2
    have hb3 : (x.toList == [46, 46]) = false := beq_false_of_ne hx3
  all_goals
    have HML := norm_Dots.walk_len l x n HA2.out hn
    first
      | have hml := HML.1 hx
      | have hml := HML.2 (by rw [hx]; decide)
      | have hml := HML.2 hx
    clear HML
    have HRW := Aside0.mk HR.out.walk
    go_wp2_with (at_make; refine wpList_make_own _ rfl _ _ 30 rfl w.heap.size 9 i0 (.string ByteArray.empty) 1 Tryd.underlying30 hi hz0 hz1 .i64 .i64 _ (norm_Dots.walk l).length rfl rfl (by omega) (by rw [hz2]; omega) (by unfold maxLen; omega) (by have := HW.out.size; omega) ?_; intro w2 hown2 hgrow2)
    have hgg : w.heap.size < w1.heap.size := HR.out.lt
    have HR2 := Aside0.mk (HRW.out.of_heap (hgrow2.block _ hgg (by simp)))
    have HW2 := Aside0.mk (HW.out.grown hgrow2 (by omega) (fun k hk => by cases hk))
    have HO2 := Aside0.mk hown2
    clear hown2 hgrow2 HR HRW hc
    generalize norm_Dots.walk l = L at *
    generalize hg1 : w1.heap.size = g1 at *
    obtain ⟨cp, hcp⟩ : ∃ cp, L.length = cp := ⟨_, rfl⟩
    have HCP := Lib.hid hcp
    rw [hcp] at HO2
    clear hcp
    go_loopw [6, 44] (fun v6 v44 wr => ∃ (k : Nat) (ys : List ByteArray), k ≤ L.length ∧ v44 = .int .i64 k ∧ v6 = .slice (some ⟨g1, 0, none⟩) ys.length cp ∧ ys.length ≤ k ∧ Aside0 (ys = (L.take k).foldl norm_Dots.step []) ∧ Aside0 (wr.ownsRow w.heap.size 9 1 (.slice (some ⟨g1, 0, none⟩) ys.length cp) ys.length (ys.map Value.string)) ∧ Aside0 (norm_Dots.Row wr w.heap.size L) ∧ Aside0 (Below w.heap.size w wr)) (fun _ v44 _ => L.length - (intOf v44).toNat)
    case atStart => exact ⟨0, [], Nat.zero_le _, rfl, by rw [← HCP.out, hml]; rfl, Nat.le_refl _, ⟨rfl⟩, HO2, HR2, HW2⟩
    case round =>
      clear HO2 HR2 HW2
      obtain ⟨k, ys, hk, rfl, rfl, hyk, HY, HO, HR, HW⟩ := hrel
      by_cases hlt : k < L.length
      · have hcx := HR.out.cell hlt
        have HF := Lib.hid (norm_Dots.fold_next L k hlt)
        generalize L.getD k ByteArray.empty = y at hcx HF
        have hyc : y.toList = [46] ∨ y.toList = [46, 46] ∨ (¬ y.toList = [46] ∧ ¬ y.toList = [46, 46]) := by
          by_cases h2 : y.toList = [46]
          · exact .inl h2
          by_cases h3 : y.toList = [46, 46]
          · exact .inr (.inl h3)
          · exact .inr (.inr ⟨h2, h3⟩)
        have hcy : ys.length ≤ cp ∧ cp ≤ 4294967283 := by have := HCP.out; omega
        obtain ⟨hcy1, hcy2⟩ := hcy
        rcases hyc with hy | hy | ⟨hy, hy2⟩
        · go_wp2
          go_roundw
          case rel => exact ⟨k + 1, ys, by omega, by go_num, rfl, by omega, ⟨by rw [HF.out, ← HY.out, norm_Dots.step_dot _ hy]⟩, HO, HR, HW⟩
          case measure => simp [intOf]; omega
        · go_wp2
          go_roundw
          case rel =>
            have hd : ys.dropLast = ys.take (ys.length - 1) := List.dropLast_eq_take ..
            refine ⟨k + 1, ys.dropLast, by omega, by go_num, by rw [List.length_dropLast]; congr 1; first | omega | (split <;> omega), by rw [List.length_dropLast]; omega, ⟨by rw [HF.out, ← HY.out, norm_Dots.step_up _ hy]⟩, ⟨?_⟩, HR, HW⟩
            have h5 := own_take HO.out (show ys.length - 1 ≤ ys.length by omega)
            rw [Nat.mul_one] at h5
            rw [List.length_dropLast, hd, List.map_take]
            exact h5
          case measure => simp [intOf]; omega
        · have hb4 : (y.toList == [46]) = false := beq_false_of_ne hy
          have hb5 : (y.toList == [46, 46]) = false := beq_false_of_ne hy2
          go_wp2_with (at_builtin; refine wpList_append_fits _ rfl (.tmp 49) (.tmp 51) 30 rfl w.heap.size 9 i0 1 Tryd.underlying30 hi hz1 g1 ys.length cp (ys.map Value.string) rfl (HO.out.alloc _) ⟨wr.heap.size, 0, none⟩ 1 1 [.string y] rfl rfl (cell_one_new _ _ _) (by intro u hu; rw [List.mem_singleton.1 hu]; rfl) (by have := HCP.out; omega) ?_; intro w4 hown4 hgrow4)
          have hgl := HR.out.lt
          have HR4 := Aside0.mk ((HR.out.below (below_alloc (Below.refl wr.heap.size wr) _)).of_heap (hgrow4.block _ (by simp; omega) (by intro he; injection he with he; omega)))
          have HW4 := Aside0.mk ((below_alloc HW.out _).grown hgrow4 (by simp; omega) (fun k hk => by injection hk with hk; omega))
          have HO4 := Aside0.mk hown4
          clear hown4 hgrow4
          go_wp2
          go_roundw
          case rel => exact ⟨k + 1, ys ++ [y], by omega, by go_num, by rw [List.length_append]; rfl, by rw [List.length_append, List.length_singleton]; omega, ⟨by rw [HF.out, ← HY.out, norm_Dots.step_on _ hy hy2]⟩, ⟨by rw [List.length_append, List.map_append]; exact HO4.out⟩, HR4, HW4⟩
          case measure => simp [intOf]; omega
      · have hkl : k = L.length := by omega
        rw [hkl, List.take_length] at HY
        have HRY := Aside0.mk (norm_Dots.Row.own HO.out)
        have hgl := HRY.out.lt
        have hA := HA.out
        rw [HA2.out, ← HY.out] at hA
        have HTT := Lib.hid hA
        have htx : (norm_Dots.text ys).length ≤ (norm_Dots.all a0).length := by rw [hA]; unfold norm_Dots.tell; rw [List.length_append]; omega
        have hyl : ys.length ≤ 4294967283 := by omega
        clear hkl hA HR HO HY
        go_wp2
        have HBF := Aside0.mk (Bld.Has.fresh wr)
        have HRY2 := Aside0.mk (HRY.out.below (below_alloc (Below.refl wr.heap.size wr) (.cells #[.pointer none, .slice none 0 0] 43)))
        have HW5 := Aside0.mk (below_alloc HW.out (.cells #[.pointer none, .slice none 0 0] 43))
        have hwb : w.heap.size ≤ wr.heap.size := HW.out.size
        (try simp only [decide_eq_false (show ¬ k < n by omega)])
        clear hlt hk
        generalize hbb : wr.heap.size = b at *
        go_loopw [69] (fun v69 wq => ∃ (k : Nat), k ≤ ys.length ∧ v69 = .int .i64 k ∧ Aside0 (Bld.Has wq b b (norm_Dots.text (ys.take k))) ∧ Aside0 (norm_Dots.Row wq g1 ys) ∧ Aside0 (Below w.heap.size w wq)) (fun v69 _ => ys.length - (intOf v69).toNat)
        case atStart => exact ⟨0, Nat.zero_le _, rfl, HBF, HRY2, HW5⟩
        case round =>
          clear HBF HRY2 HW5 HRY HW
          obtain ⟨j, hj, rfl, HB, HRY, HW⟩ := hrel
          have hlb := HB.out.lt
          by_cases hjl : j < ys.length
          · have hcx := HRY.out.cell hjl
            have hn1 := norm_Dots.text_next ys j hjl
            generalize ys.getD j ByteArray.empty = y at hcx hn1
            have hys : y.size = y.data.toList.length := (data_length y).symm
            have htot : (norm_Dots.text (ys.take j)).length + 1 + y.size ≤ 140737488355328 := by
              have h1 := HT.out
              have h2 := congrArg List.length hn1.1
              rw [List.length_append, List.length_cons] at h2
              omega
            have HN1 := Lib.hid hn1.1
            have hgb : g1 < b := hgl
            clear hn1 hys
            go_wp2_with fail
            refine (Bld.write b b _ _ _ HB.out (by rw [Plain.size_append]; have e2 : (⟨#[47]⟩ : ByteArray).size = 1 := rfl; omega)).mono ?_
            rintro e w5 ⟨rfl, hb5, hB5, hk5⟩
            have e5 : norm_Dots.text (ys.take j) ++ ((⟨#[47]⟩ : ByteArray) ++ y).data.toList = norm_Dots.text (ys.take (j + 1)) := by
              rw [HN1.out, ByteArray.data_append, Array.toList_append]; rfl
            rw [e5] at hb5
            have HB5 := Aside0.mk hb5
            have HR5 := Aside0.mk (HRY.out.of_heap (hB5.block _ hgb))
            have HW5 := Aside0.mk (HW.out.trans (Below.mono hB5 hwb))
            clear hb5 hB5 hk5 e5
            go_wp2
            go_roundw
            case rel => exact ⟨j + 1, by omega, by go_num, HB5, HR5, HW5⟩
            case measure => simp [intOf]; omega
          · have hjj : j = ys.length := by omega
            rw [hjj, List.take_length] at HB
            clear hjj
            have hE : norm_Dots.ends x = true ∨ (norm_Dots.ends x = false ∧ ¬ x.toList = [] ∧ ¬ x.toList = [46] ∧ ¬ x.toList = [46, 46]) := by
              first
                | exact .inl (by unfold norm_Dots.ends; rw [hx]; decide)
                | exact .inr ⟨by unfold norm_Dots.ends; rw [decide_eq_false hx, decide_eq_false hx2, decide_eq_false hx3]; rfl, hx, hx2, hx3⟩
            by_cases h0 : (norm_Dots.ends x = true ∨ ys.length = 0)
            · have hfin : norm_Dots.all a0 = norm_Dots.text ys ++ [47] := by rw [HTT.out]; unfold norm_Dots.tell; rw [if_pos h0]
              have hl7 : (norm_Dots.text ys).length + 1 ≤ 140737488355328 := by have := HT.out; rw [hfin, List.length_append] at this; exact this
              have HFIN := Lib.hid hfin
              have HL7 := Lib.hid hl7
              clear hfin hl7 htx HTT HT
              by_cases h00 : ys.length = 0
              all_goals
                first
                  | (exfalso
                     have h9 : norm_Dots.ends x = false := by unfold norm_Dots.ends; rw [decide_eq_false hx, decide_eq_false hx2, decide_eq_false hx3]; rfl
                     rcases h0 with h0 | h0
                     · rw [h9] at h0; cases h0
                     · exact h00 h0)
                  | (go_wp2_with fail
                     refine (Bld.write b b _ (⟨#[47]⟩ : ByteArray) _ HB.out HL7.out).mono ?_
                     rintro e w5 ⟨rfl, hb5, hB5, hk5⟩
                     have HB5 := Aside0.mk hb5
                     have HW5 := Aside0.mk (HW.out.trans (Below.mono hB5 hwb))
                     clear hb5 hB5 hk5
                     go_wp2_with fail
                     refine (Bld.string b b _ _ HB5.out).mono ?_
                     rintro e w6 ⟨rfl, hB6⟩
                     have HW6 := Aside0.mk (HW5.out.trans (Below.mono hB6 hwb))
                     clear hB6
                     go_wp2
                     go_ret
                     exact ⟨by rw [HFIN.out]; rfl, HW6.out⟩)
            · have hfin : norm_Dots.all a0 = norm_Dots.text ys := by rw [HTT.out]; unfold norm_Dots.tell; rw [if_neg h0, List.append_nil]
              have HFIN := Lib.hid hfin
              clear hfin htx HTT HT
              have h1 : ¬ ys.length = 0 := fun h => h0 (.inr h)
              have h2 : norm_Dots.ends x = false := by
                rcases hE with hE | hE
                · exact absurd (.inl hE) h0
                · exact hE.1
              first
                | (exfalso
                   have h3 : norm_Dots.ends x = true := by unfold norm_Dots.ends; rw [hx]; decide
                   rw [h2] at h3; cases h3)
                | (go_wp2_with fail
                   refine (Bld.string b b _ _ HB.out).mono ?_
                   rintro e w6 ⟨rfl, hB6⟩
                   have HW6 := Aside0.mk (HW.out.trans (Below.mono hB6 hwb))
                   clear hB6
                   go_wp2
                   go_ret
                   exact ⟨by rw [HFIN.out]; rfl, HW6.out⟩)

/-! ### norm_Target: function 10 -/
def norm_Target.f (k : Nat) (a0 : ByteArray) : Option (ByteArray × Bool) := (norm_Escapes.f k a0).bind fun bt131 => (if bt131.2 = true then ((norm_Split.f bt131.1).bind fun bt133 => ((norm_Dots.f bt133.1).bind fun t136 => (if bt133.2.2 = true then (if 1 + bt133.2.1.size ≤ 9223372036854775807 then (if t136.size + ((⟨#[63]⟩ : ByteArray) ++ bt133.2.1).size ≤ 9223372036854775807 then (some (t136 ++ ((⟨#[63]⟩ : ByteArray) ++ bt133.2.1), true)) else (none)) else (none)) else (some (t136, true))))) else (some ((⟨#[]⟩ : ByteArray), false)))
theorem norm_Target.mono : ∀ a0 k, LeO (norm_Target.f k a0) (norm_Target.f (k + 1) a0) := by
  intro a0 k
  unfold norm_Target.f
  repeat' first
      | (with_reducible exact norm_Escapes.mono _ _)
      | (with_reducible exact LeO.refl _)
      | (with_reducible exact LeO.none _)
      | (with_reducible refine LeO.ite ?_ ?_)
      | (with_reducible refine LeO.bind ?_ (fun _ => ?_))
      | exact norm_Escapes.mono _ _
      | exact LeO.none _
      | refine LeO.ite ?_ ?_
      | refine LeO.bind ?_ (fun _ => ?_)
set_option maxHeartbeats 8000000 in
set_option maxRecDepth 100000 in
theorem norm_Target.calls (k : Nat) (a0 : ByteArray) (r1 : ByteArray) (r2 : Bool) (w : World) (h : norm_Target.f k a0 = some (r1, r2)) :
    Calls Tryd.prog 10 #[.string a0] w fun e w' => e = .returned (.tuple #[.string r1, .bool r2]) ∧ Below w.heap.size w w' := by
  have HB := Aside0.mk (Below.refl w.heap.size w)
  have H : ((norm_Escapes.f k a0).bind fun bt131 => (if bt131.2 = true then ((norm_Split.f bt131.1).bind fun bt133 => ((norm_Dots.f bt133.1).bind fun t136 => (if bt133.2.2 = true then (if 1 + bt133.2.1.size ≤ 9223372036854775807 then (if t136.size + ((⟨#[63]⟩ : ByteArray) ++ bt133.2.1).size ≤ 9223372036854775807 then (some (t136 ++ ((⟨#[63]⟩ : ByteArray) ++ bt133.2.1), true)) else (none)) else (none)) else (some (t136, true))))) else (some ((⟨#[]⟩ : ByteArray), false)))) = some (r1, r2) := h
  clear h
  replace H := Option.bind_eq_some_iff.mp H
  obtain ⟨⟨t131, t132⟩, A20, H⟩ := H
  replace H : (if t132 = true then ((norm_Split.f t131).bind fun bt133 => ((norm_Dots.f bt133.1).bind fun t136 => (if bt133.2.2 = true then (if 1 + bt133.2.1.size ≤ 9223372036854775807 then (if t136.size + ((⟨#[63]⟩ : ByteArray) ++ bt133.2.1).size ≤ 9223372036854775807 then (some (t136 ++ ((⟨#[63]⟩ : ByteArray) ++ bt133.2.1), true)) else (none)) else (none)) else (some (t136, true))))) else (some ((⟨#[]⟩ : ByteArray), false))) = some (r1, r2) := H
  have A2 := Aside0.mk A20
  clear A20
  by_cases c3 : t132 = true
  · subst c3
    have H1 : ((norm_Split.f t131).bind fun bt133 => ((norm_Dots.f bt133.1).bind fun t136 => (if bt133.2.2 = true then (if 1 + bt133.2.1.size ≤ 9223372036854775807 then (if t136.size + ((⟨#[63]⟩ : ByteArray) ++ bt133.2.1).size ≤ 9223372036854775807 then (some (t136 ++ ((⟨#[63]⟩ : ByteArray) ++ bt133.2.1), true)) else (none)) else (none)) else (some (t136, true))))) = some (r1, r2) := by rw [if_pos rfl] at H; exact H
    clear H
    have H := H1
    clear H1
    replace H := Option.bind_eq_some_iff.mp H
    obtain ⟨⟨t133, t134, t135⟩, A40, H⟩ := H
    replace H : ((norm_Dots.f t133).bind fun t136 => (if t135 = true then (if 1 + t134.size ≤ 9223372036854775807 then (if t136.size + ((⟨#[63]⟩ : ByteArray) ++ t134).size ≤ 9223372036854775807 then (some (t136 ++ ((⟨#[63]⟩ : ByteArray) ++ t134), true)) else (none)) else (none)) else (some (t136, true)))) = some (r1, r2) := H
    have A4 := Aside0.mk A40
    clear A40
    replace H := Option.bind_eq_some_iff.mp H
    obtain ⟨t136, A50, H⟩ := H
    replace H : (if t135 = true then (if 1 + t134.size ≤ 9223372036854775807 then (if t136.size + ((⟨#[63]⟩ : ByteArray) ++ t134).size ≤ 9223372036854775807 then (some (t136 ++ ((⟨#[63]⟩ : ByteArray) ++ t134), true)) else (none)) else (none)) else (some (t136, true))) = some (r1, r2) := H
    have A5 := Aside0.mk A50
    clear A50
    by_cases c6 : t135 = true
    · subst c6
      have H1 : (if 1 + t134.size ≤ 9223372036854775807 then (if t136.size + ((⟨#[63]⟩ : ByteArray) ++ t134).size ≤ 9223372036854775807 then (some (t136 ++ ((⟨#[63]⟩ : ByteArray) ++ t134), true)) else (none)) else (none)) = some (r1, r2) := by rw [if_pos rfl] at H; exact H
      clear H
      have H := H1
      clear H1
      by_cases c7 : 1 + t134.size ≤ 9223372036854775807
      · rw [if_pos c7] at H
        have c7b0 := eq_true c7
        have c7b1 : decide (1 + t134.size ≤ 9223372036854775807) = true := decide_eq_true c7
        try have c7b2 : (9223372036854775807 < 1 + t134.size) = False := eq_false (Nat.not_lt.2 c7)
        by_cases c8 : t136.size + ((⟨#[63]⟩ : ByteArray) ++ t134).size ≤ 9223372036854775807
        · rw [if_pos c8] at H
          have c8b0 := eq_true c8
          have c8b1 : decide (t136.size + ((⟨#[63]⟩ : ByteArray) ++ t134).size ≤ 9223372036854775807) = true := decide_eq_true c8
          try have c8b2 : (9223372036854775807 < t136.size + ((⟨#[63]⟩ : ByteArray) ++ t134).size) = False := eq_false (Nat.not_lt.2 c8)
          try (have c8d := Nat.not_lt.2 c8; simp only [ByteArray.size_append, (show (⟨#[63]⟩ : ByteArray).size = 1 from rfl), Nat.reduceAdd] at c8d; replace c8d := eq_false c8d)
          simp only [Option.some.injEq, Prod.mk.injEq] at H
          obtain ⟨rfl, rfl⟩ := H
          go_enter Tryd.func10, Tryd.ntmps10
          go_wp2_with (first | ((with_reducible refine gate_callee (f := 8) rfl ?_); refine goesL_ (some 11) rfl rfl Tryd.func8 (by kernel_rfl) rfl #[.string a0] rfl (by (try simp only [List.map_toArray, List.map_cons, List.map_nil]); first | done | rfl | (simp only [List.length_drop, List.length_take]; rfl)) ?_; (with_reducible refine (norm_Escapes.calls k a0 t131 true _ A2.out).mono ?_); rintro e w9 ⟨rfl, hb⟩; refine ⟨_, rfl, ?_⟩; have n0_ := Aside0.mk (below_step (by repeat (first | (with_reducible first | exact HB.out | apply below_alloc | apply pw_below_drewN | apply below_drew1) | exact HB.out)) hb); clear HB; have HB := n0_; clear n0_; (try clear hb); (try clear hb2); (try clear hk); (try clear hi)) | ((with_reducible refine gate_callee (f := 12) rfl ?_); refine goesL_ (some 18) rfl rfl Tryd.func12 (by kernel_rfl) rfl #[.string t131] rfl (by (try simp only [List.map_toArray, List.map_cons, List.map_nil]); first | done | rfl | (simp only [List.length_drop, List.length_take]; rfl)) ?_; (with_reducible refine (norm_Split.calls t131 t133 t134 true _ A4.out).mono ?_); rintro e w' ⟨rfl, ⟨nd, rfl⟩⟩; refine ⟨_, rfl, ?_⟩) | ((with_reducible refine gate_callee (f := 14) rfl ?_); refine goesL_ (some 23) rfl rfl Tryd.func14 (by kernel_rfl) rfl #[.string t133] rfl (by (try simp only [List.map_toArray, List.map_cons, List.map_nil]); first | done | rfl | (simp only [List.length_drop, List.length_take]; rfl)) ?_; (with_reducible refine (norm_Dots.calls t133 t136 _ A5.out).mono ?_); rintro e w10 ⟨rfl, hb⟩; refine ⟨_, rfl, ?_⟩; have n0_ := Aside0.mk (below_step (by repeat (first | (with_reducible first | exact HB.out | apply below_alloc | apply pw_below_drewN | apply below_drew1) | exact HB.out)) hb); clear HB; have HB := n0_; clear n0_; (try clear hb); (try clear hb2); (try clear hk); (try clear hi)))
          go_ret2
          exact ⟨by first | rfl | (simp [errW_none, errW_some] <;> rfl) | (simp [*, errW_none, errW_some] <;> rfl), by repeat (first | (with_reducible first | exact HB.out | apply below_alloc | apply pw_below_drewN | apply below_drew1) | exact HB.out)⟩
        · rw [if_neg c8] at H
          exact absurd H (by simp)
      · rw [if_neg c7] at H
        exact absurd H (by simp)
    · replace c6 := Bool.eq_false_iff.mpr c6
      subst c6
      have H1 : (some (t136, true)) = some (r1, r2) := by rw [if_neg (show ¬ (false = true) by decide)] at H; exact H
      clear H
      have H := H1
      clear H1
      simp only [Option.some.injEq, Prod.mk.injEq] at H
      obtain ⟨rfl, rfl⟩ := H
      go_enter Tryd.func10, Tryd.ntmps10
      go_wp2_with (first | ((with_reducible refine gate_callee (f := 8) rfl ?_); refine goesL_ (some 11) rfl rfl Tryd.func8 (by kernel_rfl) rfl #[.string a0] rfl (by (try simp only [List.map_toArray, List.map_cons, List.map_nil]); first | done | rfl | (simp only [List.length_drop, List.length_take]; rfl)) ?_; (with_reducible refine (norm_Escapes.calls k a0 t131 true _ A2.out).mono ?_); rintro e w11 ⟨rfl, hb⟩; refine ⟨_, rfl, ?_⟩; have n0_ := Aside0.mk (below_step (by repeat (first | (with_reducible first | exact HB.out | apply below_alloc | apply pw_below_drewN | apply below_drew1) | exact HB.out)) hb); clear HB; have HB := n0_; clear n0_; (try clear hb); (try clear hb2); (try clear hk); (try clear hi)) | ((with_reducible refine gate_callee (f := 12) rfl ?_); refine goesL_ (some 18) rfl rfl Tryd.func12 (by kernel_rfl) rfl #[.string t131] rfl (by (try simp only [List.map_toArray, List.map_cons, List.map_nil]); first | done | rfl | (simp only [List.length_drop, List.length_take]; rfl)) ?_; (with_reducible refine (norm_Split.calls t131 t133 t134 false _ A4.out).mono ?_); rintro e w' ⟨rfl, ⟨nd, rfl⟩⟩; refine ⟨_, rfl, ?_⟩) | ((with_reducible refine gate_callee (f := 14) rfl ?_); refine goesL_ (some 23) rfl rfl Tryd.func14 (by kernel_rfl) rfl #[.string t133] rfl (by (try simp only [List.map_toArray, List.map_cons, List.map_nil]); first | done | rfl | (simp only [List.length_drop, List.length_take]; rfl)) ?_; (with_reducible refine (norm_Dots.calls t133 t136 _ A5.out).mono ?_); rintro e w12 ⟨rfl, hb⟩; refine ⟨_, rfl, ?_⟩; have n0_ := Aside0.mk (below_step (by repeat (first | (with_reducible first | exact HB.out | apply below_alloc | apply pw_below_drewN | apply below_drew1) | exact HB.out)) hb); clear HB; have HB := n0_; clear n0_; (try clear hb); (try clear hb2); (try clear hk); (try clear hi)))
      go_ret2
      exact ⟨by first | rfl | (simp [errW_none, errW_some] <;> rfl) | (simp [*, errW_none, errW_some] <;> rfl), by repeat (first | (with_reducible first | exact HB.out | apply below_alloc | apply pw_below_drewN | apply below_drew1) | exact HB.out)⟩
  · replace c3 := Bool.eq_false_iff.mpr c3
    subst c3
    have H1 : (some ((⟨#[]⟩ : ByteArray), false)) = some (r1, r2) := by rw [if_neg (show ¬ (false = true) by decide)] at H; exact H
    clear H
    have H := H1
    clear H1
    simp only [Option.some.injEq, Prod.mk.injEq] at H
    obtain ⟨rfl, rfl⟩ := H
    go_enter Tryd.func10, Tryd.ntmps10
    go_wp2_with (first | ((with_reducible refine gate_callee (f := 8) rfl ?_); refine goesL_ (some 11) rfl rfl Tryd.func8 (by kernel_rfl) rfl #[.string a0] rfl (by (try simp only [List.map_toArray, List.map_cons, List.map_nil]); first | done | rfl | (simp only [List.length_drop, List.length_take]; rfl)) ?_; (with_reducible refine (norm_Escapes.calls k a0 t131 false _ A2.out).mono ?_); rintro e w13 ⟨rfl, hb⟩; refine ⟨_, rfl, ?_⟩; have n0_ := Aside0.mk (below_step (by repeat (first | (with_reducible first | exact HB.out | apply below_alloc | apply pw_below_drewN | apply below_drew1) | exact HB.out)) hb); clear HB; have HB := n0_; clear n0_; (try clear hb); (try clear hb2); (try clear hk); (try clear hi)))
    go_ret2
    exact ⟨by first | rfl | (simp [errW_none, errW_some] <;> rfl) | (simp [*, errW_none, errW_some] <;> rfl), by repeat (first | (with_reducible first | exact HB.out | apply below_alloc | apply pw_below_drewN | apply below_drew1) | exact HB.out)⟩

end Go.Proofs.YtgpkgfdojfnafaaDoor.K
