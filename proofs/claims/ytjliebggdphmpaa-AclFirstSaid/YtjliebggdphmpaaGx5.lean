-- PRINTED by print.py (a twelfth state) out of the translation. Not trusted: Lean checks it.
import Derived.Test.YtjliebggdphmpaaGx0
import Derived.Test.YtjliebggdphmpaaGx1
import Derived.Test.YtjliebggdphmpaaGx3
import Derived.Test.YtjliebggdphmpaaGx4
namespace Go.Proofs.Ytjliebggdphmpaa.G
open Go.RowKit Go.Proofs.YtjliebggdphmpaaW.PrintWords Go.Proofs.YtjliebggdphmpaaW.PrintLast Go.Proofs.YtjliebggdphmpaaW.PrintMore
attribute [local go_sem] max2_int min2_int max_two min_two max_three min_three max_four min_four   -- for this text's walks alone
set_option linter.unusedVariables false
set_option linter.unusedSimpArgs false

/-! ### glob_Match: function 26 -/
mutual
def glob_Match.l0 : Nat → ByteArray → List (S77) → List Bool → Int → Int → Option (Bool)
  | 0, _, _, _, _, _ => none
  | k + 1, x1, x5, x7, x28, x29 => if x29 < x28 then (if 0 ≤ (wrap64 ((x5.length : Int) + 1)) then (if (wrap64 ((x5.length : Int) + 1) : Int).toNat ≤ 281474976710656 then (glob_Match.l1 k x1 x5 x7 x29 (List.replicate (wrap64 ((x5.length : Int) + 1) : Int).toNat false) x28 x29 (x5.length : Int) 0) else (none)) else (none)) else (if 0 ≤ (x5.length : Int) then (if (x5.length : Int) < (x7.length : Int) then (some (rdOf false x7 (x5.length : Int))) else (none)) else (none))
def glob_Match.l1 : Nat → ByteArray → List (S77) → List Bool → Int → List Bool → Int → Int → Int → Int → Option (Bool)
  | 0, _, _, _, _, _, _, _, _, _ => none
  | k + 1, x1, x5, x7, x8, x9, x28, x29, x37, x38 => if x38 < x37 then (if 0 ≤ x38 then (if x38 < (x7.length : Int) then (if rdOf false x7 x38 = true then (if x38 < (x5.length : Int) then (if 0 ≤ x8 then (if x8 < (x1.size : Int) then ((glob_part_takes.f ((rd_T77 x5 x38).f0) ((rd_T77 x5 x38).f1) (bt x1 x8)).bind fun t179 => (glob_Match.j2 k x1 x5 x7 x8 x9 x38 x28 x29 x37 x38 t179)) else (none)) else (none)) else (none)) else (glob_Match.j2 k x1 x5 x7 x8 x9 x38 x28 x29 x37 x38 false)) else (none)) else (none)) else ((glob_free.f k x5 x9).bind fun t195 => ((slices_Contains_bool_bool.f k t195 true).bind fun t196 => (if t196 = true then (glob_Match.l0 k x1 x5 t195 x28 (wrap64 (x29 + 1))) else (some false))))
def glob_Match.j2 : Nat → ByteArray → List (S77) → List Bool → Int → List Bool → Int → Int → Int → Int → Int → Bool → Option (Bool)
  | 0, _, _, _, _, _, _, _, _, _, _, _ => none
  | k + 1, x1, x5, x7, x8, x9, x10, x28, x29, x37, x38, x54 => if x54 = true then (if 0 ≤ x10 then (if x10 < (x9.length : Int) then (if rdOf false x9 x10 = true then ((some (x9.set (x10 : Int).toNat true : List Bool)).bind fun y181 => (if 0 ≤ (wrap64 (x10 + 1)) then (if (wrap64 (x10 + 1)) < (x9.length : Int) then (if rdOf false y181 (wrap64 (x10 + 1)) = true then (glob_Match.l1 k x1 x5 x7 x8 (y181.set ((wrap64 (x10 + 1)) : Int).toNat true) x28 x29 x37 (wrap64 (x38 + 1))) else (if x10 < (x5.length : Int) then ((glob_part_many.f ((rd_T77 x5 x10).f0) ((rd_T77 x5 x10).f1)).bind fun t185 => (glob_Match.l1 k x1 x5 x7 x8 (y181.set ((wrap64 (x10 + 1)) : Int).toNat (!t185)) x28 x29 x37 (wrap64 (x38 + 1)))) else (none))) else (none)) else (none))) else (if x10 < (x5.length : Int) then ((glob_part_many.f ((rd_T77 x5 x10).f0) ((rd_T77 x5 x10).f1)).bind fun t188 => ((some (x9.set (x10 : Int).toNat t188 : List Bool)).bind fun y189 => (if 0 ≤ (wrap64 (x10 + 1)) then (if (wrap64 (x10 + 1)) < (x9.length : Int) then (if rdOf false y189 (wrap64 (x10 + 1)) = true then (glob_Match.l1 k x1 x5 x7 x8 (y189.set ((wrap64 (x10 + 1)) : Int).toNat true) x28 x29 x37 (wrap64 (x38 + 1))) else ((glob_part_many.f ((rd_T77 x5 x10).f0) ((rd_T77 x5 x10).f1)).bind fun t193 => (glob_Match.l1 k x1 x5 x7 x8 (y189.set ((wrap64 (x10 + 1)) : Int).toNat (!t193)) x28 x29 x37 (wrap64 (x38 + 1))))) else (none)) else (none)))) else (none))) else (none)) else (none)) else (glob_Match.l1 k x1 x5 x7 x8 x9 x28 x29 x37 (wrap64 (x38 + 1)))
end
def glob_Match.f (k : Nat) (a0 : ByteArray) (a1 : ByteArray) : Option (Bool) := (glob_parts.f k a0).bind fun bt164 => (if bt164.2 = true then (if 0 ≤ (wrap64 ((bt164.1.length : Int) + 1)) then (if (wrap64 ((bt164.1.length : Int) + 1) : Int).toNat ≤ 281474976710656 then ((some (List.replicate (wrap64 ((bt164.1.length : Int) + 1) : Int).toNat false : List Bool)).bind fun y168 => (if 0 < (y168.length : Int) then ((glob_free.f k bt164.1 (y168.set (0 : Int).toNat true)).bind fun t172 => (glob_Match.l0 k a1 bt164.1 t172 (a1.size : Int) 0)) else (none))) else (none)) else (none)) else (some false))
theorem glob_Match.mono_l : ∀ k, (∀ y0 y1 y2 y3 y4, LeO (glob_Match.l0 k y0 y1 y2 y3 y4) (glob_Match.l0 (k + 1) y0 y1 y2 y3 y4)) ∧ (∀ y0 y1 y2 y3 y4 y5 y6 y7 y8, LeO (glob_Match.l1 k y0 y1 y2 y3 y4 y5 y6 y7 y8) (glob_Match.l1 (k + 1) y0 y1 y2 y3 y4 y5 y6 y7 y8)) ∧ (∀ y0 y1 y2 y3 y4 y5 y6 y7 y8 y9 y10, LeO (glob_Match.j2 k y0 y1 y2 y3 y4 y5 y6 y7 y8 y9 y10) (glob_Match.j2 (k + 1) y0 y1 y2 y3 y4 y5 y6 y7 y8 y9 y10))
  | 0 => ⟨fun _ _ _ _ _ r h => by simp [glob_Match.l0] at h, fun _ _ _ _ _ _ _ _ _ r h => by simp [glob_Match.l1] at h, fun _ _ _ _ _ _ _ _ _ _ _ r h => by simp [glob_Match.j2] at h⟩
  | k + 1 => by
    obtain ⟨ih0, ih1, ih2⟩ := glob_Match.mono_l k
    refine ⟨?_, ?_, ?_⟩
    · intro y0 y1 y2 y3 y4
      unfold glob_Match.l0
      repeat' first
      | (with_reducible exact ih0 _ _ _ _ _)
      | (with_reducible exact ih1 _ _ _ _ _ _ _ _ _)
      | (with_reducible exact ih2 _ _ _ _ _ _ _ _ _ _ _)
      | (with_reducible exact glob_free.mono _ _ _)
      | (with_reducible exact glob_parts.mono _ _)
      | (with_reducible exact slices_Contains_bool_bool.mono _ _ _)
      | (with_reducible exact LeO.refl _)
      | (with_reducible exact LeO.none _)
      | (with_reducible refine LeO.ite ?_ ?_)
      | (with_reducible refine LeO.bind ?_ (fun _ => ?_))
      | exact ih0 _ _ _ _ _
      | exact ih1 _ _ _ _ _ _ _ _ _
      | exact ih2 _ _ _ _ _ _ _ _ _ _ _
      | exact glob_free.mono _ _ _
      | exact glob_parts.mono _ _
      | exact slices_Contains_bool_bool.mono _ _ _
      | exact LeO.none _
      | refine LeO.ite ?_ ?_
      | refine LeO.bind ?_ (fun _ => ?_)
    · intro y0 y1 y2 y3 y4 y5 y6 y7 y8
      unfold glob_Match.l1
      repeat' first
      | (with_reducible exact ih0 _ _ _ _ _)
      | (with_reducible exact ih1 _ _ _ _ _ _ _ _ _)
      | (with_reducible exact ih2 _ _ _ _ _ _ _ _ _ _ _)
      | (with_reducible exact glob_free.mono _ _ _)
      | (with_reducible exact glob_parts.mono _ _)
      | (with_reducible exact slices_Contains_bool_bool.mono _ _ _)
      | (with_reducible exact LeO.refl _)
      | (with_reducible exact LeO.none _)
      | (with_reducible refine LeO.ite ?_ ?_)
      | (with_reducible refine LeO.bind ?_ (fun _ => ?_))
      | exact ih0 _ _ _ _ _
      | exact ih1 _ _ _ _ _ _ _ _ _
      | exact ih2 _ _ _ _ _ _ _ _ _ _ _
      | exact glob_free.mono _ _ _
      | exact glob_parts.mono _ _
      | exact slices_Contains_bool_bool.mono _ _ _
      | exact LeO.none _
      | refine LeO.ite ?_ ?_
      | refine LeO.bind ?_ (fun _ => ?_)
    · intro y0 y1 y2 y3 y4 y5 y6 y7 y8 y9 y10
      unfold glob_Match.j2
      repeat' first
      | (with_reducible exact ih0 _ _ _ _ _)
      | (with_reducible exact ih1 _ _ _ _ _ _ _ _ _)
      | (with_reducible exact ih2 _ _ _ _ _ _ _ _ _ _ _)
      | (with_reducible exact glob_free.mono _ _ _)
      | (with_reducible exact glob_parts.mono _ _)
      | (with_reducible exact slices_Contains_bool_bool.mono _ _ _)
      | (with_reducible exact LeO.refl _)
      | (with_reducible exact LeO.none _)
      | (with_reducible refine LeO.ite ?_ ?_)
      | (with_reducible refine LeO.bind ?_ (fun _ => ?_))
      | exact ih0 _ _ _ _ _
      | exact ih1 _ _ _ _ _ _ _ _ _
      | exact ih2 _ _ _ _ _ _ _ _ _ _ _
      | exact glob_free.mono _ _ _
      | exact glob_parts.mono _ _
      | exact slices_Contains_bool_bool.mono _ _ _
      | exact LeO.none _
      | refine LeO.ite ?_ ?_
      | refine LeO.bind ?_ (fun _ => ?_)
theorem glob_Match.mono : ∀ a0 a1 k, LeO (glob_Match.f k a0 a1) (glob_Match.f (k + 1) a0 a1) := by
  intro a0 a1 k
  obtain ⟨ih0, ih1, ih2⟩ := glob_Match.mono_l k
  unfold glob_Match.f
  repeat' first
      | (with_reducible exact ih0 _ _ _ _ _)
      | (with_reducible exact ih1 _ _ _ _ _ _ _ _ _)
      | (with_reducible exact ih2 _ _ _ _ _ _ _ _ _ _ _)
      | (with_reducible exact glob_free.mono _ _ _)
      | (with_reducible exact glob_parts.mono _ _)
      | (with_reducible exact slices_Contains_bool_bool.mono _ _ _)
      | (with_reducible exact LeO.refl _)
      | (with_reducible exact LeO.none _)
      | (with_reducible refine LeO.ite ?_ ?_)
      | (with_reducible refine LeO.bind ?_ (fun _ => ?_))
      | exact ih0 _ _ _ _ _
      | exact ih1 _ _ _ _ _ _ _ _ _
      | exact ih2 _ _ _ _ _ _ _ _ _ _ _
      | exact glob_free.mono _ _ _
      | exact glob_parts.mono _ _
      | exact slices_Contains_bool_bool.mono _ _ _
      | exact LeO.none _
      | refine LeO.ite ?_ ?_
      | refine LeO.bind ?_ (fun _ => ?_)
def glob_Match.T14 : Bool × List (List Nat × List Nat) := (true, [([], []), ([], []), ([0, 1], [0, 1]), ([2], [2]), ([3], [3]), ([4], [4]), ([4], [4]), ([5, 6, 4], [4, 5, 6]), ([7, 4], [4, 7]), ([4], [4]), ([4], [4]), ([9, 10, 4], [4, 9, 10]), ([8, 11, 4, 4], [4, 8, 11]), ([4, 12], [4, 12])])
def glob_Match.B14 : List Nat := [0, 0, 3, 7, 15, 31, 31, 127, 255, 31, 31, 1567, 4095, 8191]
theorem glob_Match.tab14 : rtab .any (opsOf Try.f26 14) = glob_Match.T14 := by kernel_rfl
theorem glob_Match.bits14 : waitsOk glob_Match.T14.2 glob_Match.B14 = true := by kernel_rfl
set_option maxHeartbeats 8000000 in
set_option maxRecDepth 100000 in
theorem glob_Match.calls (k : Nat) (a0 : ByteArray) (a1 : ByteArray) (r : Bool) (w : World) (h : glob_Match.f k a0 a1 = some r) :
    Calls Try.prog 26 #[.string a0, .string a1] w fun e w' => e = .returned (.bool r) ∧ Below w.heap.size w w' := by
  have hu77 := Try.underlying77
  have HB := Aside0.mk (Below.refl w.heap.size w)
  have H : ((glob_parts.f k a0).bind fun bt164 => (if bt164.2 = true then (if 0 ≤ (wrap64 ((bt164.1.length : Int) + 1)) then (if (wrap64 ((bt164.1.length : Int) + 1) : Int).toNat ≤ 281474976710656 then ((some (List.replicate (wrap64 ((bt164.1.length : Int) + 1) : Int).toNat false : List Bool)).bind fun y168 => (if 0 < (y168.length : Int) then ((glob_free.f k bt164.1 (y168.set (0 : Int).toNat true)).bind fun t172 => (glob_Match.l0 k a1 bt164.1 t172 (a1.size : Int) 0)) else (none))) else (none)) else (none)) else (some false))) = some r := h
  clear h
  replace H := Option.bind_eq_some_iff.mp H
  obtain ⟨⟨t164, t165⟩, A30, H⟩ := H
  replace H : (if t165 = true then (if 0 ≤ (wrap64 ((t164.length : Int) + 1)) then (if (wrap64 ((t164.length : Int) + 1) : Int).toNat ≤ 281474976710656 then ((some (List.replicate (wrap64 ((t164.length : Int) + 1) : Int).toNat false : List Bool)).bind fun y168 => (if 0 < (y168.length : Int) then ((glob_free.f k t164 (y168.set (0 : Int).toNat true)).bind fun t172 => (glob_Match.l0 k a1 t164 t172 (a1.size : Int) 0)) else (none))) else (none)) else (none)) else (some false)) = some r := H
  have A3 := Aside0.mk A30
  clear A30
  by_cases c4 : t165 = true
  · subst c4
    have H1 : (if 0 ≤ (wrap64 ((t164.length : Int) + 1)) then (if (wrap64 ((t164.length : Int) + 1) : Int).toNat ≤ 281474976710656 then ((some (List.replicate (wrap64 ((t164.length : Int) + 1) : Int).toNat false : List Bool)).bind fun y168 => (if 0 < (y168.length : Int) then ((glob_free.f k t164 (y168.set (0 : Int).toNat true)).bind fun t172 => (glob_Match.l0 k a1 t164 t172 (a1.size : Int) 0)) else (none))) else (none)) else (none)) = some r := by rw [if_pos rfl] at H; exact H
    clear H
    have H := H1
    clear H1
    obtain ⟨ji5, hji5⟩ : ∃ j_ : Int, (wrap64 ((t164.length : Int) + 1)) = j_ := ⟨_, rfl⟩
    replace H : (if 0 ≤ (ji5) then (if (ji5 : Int).toNat ≤ 281474976710656 then ((some (List.replicate (ji5 : Int).toNat false : List Bool)).bind fun y168 => (if 0 < (y168.length : Int) then ((glob_free.f k t164 (y168.set (0 : Int).toNat true)).bind fun t172 => (glob_Match.l0 k a1 t164 t172 (a1.size : Int) 0)) else (none))) else (none)) else (none)) = some r := by first | (rw [hji5] at H; exact H) | (simp only [hji5] at H ⊢; exact H)
    (try rw [hji5] at A3)
    have hji5w : (IntKind.i64.wrap ((t164.length : Int) + 1)) = ji5 := (i64_w _).trans hji5
    by_cases c6 : 0 ≤ (ji5)
    · rw [if_pos c6] at H
      have c6b0 := eq_true c6
      have c6b1 : decide (0 ≤ (ji5)) = true := decide_eq_true c6
      clear c6
      by_cases c7 : (ji5 : Int).toNat ≤ 281474976710656
      · rw [if_pos c7] at H
        have c7b0 := eq_true c7
        have c7b1 : decide ((ji5 : Int).toNat ≤ 281474976710656) = true := decide_eq_true c7
        clear c7
        obtain ⟨y168, hy168⟩ : ∃ y_ : List Bool, y_ = (List.replicate (ji5 : Int).toNat false) := ⟨_, rfl⟩
        replace H : (if 0 < (y168.length : Int) then ((glob_free.f k t164 (y168.set (0 : Int).toNat true)).bind fun t172 => (glob_Match.l0 k a1 t164 t172 (a1.size : Int) 0)) else (none)) = some r := by first | (rw [hy168]; with_reducible exact H) | (have H2_ := (Option.bind_some _ _).symm.trans H; rw [hy168]; with_reducible exact H2_) | (have H2_ := (Option.bind_some _ _).symm.trans H; with_reducible exact H2_) | with_reducible exact H | (rw [hy168]; exact H) | exact H
        have Ny168 := Aside0.mk hy168
        clear hy168
        by_cases c8 : 0 < (y168.length : Int)
        · rw [if_pos c8] at H
          have c8b0 : decide (0 < (y168.length : Int)) = true := decide_eq_true c8
          have c8b1 : decide (0 < y168.length) = true := decide_eq_true (by omega)
          clear c8
          obtain ⟨y171, hy171⟩ : ∃ y_ : List Bool, y_ = (y168.set (0 : Int).toNat true) := ⟨_, rfl⟩
          replace H : ((glob_free.f k t164 y171).bind fun t172 => (glob_Match.l0 k a1 t164 t172 (a1.size : Int) 0)) = some r := by first | (rw [hy171]; with_reducible exact H) | (have H2_ := (Option.bind_some _ _).symm.trans H; rw [hy171]; with_reducible exact H2_) | (have H2_ := (Option.bind_some _ _).symm.trans H; with_reducible exact H2_) | with_reducible exact H | (rw [hy171]; exact H) | exact H
          have Ny171 := Aside0.mk hy171
          clear hy171
          replace H := Option.bind_eq_some_iff.mp H
          obtain ⟨t172, A100, H⟩ := H
          replace H : (glob_Match.l0 k a1 t164 t172 (a1.size : Int) 0) = some r := H
          have A10 := Aside0.mk A100
          clear A100
          have H' := Aside0.mk H
          clear H
          go_enter Try.func26, Try.ntmps26
          go_wp2_with (first | ((with_reducible refine gate_callee (f := 33) rfl ?_); refine goesL_ (some 13) rfl rfl Try.func33 (by kernel_rfl) rfl #[.string a0] rfl (by (try simp only [List.map_toArray, List.map_cons, List.map_nil]); first | done | rfl | (simp only [List.length_drop, List.length_take]; rfl)) ?_; (with_reducible refine (glob_parts.calls k a0 t164 true _ A3.out).mono ?_); rintro e w11 ⟨v166, rfl, ho0, hb⟩; refine ⟨_, rfl, ?_⟩; have n0_ := Aside0.mk (Kd.R_lower ho0 (below_size (by repeat (first | (with_reducible first | exact HB.out | apply below_alloc | apply pw_below_drewN | apply below_drew1) | exact HB.out)))); have n1_ := Aside0.mk (below_step (by repeat (first | (with_reducible first | exact HB.out | apply below_alloc | apply pw_below_drewN | apply below_drew1) | exact HB.out)) hb); clear HB; have HO167 := n0_; have HB := n1_; clear n0_ n1_; (try clear hb); (try clear hb2); (try clear hk); (try clear hi); (try clear ho0); obtain ⟨Ao12, co12, eo12⟩ := Kd.R_slice HO167.out; subst eo12) | ((with_reducible refine gate_dst (N := 21) rfl ?_); refine Kd.R_make Kd.bool _ 4 rfl (N := 21) rfl 74 _ _ rfl ji5 rfl rfl Try.underlying74 (.bool false) 1 info4 rfl (by decide) (by omega) false (ok := fun _ => True) (okp := fun _ => True) rfl (fun _ hk => hk) trivial (of_decide_eq_true (by first | (with_reducible assumption) | assumption)) (Nat.le_trans (Nat.mul_le_mul_right _ (of_decide_eq_true (by first | (with_reducible assumption) | assumption) : ji5.toNat ≤ 281474976710656)) (by omega)) (Below.refl _ _) (Nat.le_refl _) ?_; intro v169 w13 ho14 hb hg_ hnew_; clear hg_ hnew_; (first | rw [← Ny168.out] at ho14 | (simp only [Int.reduceToNat] at ho14; rw [← Ny168.out] at ho14)); have n0_ := Aside0.mk (Kd.R_below (by (with_reducible repeat (first | apply Kd.R_alloc | apply Kd.R_drewN | apply Kd.R_drew)); exact HO167.out) hb); have n1_ := Aside0.mk (Kd.R_lower ho14 (below_size (by repeat (first | (with_reducible first | exact HB.out | apply below_alloc | apply pw_below_drewN | apply below_drew1) | exact HB.out)))); have n2_ := Aside0.mk (below_step (by repeat (first | (with_reducible first | exact HB.out | apply below_alloc | apply pw_below_drewN | apply below_drew1) | exact HB.out)) hb); clear HO167; clear HB; have HO167 := n0_; have HO170 := n1_; have HB := n2_; clear n0_ n1_ n2_; clear hb ho14; have p9 : 0 ≤ (0 : Int) := (by omega); have q9 : (0 : Int) < ((y168.length : Int) : Int) := of_decide_eq_true (by first | (with_reducible assumption) | assumption); have qi9 : (0 < y168.length) = True := eq_true (by omega); obtain ⟨go9, co9, eo9, gb9, gl9, cl9, HG9⟩ := Kd.R_form HO170.out (by omega); (first | cases eo9 | (injection eo9 with ea_ en_ ec_; (first | subst ea_ | (injection ea_ with ea_; subst ea_)); subst ec_; clear en_)); have GB9 := Aside0.mk gb9; have GG9 := Aside0.mk HG9; clear gb9 gl9 HG9; obtain ⟨hx9_0, hf9_0⟩ := Kd.R_celln false HO170.out (0 : Int) p9 q9; (try rw [show ((0 : Int)).toNat = 0 from rfl] at hx9_0); (try simp only [Nat.reduceMul, Nat.zero_mul, Nat.zero_add, Nat.reduceAdd] at hx9_0); (try rw [show ((0 : Int)).toNat = 0 from rfl] at hf9_0); (try simp only [Nat.reduceMul, Nat.zero_mul, Nat.zero_add, Nat.reduceAdd] at hf9_0); replace p9 := eq_true p9; replace q9 := eq_true q9; obtain ⟨hy15_, hz15_⟩ := Kd.R_celln false HO170.out (0 : Int) (by omega) (of_decide_eq_true (by first | (with_reducible assumption) | assumption)); (try simp only [Int.reduceToNat, Int.toNat_zero, Int.toNat_ofNat, Nat.reduceMul, Nat.zero_mul, Nat.zero_add] at hy15_ hz15_); (try rw [show ((0 : Int)).toNat = 0 from rfl] at hy15_); (try rw [show ((0 : Int)).toNat = 0 from rfl] at hz15_); have HP15 := Kd.R_putg HO170.out (0 : Int) true) | ((with_reducible refine gate_store (t := 4) (p := 23) rfl ?_); refine store_event (t := 4) (p := 23) (v := ?vo_w16) (w1 := (w13.setCell ⟨go9, (0 : Int).toNat, none⟩ (.bool true))) ?hg ?ho ?hn ?hr ?_; (case ho => rfl); (case hg => rfl); (case hn => rfl); (case hr => first | (go_simp; done) | (go_simp; rfl)); intro w16 hw; have hg : w13.grownBy w16 (some go9) := (by rw [hw]; exact HP15.2); have hp_ : Kd.R Kd.bool 4 w16 w.heap.size (fun _ => True) (.slice (some ⟨go9, 0, none⟩) y168.length co9) y171 := (by rw [hw, Ny171.out]; exact HP15.1); clear HP15; have n0_ := Aside0.mk (Kd.R_over' (v := (.slice (some ⟨go9, 0, none⟩) y168.length co9)) (by (with_reducible repeat (first | apply Kd.R_alloc | apply Kd.R_drewN | apply Kd.R_drew)); exact HO167.out) (Kd.R_typed HO170.out) (by decide) hg); have n1_ := Aside0.mk (hp_); have n2_ := Aside0.mk ((by rw [hw]; exact below_set (HB.out) GB9.out : Below w.heap.size w w16)); clear HO167; clear HO170; clear HB; have HO167 := n0_; have HO170 := n1_; have HB := n2_; clear n0_ n1_ n2_; clear hg hw hp_) | ((with_reducible refine gate_callee (f := 39) rfl ?_); refine goesL_ (some 26) rfl rfl Try.func39 (by kernel_rfl) rfl #[.slice Ao12 t164.length co12, .slice (some ⟨go9, 0, none⟩) y168.length co9] rfl (by (try simp only [List.map_toArray, List.map_cons, List.map_nil]); first | done | rfl | (simp only [List.length_drop, List.length_take]; rfl)) ?_; (with_reducible refine (glob_free.calls k _ _ t164 (fun k_ => some k_ = (.slice (some ⟨go9, 0, none⟩) y168.length co9 : Value).ownBlock) (.slice (some ⟨go9, 0, none⟩) y168.length co9) y171 t172 w _ ?side1 ?side2 ?side3 ?side4 A10.out).mono ?_); (case side1 => repeat (first | (with_reducible first | exact HB.out | apply below_alloc | apply pw_below_drewN | apply below_drew1) | exact HB.out)); (case side2 => exact Kd.C_kept_own ((Kd.R_apart' HO167.out (Kd.R_typed HO170.out) (by decide))) (fun k_ hk_ hs_ => (hk_.2) hs_)); (case side3 => exact (Kd.R_reads' HO167.out).2.1); (case side4 => exact Kd.R_tight rfl HO170.out); rintro e w17 ⟨rfl, hy0, hb, hkp⟩; refine ⟨_, rfl, ?_⟩; have n0_ := Aside0.mk (Kd.R_mono (ok' := fun k_ => True) (Kd.R_keptB ((Kd.R_apart' HO167.out (Kd.R_typed HO170.out) (by decide))) hkp (fun k_ hk_ hs_ => (hk_.2) hs_)) (fun k_ hk_ => trivial)); have n1_ := Aside0.mk (Kd.R_reok rfl hy0 (fun k_ e_ => HO170.out.1 k_ e_)); have n2_ := Aside0.mk (hb); clear HO167; clear HO170; clear HB; have HO167 := n0_; have HO170 := n1_; have HB := n2_; clear n0_ n1_ n2_; (try clear hb); (try clear hkp); (try clear hy0)))
          go_loopg [7, 29] k (fun kq v7 v29 w' => ∃ (x7_1 : List Bool) (x29_1 : Int), v29 = .int .i64 x29_1 ∧ Aside0 (glob_Match.l0 kq a1 t164 x7_1 (a1.size : Int) x29_1 = some r) ∧ Aside0 (kq ≤ k) ∧ Aside0 (Kd.R k77 77 w' w.heap.size (fun _ => True) (.slice Ao12 t164.length co12) t164) ∧ Aside0 (Kd.R Kd.bool 4 w' w.heap.size (fun _ => True) v7 x7_1) ∧ Aside0 (Below w.heap.size w w'))
          case atStart => exact ⟨(t172), (0), (by first | rfl | (simp; done) | (simp [*]; done)), H', ⟨Nat.le_refl _⟩, ⟨by (with_reducible repeat (first | apply Kd.R_alloc | apply Kd.R_drewN | apply Kd.R_drew)); exact HO167.out⟩, ⟨by (with_reducible repeat (first | apply Kd.R_alloc | apply Kd.R_drewN | apply Kd.R_drew)); exact HO170.out⟩, ⟨by repeat (first | (with_reducible first | exact HB.out | apply below_alloc | apply pw_below_drewN | apply below_drew1) | exact HB.out)⟩⟩
          case round =>
            clear H'
            try clear hji5
            try clear hji5w
            try clear c2
            try clear p2
            try clear c3
            try clear c4
            try clear c6
            try clear c6b0
            try clear c6b1
            try clear p6
            try clear c7
            try clear c7b0
            try clear c7b1
            try clear c8
            try clear c8b0
            try clear c8b1
            try clear p9
            try clear q9
            try clear hx9
            try clear qi9
            try clear hf9
            try clear hx9_0
            try clear p9
            try clear q9
            obtain ⟨x7_1, x29_1, rfl, HA, HK1, HO_5, HO_7, HB⟩ := hrel
            cases gk with
            | zero => exact absurd HA.out (by simp [glob_Match.l0])
            | succ k1 =>
              have H := HA.out
              clear HA
              simp only [glob_Match.l0] at H
              by_cases c18 : x29_1 < (a1.size : Int)
              · rw [if_pos c18] at H
                have c18b0 : decide (x29_1 < (a1.size : Int)) = true := decide_eq_true c18
                clear c18
                obtain ⟨ji19, hji19⟩ : ∃ j_ : Int, (wrap64 ((t164.length : Int) + 1)) = j_ := ⟨_, rfl⟩
                replace H : (if 0 ≤ (ji19) then (if (ji19 : Int).toNat ≤ 281474976710656 then (glob_Match.l1 k1 a1 t164 x7_1 x29_1 (List.replicate (ji19 : Int).toNat false) (a1.size : Int) x29_1 (t164.length : Int) 0) else (none)) else (none)) = some r := by first | (rw [hji19] at H; exact H) | (simp only [hji19] at H ⊢; exact H)
                have hji19w : (IntKind.i64.wrap ((t164.length : Int) + 1)) = ji19 := (i64_w _).trans hji19
                by_cases c20 : 0 ≤ (ji19)
                · rw [if_pos c20] at H
                  have c20b0 := eq_true c20
                  have c20b1 : decide (0 ≤ (ji19)) = true := decide_eq_true c20
                  clear c20
                  by_cases c21 : (ji19 : Int).toNat ≤ 281474976710656
                  · rw [if_pos c21] at H
                    have c21b0 := eq_true c21
                    have c21b1 : decide ((ji19 : Int).toNat ≤ 281474976710656) = true := decide_eq_true c21
                    clear c21
                    obtain ⟨y174, hy174⟩ : ∃ y_ : List Bool, y_ = (List.replicate (ji19 : Int).toNat false) := ⟨_, rfl⟩
                    replace H : (glob_Match.l1 k1 a1 t164 x7_1 x29_1 y174 (a1.size : Int) x29_1 (t164.length : Int) 0) = some r := by first | (rw [hy174]; with_reducible exact H) | (have H2_ := (Option.bind_some _ _).symm.trans H; rw [hy174]; with_reducible exact H2_) | (have H2_ := (Option.bind_some _ _).symm.trans H; with_reducible exact H2_) | with_reducible exact H | (rw [hy174]; exact H) | exact H
                    have Ny174 := Aside0.mk hy174
                    clear hy174
                    have H' := Aside0.mk H
                    clear H
                    go_wp2_with (first | ((with_reducible refine gate_dst (N := 35) rfl ?_); refine Kd.R_make Kd.bool _ 4 rfl (N := 35) rfl 74 _ _ rfl ji19 rfl rfl Try.underlying74 (.bool false) 1 info4 rfl (by decide) (by omega) false (ok := fun _ => True) (okp := fun _ => True) rfl (fun _ hk => hk) trivial (of_decide_eq_true (by first | (with_reducible assumption) | assumption)) (Nat.le_trans (Nat.mul_le_mul_right _ (of_decide_eq_true (by first | (with_reducible assumption) | assumption) : ji19.toNat ≤ 281474976710656)) (by omega)) (Below.refl _ _) (Nat.le_refl _) ?_; intro v175 w22 ho23 hb hg_ hnew_; clear hg_ hnew_; (first | rw [← Ny174.out] at ho23 | (simp only [Int.reduceToNat] at ho23; rw [← Ny174.out] at ho23)); have n0_ := Aside0.mk (Kd.R_below (by (with_reducible repeat (first | apply Kd.R_alloc | apply Kd.R_drewN | apply Kd.R_drew)); exact HO_5.out) hb); have n1_ := Aside0.mk (Kd.R_elder' (by (with_reducible repeat (first | apply Kd.R_alloc | apply Kd.R_drewN | apply Kd.R_drew)); exact HO_7.out) (Kd.R_base ho23) hb); have n2_ := Aside0.mk (Kd.R_lower (Kd.R_new' ho23 (Kd.R_lt (by (with_reducible repeat (first | apply Kd.R_alloc | apply Kd.R_drewN | apply Kd.R_drew)); exact HO_7.out))) (below_size (by repeat (first | (with_reducible first | exact HB.out | apply below_alloc | apply pw_below_drewN | apply below_drew1) | exact HB.out)))); have n3_ := Aside0.mk (below_step (by repeat (first | (with_reducible first | exact HB.out | apply below_alloc | apply pw_below_drewN | apply below_drew1) | exact HB.out)) hb); clear HO_5; clear HO_7; clear HB; have HO_5 := n0_; have HO_7 := n1_; have HO176 := n2_; have HB := n3_; clear n0_ n1_ n2_ n3_; clear hb ho23))
                    go_loopg [38] k1 (fun kq v38 w' => ∃ (x9_2 : List Bool) (x38_2 : Int), v38 = .int .i64 x38_2 ∧ Aside0 (glob_Match.l1 kq a1 t164 x7_1 x29_1 x9_2 (a1.size : Int) x29_1 (t164.length : Int) x38_2 = some r) ∧ Aside0 (kq ≤ k1) ∧ Aside0 (Kd.R k77 77 w' w.heap.size (fun _ => True) (.slice Ao12 t164.length co12) t164) ∧ Aside0 (Kd.R Kd.bool 4 w' w.heap.size (fun k_ => some k_ ≠ (v175 : Value).ownBlock) u7 x7_1) ∧ Aside0 (Kd.R Kd.bool 4 w' w.heap.size (fun k_ => some k_ ≠ (u7 : Value).ownBlock) v175 x9_2) ∧ Aside0 (Below w.heap.size w w'))
                    case atStart => exact ⟨(y174), (0), (by first | rfl | (simp; done) | (simp [*]; done)), H', ⟨Nat.le_refl _⟩, ⟨by (with_reducible repeat (first | apply Kd.R_alloc | apply Kd.R_drewN | apply Kd.R_drew)); exact HO_5.out⟩, ⟨by (with_reducible repeat (first | apply Kd.R_alloc | apply Kd.R_drewN | apply Kd.R_drew)); exact Kd.R_mono HO_7.out (fun _ hk => hk.2)⟩, ⟨by (with_reducible repeat (first | apply Kd.R_alloc | apply Kd.R_drewN | apply Kd.R_drew)); exact Kd.R_mono HO176.out (fun _ hk => hk.2)⟩, ⟨by repeat (first | (with_reducible first | exact HB.out | apply below_alloc | apply pw_below_drewN | apply below_drew1) | exact HB.out)⟩⟩
                    case round =>
                      clear H'
                      try clear hji5
                      try clear hji5w
                      try clear hji19
                      try clear hji19w
                      try clear c1
                      try clear c2
                      try clear p2
                      try clear c3
                      try clear c4
                      try clear c6
                      try clear c6b0
                      try clear c6b1
                      try clear p6
                      try clear c7
                      try clear c7b0
                      try clear c7b1
                      try clear c8
                      try clear c8b0
                      try clear c8b1
                      try clear p9
                      try clear q9
                      try clear hx9
                      try clear qi9
                      try clear hf9
                      try clear c18
                      try clear c18b0
                      try clear c20
                      try clear c20b0
                      try clear c20b1
                      try clear c21
                      try clear c21b0
                      try clear c21b1
                      try clear hx9_0
                      try clear p2
                      try clear p6
                      try clear p9
                      try clear q9
                      obtain ⟨x9_2, x38_2, rfl, HA, HK2, HO_5, HO_7, HO_9, HB⟩ := hrel
                      cases gk with
                      | zero => exact absurd HA.out (by simp [glob_Match.l1])
                      | succ k2 =>
                        have H := HA.out
                        clear HA
                        simp only [glob_Match.l1] at H
                        by_cases c24 : x38_2 < (t164.length : Int)
                        · rw [if_pos c24] at H
                          have c24b0 : decide (x38_2 < (t164.length : Int)) = true := decide_eq_true c24
                          clear c24
                          have HC25 := Aside0.mk H
                          clear H
                          go_upto_region 14 with (fail)
                          go_cut [54] (fun v54 wc => ∃ (kq : Nat) (x54_24 : Bool), v54 = .bool x54_24 ∧ Aside0 (glob_Match.j2 kq a1 t164 x7_1 x29_1 x9_2 x38_2 (a1.size : Int) x29_1 (t164.length : Int) x38_2 x54_24 = some r) ∧ Aside0 (kq ≤ k2) ∧ Aside0 (Kd.R k77 77 wc w.heap.size (fun _ => True) (.slice Ao12 t164.length co12) t164) ∧ Aside0 (Kd.R Kd.bool 4 wc w.heap.size (fun k_ => some k_ ≠ (v175 : Value).ownBlock) u7 x7_1) ∧ Aside0 (Kd.R Kd.bool 4 wc w.heap.size (fun k_ => some k_ ≠ (u7 : Value).ownBlock) v175 x9_2) ∧ Aside0 (Below w.heap.size w wc))
                          case first =>
                            have H := HC25.out
                            clear HC25
                            by_cases c26 : 0 ≤ x38_2
                            · rw [if_pos c26] at H
                              have c26b0 : decide (0 ≤ x38_2) = true := decide_eq_true c26
                              clear c26
                              (first | rw [c26b0] | (simp only [i64_w, i32_w]; rw [c26b0]) | skip)
                              by_cases c27 : x38_2 < (x7_1.length : Int)
                              · rw [if_pos c27] at H
                                have c27b0 : decide (x38_2 < (x7_1.length : Int)) = true := decide_eq_true c27
                                clear c27
                                obtain ⟨bq28, hbq28⟩ : ∃ b_ : Bool, b_ = (rdOf false x7_1 x38_2) := ⟨_, rfl⟩
                                replace H : (if bq28 = true then (if x38_2 < (t164.length : Int) then (if 0 ≤ x29_1 then (if x29_1 < (a1.size : Int) then ((glob_part_takes.f ((rd_T77 t164 x38_2).f0) ((rd_T77 t164 x38_2).f1) (bt a1 x29_1)).bind fun t179 => (glob_Match.j2 k2 a1 t164 x7_1 x29_1 x9_2 x38_2 (a1.size : Int) x29_1 (t164.length : Int) x38_2 t179)) else (none)) else (none)) else (none)) else (glob_Match.j2 k2 a1 t164 x7_1 x29_1 x9_2 x38_2 (a1.size : Int) x29_1 (t164.length : Int) x38_2 false)) = some r := by rw [← hbq28] at H; exact H
                                have Nbq28 := Aside0.mk hbq28
                                clear hbq28
                                by_cases c29 : bq28 = true
                                · subst c29
                                  have H1 : (if x38_2 < (t164.length : Int) then (if 0 ≤ x29_1 then (if x29_1 < (a1.size : Int) then ((glob_part_takes.f ((rd_T77 t164 x38_2).f0) ((rd_T77 t164 x38_2).f1) (bt a1 x29_1)).bind fun t179 => (glob_Match.j2 k2 a1 t164 x7_1 x29_1 x9_2 x38_2 (a1.size : Int) x29_1 (t164.length : Int) x38_2 t179)) else (none)) else (none)) else (none)) = some r := by rw [if_pos rfl] at H; exact H
                                  clear H
                                  have H := H1
                                  clear H1
                                  by_cases c30 : x38_2 < (t164.length : Int)
                                  · rw [if_pos c30] at H
                                    have c30b0 : decide (x38_2 < (t164.length : Int)) = true := decide_eq_true c30
                                    clear c30
                                    by_cases c31 : 0 ≤ x29_1
                                    · rw [if_pos c31] at H
                                      have c31b0 : decide (0 ≤ x29_1) = true := decide_eq_true c31
                                      clear c31
                                      by_cases c32 : x29_1 < (a1.size : Int)
                                      · rw [if_pos c32] at H
                                        have c32b0 : decide (x29_1 < (a1.size : Int)) = true := decide_eq_true c32
                                        clear c32
                                        replace H := Option.bind_eq_some_iff.mp H
                                        obtain ⟨t179, A340, H⟩ := H
                                        replace H : (glob_Match.j2 k2 a1 t164 x7_1 x29_1 x9_2 x38_2 (a1.size : Int) x29_1 (t164.length : Int) x38_2 t179) = some r := H
                                        have A34 := Aside0.mk A340
                                        clear A340
                                        have H' := Aside0.mk H
                                        clear H
                                        try go_wp2
                                        have n0_ := Aside0.mk (Kd.R_drew HO_5.out)
                                        have n1_ := Aside0.mk (Kd.R_drew HO_7.out)
                                        have n2_ := Aside0.mk (Kd.R_drew HO_9.out)
                                        have n3_ := Aside0.mk (below_drew1 HB.out)
                                        clear HO_5
                                        clear HO_7
                                        clear HO_9
                                        clear HB
                                        have HO_5 := n0_
                                        have HO_7 := n1_
                                        have HO_9 := n2_
                                        have HB := n3_
                                        clear n0_ n1_ n2_ n3_
                                        obtain ⟨Ao36, co36, eo36⟩ := Kd.R_slice HO_7.out
                                        (first | subst eo36 | (injection eo36 with f1_ f2_ f3_; have f4_ := f1_.symm; have f5_ := f3_.symm; clear f1_ f2_ f3_; subst f4_; subst f5_))
                                        have p177 : 0 ≤ (x38_2 : Int) := of_decide_eq_true (by first | (with_reducible assumption) | assumption)
                                        have q177 : x38_2 < (x7_1.length : Int) := of_decide_eq_true (by first | (with_reducible assumption) | assumption)
                                        obtain ⟨ad177, e177, hx177_0⟩ := Kd.at_bool (Kd.R_reads' HO_7.out).2.2 x38_2 p177 q177
                                        (try rw [← Nbq28.out] at hx177_0)
                                        cases e177
                                        replace p177 := eq_true p177
                                        replace q177 := eq_true q177
                                        have p178 : 0 ≤ (x38_2 : Int) := of_decide_eq_true (by first | (with_reducible assumption) | assumption)
                                        have q178 : x38_2 < (t164.length : Int) := of_decide_eq_true (by first | (with_reducible assumption) | assumption)
                                        obtain ⟨ad178, e178, hx178_0, hx178_1⟩ := at_T77 (Kd.R_reads' HO_5.out).2.2 x38_2 p178 q178
                                        cases e178
                                        replace p178 := eq_true p178
                                        replace q178 := eq_true q178
                                        have p33 : 0 ≤ (x29_1 : Int) := of_decide_eq_true (by first | (with_reducible assumption) | assumption)
                                        have q33 : x29_1 < (a1.size : Int) := of_decide_eq_true (by first | (with_reducible assumption) | assumption)
                                        have hx33 := bt_at a1 x29_1
                                        replace p33 := eq_true p33
                                        replace q33 := eq_true q33
                                        refine start_ (n := 14) (S := fun w' => w'.cell? (ad177.add (x38_2).toNat) = some (.bool true) ∧ w'.cell? (ad178.add ((x38_2).toNat * 2)) = some (.int .i64 ((rd_T77 t164 x38_2).f0)) ∧ w'.cell? ⟨(ad178.add ((x38_2).toNat * 2)).block, (ad178.add ((x38_2).toNat * 2)).off + 1, none⟩ = some (.int .u8 ((rd_T77 t164 x38_2).f1))) (ds := []) #[false, false, false, false, false, false, false, false, false, false, false, false, false, false] (by kernel_rfl) rfl rfl ⟨hx177_0, hx178_0, hx178_1⟩ (fun hHeld => ?_); refine with_tabW glob_Match.tab14 glob_Match.bits14 (fun HT_ HW_ => ?_)
                                        generalize wr.drew = w35 at HO_5 HO_7 HO_9 HB hx177_0 hx178_0 hx178_1 hHeld ⊢
                                        refine pure_ (i := 0) (N := some 41) (v := ?_) (a' := ?_) #[true, false, false, false, false, false, false, false, false, false, false, false, false, false] rfl rfl (any_of HT_.out (by kernel_rfl)) (fun _ _ _ h => h) (Or.inl ⟨by rfl, ?_⟩) ?_ ?_
                                        rotate_left
                                        · intro w'
                                          (try simp only [IntKind.wrap_u8])
                                          go_simp
                                          with_reducible rfl
                                        rotate_left
                                        · simp only [Act.put, List.setIfInBounds_toArray, List.set_cons_zero, List.set_cons_succ, i64_w, i32_w]
                                          rfl
                                        refine pure_ (i := 1) (N := some 42) (v := ?_) (a' := ?_) #[true, true, false, false, false, false, false, false, false, false, false, false, false, false] rfl rfl (any_of HT_.out (by kernel_rfl)) (fun _ _ _ h => h) (Or.inl ⟨by rfl, ?_⟩) ?_ ?_
                                        rotate_left
                                        · intro w'
                                          (try simp only [IntKind.wrap_u8])
                                          go_simp
                                          with_reducible rfl
                                        rotate_left
                                        · simp only [Act.put, List.setIfInBounds_toArray, List.set_cons_zero, List.set_cons_succ, i64_w, i32_w]
                                          rfl
                                        refine pure_ (i := 2) (N := some 43) (v := ?_) (a' := ?_) #[true, true, true, false, false, false, false, false, false, false, false, false, false, false] rfl rfl (any_of HT_.out (by kernel_rfl)) (fun _ _ _ h => h) (Or.inl ⟨by rfl, ?_⟩) ?_ ?_
                                        rotate_left
                                        · intro w'
                                          (try simp only [IntKind.wrap_u8])
                                          go_simp
                                          with_reducible rfl
                                        rotate_left
                                        · simp only [Act.put, List.setIfInBounds_toArray, List.set_cons_zero, List.set_cons_succ, i64_w, i32_w]
                                          rfl
                                        refine take_ (i := 3) (N := some 44) (v := ?_) (a' := ?_) #[true, true, true, true, false, false, false, false, false, false, false, false, false, false] rfl rfl (take_ofW HT_.out HW_.out (by kernel_rfl)) (fun _ _ _ h => h) (Or.inl ⟨by rfl, ?_⟩) hHeld ?_ ?_
                                        rotate_left
                                        · rintro w' ⟨s0, s1, s2⟩
                                          go_simp
                                          with_reducible rfl
                                        rotate_left
                                        · simp only [Act.put, List.setIfInBounds_toArray, List.set_cons_zero, List.set_cons_succ, i64_w, i32_w]
                                          rfl
                                        refine pure_ (i := 4) (N := some 45) (v := ?_) (a' := ?_) #[true, true, true, true, true, false, false, false, false, false, false, false, false, false] rfl rfl (any_of HT_.out (by kernel_rfl)) (fun _ _ _ h => h) (Or.inl ⟨by rfl, ?_⟩) ?_ ?_
                                        rotate_left
                                        · intro w'
                                          (try simp only [IntKind.wrap_u8])
                                          go_simp
                                          with_reducible rfl
                                        rotate_left
                                        · simp only [Act.put, List.setIfInBounds_toArray, List.set_cons_zero, List.set_cons_succ, i64_w, i32_w]
                                          rfl
                                        refine pure_ (i := 5) (N := some 46) (v := ?_) (a' := ?_) #[true, true, true, true, true, true, false, false, false, false, false, false, false, false] rfl rfl (any_of HT_.out (by kernel_rfl)) (fun _ _ _ h => h) (Or.inl ⟨by rfl, ?_⟩) ?_ ?_
                                        rotate_left
                                        · intro w'
                                          (try simp only [IntKind.wrap_u8])
                                          go_simp
                                          with_reducible rfl
                                        rotate_left
                                        · simp only [Act.put, List.setIfInBounds_toArray, List.set_cons_zero, List.set_cons_succ, i64_w, i32_w]
                                          rfl
                                        refine pure_ (i := 6) (N := some 47) (v := ?_) (a' := ?_) #[true, true, true, true, true, true, true, false, false, false, false, false, false, false] rfl rfl (any_of HT_.out (by kernel_rfl)) (fun _ _ _ h => h) (Or.inl ⟨by rfl, ?_⟩) ?_ ?_
                                        rotate_left
                                        · intro w'
                                          (try simp only [IntKind.wrap_u8])
                                          go_simp
                                          with_reducible rfl
                                        rotate_left
                                        · simp only [Act.put, List.setIfInBounds_toArray, List.set_cons_zero, List.set_cons_succ, i64_w, i32_w]
                                          rfl
                                        refine pure_ (i := 7) (N := some 48) (v := ?_) (a' := ?_) #[true, true, true, true, true, true, true, true, false, false, false, false, false, false] rfl rfl (any_of HT_.out (by kernel_rfl)) (fun _ _ _ h => h) (Or.inl ⟨by rfl, ?_⟩) ?_ ?_
                                        rotate_left
                                        · intro w'
                                          (try simp only [IntKind.wrap_u8])
                                          go_simp
                                          with_reducible rfl
                                        rotate_left
                                        · simp only [Act.put, List.setIfInBounds_toArray, List.set_cons_zero, List.set_cons_succ, i64_w, i32_w]
                                          rfl
                                        refine pure_ (i := 9) (N := some 50) (v := ?_) (a' := ?_) #[true, true, true, true, true, true, true, true, false, true, false, false, false, false] rfl rfl (any_of HT_.out (by kernel_rfl)) (fun _ _ _ h => h) (Or.inl ⟨by rfl, ?_⟩) ?_ ?_
                                        rotate_left
                                        · intro w'
                                          (try simp only [IntKind.wrap_u8])
                                          go_simp
                                          with_reducible rfl
                                        rotate_left
                                        · simp only [Act.put, List.setIfInBounds_toArray, List.set_cons_zero, List.set_cons_succ, i64_w, i32_w]
                                          rfl
                                        refine pure_ (i := 10) (N := some 51) (v := ?_) (a' := ?_) #[true, true, true, true, true, true, true, true, false, true, true, false, false, false] rfl rfl (any_of HT_.out (by kernel_rfl)) (fun _ _ _ h => h) (Or.inl ⟨by rfl, ?_⟩) ?_ ?_
                                        rotate_left
                                        · intro w'
                                          (try simp only [IntKind.wrap_u8])
                                          go_simp
                                          with_reducible rfl
                                        rotate_left
                                        · simp only [Act.put, List.setIfInBounds_toArray, List.set_cons_zero, List.set_cons_succ, i64_w, i32_w]
                                          rfl
                                        refine take_ (i := 8) (N := some 49) (v := ?_) (a' := ?_) #[true, true, true, true, true, true, true, true, true, true, true, false, false, false] rfl rfl (take_ofW HT_.out HW_.out (by kernel_rfl)) (fun _ _ _ h => h) (Or.inl ⟨by rfl, ?_⟩) hHeld ?_ ?_
                                        rotate_left
                                        · rintro w' ⟨s0, s1, s2⟩
                                          go_simp
                                          with_reducible rfl
                                        rotate_left
                                        · simp only [Act.put, List.setIfInBounds_toArray, List.set_cons_zero, List.set_cons_succ, i64_w, i32_w]
                                          rfl
                                        refine take_ (i := 11) (N := some 52) (v := ?_) (a' := ?_) #[true, true, true, true, true, true, true, true, true, true, true, true, false, false] rfl rfl (take_ofW HT_.out HW_.out (by kernel_rfl)) (fun _ _ _ h => h) (Or.inl ⟨by rfl, ?_⟩) hHeld ?_ ?_
                                        rotate_left
                                        · rintro w' ⟨s0, s1, s2⟩
                                          go_simp
                                          with_reducible rfl
                                        rotate_left
                                        · simp only [Act.put, List.setIfInBounds_toArray, List.set_cons_zero, List.set_cons_succ, i64_w, i32_w]
                                          rfl
                                        refine one_ (i := 12) (N := some 53) #[true, true, true, true, true, true, true, true, true, true, true, true, true, false] rfl rfl (one_of HT_.out (by kernel_rfl)) (by decide) (fun K hK => ?_)
                                        refine goes_ Try.func40 (by kernel_rfl) rfl #[.agg #[.int .i64 ((rd_T77 t164 x38_2).f0), .int .u8 ((rd_T77 t164 x38_2).f1)], .int .u8 (bt a1 x29_1)] (by rfl) rfl rfl (by (try simp only [List.map_toArray, List.map_cons, List.map_nil]); first | done | rfl | (simp only [List.length_drop, List.length_take]; rfl)) ?_
                                        with_reducible refine (glob_part_takes.calls ((rd_T77 t164 x38_2).f0) ((rd_T77 t164 x38_2).f1) (bt a1 x29_1) t179 _ A34.out).mono ?_
                                        rintro e w37 ⟨rfl, hb⟩
                                        have HS0_ := (hb.cell (World.block_lt_of_cell? _ _ (hHeld.1))).trans (hHeld.1)
                                        have HS1_ := (hb.cell (World.block_lt_of_cell? _ _ (hHeld.2.1))).trans (hHeld.2.1)
                                        have HS2_ := (hb.cell (World.block_lt_of_cell? _ _ (hHeld.2.2))).trans (hHeld.2.2)
                                        refine ⟨_, rfl, ?_⟩
                                        have n0_ := Aside0.mk (Kd.R_below (by (with_reducible repeat (first | apply Kd.R_alloc | apply Kd.R_drewN | apply Kd.R_drew)); exact HO_5.out) hb)
                                        have n1_ := Aside0.mk (Kd.R_below (by (with_reducible repeat (first | apply Kd.R_alloc | apply Kd.R_drewN | apply Kd.R_drew)); exact HO_7.out) hb)
                                        have n2_ := Aside0.mk (Kd.R_below (by (with_reducible repeat (first | apply Kd.R_alloc | apply Kd.R_drewN | apply Kd.R_drew)); exact HO_9.out) hb)
                                        have n3_ := Aside0.mk (below_step (by repeat (first | (with_reducible first | exact HB.out | apply below_alloc | apply pw_below_drewN | apply below_drew1) | exact HB.out)) hb)
                                        clear HO_5
                                        clear HO_7
                                        clear HO_9
                                        clear HB
                                        have HO_5 := n0_
                                        have HO_7 := n1_
                                        have HO_9 := n2_
                                        have HB := n3_
                                        clear n0_ n1_ n2_ n3_
                                        (try clear hb)
                                        (try clear hb2)
                                        (try clear hk)
                                        (try clear hi)
                                        refine hK.out _ _ ⟨HS0_, HS1_, HS2_⟩ (fun hHeld => ?_)
                                        clear hK K
                                        refine norm_ (a' := ?_) ?_ ?_
                                        rotate_left
                                        · show Act.put _ (some 53) _ = _
                                          simp only [Act.put, List.setIfInBounds_toArray, List.set_cons_zero, List.set_cons_succ, i64_w, i32_w]
                                          rfl
                                        refine pure_ (i := 13) (N := some 54) (v := ?_) (a' := ?_) #[true, true, true, true, true, true, true, true, true, true, true, true, true, true] rfl rfl (any_of HT_.out (by kernel_rfl)) (fun _ _ _ h => h) (Or.inl ⟨by rfl, ?_⟩) ?_ ?_
                                        rotate_left
                                        · intro w'
                                          (try simp only [IntKind.wrap_u8])
                                          go_simp
                                          with_reducible rfl
                                        rotate_left
                                        · simp only [Act.put, List.setIfInBounds_toArray, List.set_cons_zero, List.set_cons_succ, i64_w, i32_w]
                                          rfl
                                        refine done_ (done_of HT_.out (by kernel_rfl)) ?_
                                        try go_wp2
                                        go_meet
                                        case rel => exact ⟨_, (t179), (by first | rfl | (simp; done) | (simp [*]; done)), H', ⟨by have := HK1.out; have := HK2.out; first | omega | exact Nat.le_refl _⟩, ⟨by (with_reducible repeat (first | apply Kd.R_alloc | apply Kd.R_drewN | apply Kd.R_drew)); exact HO_5.out⟩, ⟨by (with_reducible repeat (first | apply Kd.R_alloc | apply Kd.R_drewN | apply Kd.R_drew)); exact HO_7.out⟩, ⟨by (with_reducible repeat (first | apply Kd.R_alloc | apply Kd.R_drewN | apply Kd.R_drew)); exact HO_9.out⟩, ⟨by repeat (first | (with_reducible first | exact HB.out | apply below_alloc | apply pw_below_drewN | apply below_drew1) | exact HB.out)⟩⟩
                                      · rw [if_neg c32] at H
                                        exact absurd H (by simp)
                                    · rw [if_neg c31] at H
                                      exact absurd H (by simp)
                                  · rw [if_neg c30] at H
                                    exact absurd H (by simp)
                                · replace c29 := Bool.eq_false_iff.mpr c29
                                  subst c29
                                  have H1 : (glob_Match.j2 k2 a1 t164 x7_1 x29_1 x9_2 x38_2 (a1.size : Int) x29_1 (t164.length : Int) x38_2 false) = some r := by rw [if_neg (show ¬ (false = true) by decide)] at H; exact H
                                  clear H
                                  have H := H1
                                  clear H1
                                  have H' := Aside0.mk H
                                  clear H
                                  try go_wp2
                                  have n0_ := Aside0.mk (Kd.R_drew HO_5.out)
                                  have n1_ := Aside0.mk (Kd.R_drew HO_7.out)
                                  have n2_ := Aside0.mk (Kd.R_drew HO_9.out)
                                  have n3_ := Aside0.mk (below_drew1 HB.out)
                                  clear HO_5
                                  clear HO_7
                                  clear HO_9
                                  clear HB
                                  have HO_5 := n0_
                                  have HO_7 := n1_
                                  have HO_9 := n2_
                                  have HB := n3_
                                  clear n0_ n1_ n2_ n3_
                                  obtain ⟨Ao39, co39, eo39⟩ := Kd.R_slice HO_7.out
                                  (first | subst eo39 | (injection eo39 with f1_ f2_ f3_; have f4_ := f1_.symm; have f5_ := f3_.symm; clear f1_ f2_ f3_; subst f4_; subst f5_))
                                  have p177 : 0 ≤ (x38_2 : Int) := of_decide_eq_true (by first | (with_reducible assumption) | assumption)
                                  have q177 : x38_2 < (x7_1.length : Int) := of_decide_eq_true (by first | (with_reducible assumption) | assumption)
                                  obtain ⟨ad177, e177, hx177_0⟩ := Kd.at_bool (Kd.R_reads' HO_7.out).2.2 x38_2 p177 q177
                                  (try rw [← Nbq28.out] at hx177_0)
                                  cases e177
                                  replace p177 := eq_true p177
                                  replace q177 := eq_true q177
                                  refine start_ (n := 14) (S := fun w' => w'.cell? (ad177.add (x38_2).toNat) = some (.bool false)) (ds := []) #[false, false, false, false, false, false, false, false, false, false, false, false, false, false] (by kernel_rfl) rfl rfl (hx177_0) (fun hHeld => ?_); refine with_tabW glob_Match.tab14 glob_Match.bits14 (fun HT_ HW_ => ?_)
                                  generalize wr.drew = w38 at HO_5 HO_7 HO_9 HB hx177_0 hHeld ⊢
                                  refine pure_ (i := 0) (N := some 41) (v := ?_) (a' := ?_) #[true, false, false, false, false, false, false, false, false, false, false, false, false, false] rfl rfl (any_of HT_.out (by kernel_rfl)) (fun _ _ _ h => h) (Or.inl ⟨by rfl, ?_⟩) ?_ ?_
                                  rotate_left
                                  · intro w'
                                    (try simp only [IntKind.wrap_u8])
                                    go_simp
                                    with_reducible rfl
                                  rotate_left
                                  · simp only [Act.put, List.setIfInBounds_toArray, List.set_cons_zero, List.set_cons_succ, i64_w, i32_w]
                                    rfl
                                  refine pure_ (i := 1) (N := some 42) (v := ?_) (a' := ?_) #[true, true, false, false, false, false, false, false, false, false, false, false, false, false] rfl rfl (any_of HT_.out (by kernel_rfl)) (fun _ _ _ h => h) (Or.inl ⟨by rfl, ?_⟩) ?_ ?_
                                  rotate_left
                                  · intro w'
                                    (try simp only [IntKind.wrap_u8])
                                    go_simp
                                    with_reducible rfl
                                  rotate_left
                                  · simp only [Act.put, List.setIfInBounds_toArray, List.set_cons_zero, List.set_cons_succ, i64_w, i32_w]
                                    rfl
                                  refine pure_ (i := 2) (N := some 43) (v := ?_) (a' := ?_) #[true, true, true, false, false, false, false, false, false, false, false, false, false, false] rfl rfl (any_of HT_.out (by kernel_rfl)) (fun _ _ _ h => h) (Or.inl ⟨by rfl, ?_⟩) ?_ ?_
                                  rotate_left
                                  · intro w'
                                    (try simp only [IntKind.wrap_u8])
                                    go_simp
                                    with_reducible rfl
                                  rotate_left
                                  · simp only [Act.put, List.setIfInBounds_toArray, List.set_cons_zero, List.set_cons_succ, i64_w, i32_w]
                                    rfl
                                  refine take_ (i := 3) (N := some 44) (v := ?_) (a' := ?_) #[true, true, true, true, false, false, false, false, false, false, false, false, false, false] rfl rfl (take_ofW HT_.out HW_.out (by kernel_rfl)) (fun _ _ _ h => h) (Or.inl ⟨by rfl, ?_⟩) hHeld ?_ ?_
                                  rotate_left
                                  · intro w' s0
                                    go_simp
                                    with_reducible rfl
                                  rotate_left
                                  · simp only [Act.put, List.setIfInBounds_toArray, List.set_cons_zero, List.set_cons_succ, i64_w, i32_w]
                                    rfl
                                  refine pure_ (i := 4) (N := some 45) (v := ?_) (a' := ?_) #[true, true, true, true, true, false, false, false, false, false, false, false, false, false] rfl rfl (any_of HT_.out (by kernel_rfl)) (fun _ _ _ h => h) (Or.inl ⟨by rfl, ?_⟩) ?_ ?_
                                  rotate_left
                                  · intro w'
                                    (try simp only [IntKind.wrap_u8])
                                    go_simp
                                    with_reducible rfl
                                  rotate_left
                                  · simp only [Act.put, List.setIfInBounds_toArray, List.set_cons_zero, List.set_cons_succ, i64_w, i32_w]
                                    rfl
                                  refine pure_ (i := 5) (N := some 46) (v := undef) (a' := ?_) #[true, true, true, true, true, true, false, false, false, false, false, false, false, false] rfl rfl (any_of HT_.out (by kernel_rfl)) (fun _ _ _ h => h) (Or.inr ⟨by rfl, rfl⟩) ?_ ?_
                                  rotate_left
                                  · simp only [Act.put, List.setIfInBounds_toArray, List.set_cons_zero, List.set_cons_succ, i64_w, i32_w]
                                    rfl
                                  refine pure_ (i := 6) (N := some 47) (v := undef) (a' := ?_) #[true, true, true, true, true, true, true, false, false, false, false, false, false, false] rfl rfl (any_of HT_.out (by kernel_rfl)) (fun _ _ _ h => h) (Or.inr ⟨by rfl, rfl⟩) ?_ ?_
                                  rotate_left
                                  · simp only [Act.put, List.setIfInBounds_toArray, List.set_cons_zero, List.set_cons_succ, i64_w, i32_w]
                                    rfl
                                  refine pure_ (i := 7) (N := some 48) (v := undef) (a' := ?_) #[true, true, true, true, true, true, true, true, false, false, false, false, false, false] rfl rfl (any_of HT_.out (by kernel_rfl)) (fun _ _ _ h => h) (Or.inr ⟨by rfl, rfl⟩) ?_ ?_
                                  rotate_left
                                  · simp only [Act.put, List.setIfInBounds_toArray, List.set_cons_zero, List.set_cons_succ, i64_w, i32_w]
                                    rfl
                                  refine pure_ (i := 8) (N := some 49) (v := undef) (a' := ?_) #[true, true, true, true, true, true, true, true, true, false, false, false, false, false] rfl rfl (any_of HT_.out (by kernel_rfl)) (fun _ _ _ h => h) (Or.inr ⟨by rfl, rfl⟩) ?_ ?_
                                  rotate_left
                                  · simp only [Act.put, List.setIfInBounds_toArray, List.set_cons_zero, List.set_cons_succ, i64_w, i32_w]
                                    rfl
                                  refine pure_ (i := 9) (N := some 50) (v := undef) (a' := ?_) #[true, true, true, true, true, true, true, true, true, true, false, false, false, false] rfl rfl (any_of HT_.out (by kernel_rfl)) (fun _ _ _ h => h) (Or.inr ⟨by rfl, rfl⟩) ?_ ?_
                                  rotate_left
                                  · simp only [Act.put, List.setIfInBounds_toArray, List.set_cons_zero, List.set_cons_succ, i64_w, i32_w]
                                    rfl
                                  refine pure_ (i := 10) (N := some 51) (v := undef) (a' := ?_) #[true, true, true, true, true, true, true, true, true, true, true, false, false, false] rfl rfl (any_of HT_.out (by kernel_rfl)) (fun _ _ _ h => h) (Or.inr ⟨by rfl, rfl⟩) ?_ ?_
                                  rotate_left
                                  · simp only [Act.put, List.setIfInBounds_toArray, List.set_cons_zero, List.set_cons_succ, i64_w, i32_w]
                                    rfl
                                  refine pure_ (i := 11) (N := some 52) (v := undef) (a' := ?_) #[true, true, true, true, true, true, true, true, true, true, true, true, false, false] rfl rfl (any_of HT_.out (by kernel_rfl)) (fun _ _ _ h => h) (Or.inr ⟨by rfl, rfl⟩) ?_ ?_
                                  rotate_left
                                  · simp only [Act.put, List.setIfInBounds_toArray, List.set_cons_zero, List.set_cons_succ, i64_w, i32_w]
                                    rfl
                                  refine pure_ (i := 12) (N := some 53) (v := undef) (a' := ?_) #[true, true, true, true, true, true, true, true, true, true, true, true, true, false] rfl rfl (any_of HT_.out (by kernel_rfl)) (fun _ _ _ h => h) (Or.inr ⟨by rfl, rfl⟩) ?_ ?_
                                  rotate_left
                                  · simp only [Act.put, List.setIfInBounds_toArray, List.set_cons_zero, List.set_cons_succ, i64_w, i32_w]
                                    rfl
                                  refine pure_ (i := 13) (N := some 54) (v := ?_) (a' := ?_) #[true, true, true, true, true, true, true, true, true, true, true, true, true, true] rfl rfl (any_of HT_.out (by kernel_rfl)) (fun _ _ _ h => h) (Or.inl ⟨by rfl, ?_⟩) ?_ ?_
                                  rotate_left
                                  · intro w'
                                    (try simp only [IntKind.wrap_u8])
                                    go_simp
                                    with_reducible rfl
                                  rotate_left
                                  · simp only [Act.put, List.setIfInBounds_toArray, List.set_cons_zero, List.set_cons_succ, i64_w, i32_w]
                                    rfl
                                  refine done_ (done_of HT_.out (by kernel_rfl)) ?_
                                  try go_wp2
                                  go_meet
                                  case rel => exact ⟨_, (false), (by first | rfl | (simp; done) | (simp [*]; done)), H', ⟨by have := HK1.out; have := HK2.out; first | omega | exact Nat.le_refl _⟩, ⟨by (with_reducible repeat (first | apply Kd.R_alloc | apply Kd.R_drewN | apply Kd.R_drew)); exact HO_5.out⟩, ⟨by (with_reducible repeat (first | apply Kd.R_alloc | apply Kd.R_drewN | apply Kd.R_drew)); exact HO_7.out⟩, ⟨by (with_reducible repeat (first | apply Kd.R_alloc | apply Kd.R_drewN | apply Kd.R_drew)); exact HO_9.out⟩, ⟨by repeat (first | (with_reducible first | exact HB.out | apply below_alloc | apply pw_below_drewN | apply below_drew1) | exact HB.out)⟩⟩
                              · rw [if_neg c27] at H
                                exact absurd H (by simp)
                            · rw [if_neg c26] at H
                              exact absurd H (by simp)
                          case rest =>
                            clear HC25
                            try clear c1
                            try clear p1
                            try clear q1
                            try clear hx1
                            try clear c2
                            try clear p2
                            try clear q2
                            try clear c3
                            try clear p3
                            try clear q3
                            try clear hx3
                            try clear c4
                            try clear c6
                            try clear c6b0
                            try clear c6b1
                            try clear p6
                            try clear c7
                            try clear c7b0
                            try clear c7b1
                            try clear c8
                            try clear c8b0
                            try clear c8b1
                            try clear p9
                            try clear q9
                            try clear hx9
                            try clear qi9
                            try clear hf9
                            try clear p17
                            try clear q17
                            try clear hx17
                            try clear c18
                            try clear c18b0
                            try clear c20
                            try clear c20b0
                            try clear c20b1
                            try clear c21
                            try clear c21b0
                            try clear c21b1
                            try clear c24
                            try clear c24b0
                            try clear c26
                            try clear c26b0
                            try clear c27
                            try clear c27b0
                            try clear q28
                            try clear c29
                            try clear c30
                            try clear c30b0
                            try clear c31
                            try clear c31b0
                            try clear c32
                            try clear c32b0
                            try clear c33
                            try clear p33
                            try clear q33
                            try clear hx33
                            try clear c39
                            try clear hx177_0
                            try clear hx178_0
                            try clear hx178_1
                            try clear hx9_0
                            try clear p177
                            try clear p178
                            try clear p2
                            try clear p33
                            try clear p6
                            try clear p9
                            try clear q177
                            try clear q178
                            try clear q33
                            try clear q9
                            obtain ⟨kq, x54_24, rfl, HA, HJ24, HO_5, HO_7, HO_9, HB⟩ := hcut
                            cases kq with
                            | zero => exact absurd HA.out (by simp [glob_Match.j2])
                            | succ kj24 =>
                              have H := HA.out
                              clear HA
                              simp only [glob_Match.j2] at H
                              by_cases c40 : x54_24 = true
                              · subst c40
                                have H1 : (if 0 ≤ x38_2 then (if x38_2 < (x9_2.length : Int) then (if rdOf false x9_2 x38_2 = true then ((some (x9_2.set (x38_2 : Int).toNat true : List Bool)).bind fun y181 => (if 0 ≤ (wrap64 (x38_2 + 1)) then (if (wrap64 (x38_2 + 1)) < (x9_2.length : Int) then (if rdOf false y181 (wrap64 (x38_2 + 1)) = true then (glob_Match.l1 kj24 a1 t164 x7_1 x29_1 (y181.set ((wrap64 (x38_2 + 1)) : Int).toNat true) (a1.size : Int) x29_1 (t164.length : Int) (wrap64 (x38_2 + 1))) else (if x38_2 < (t164.length : Int) then ((glob_part_many.f ((rd_T77 t164 x38_2).f0) ((rd_T77 t164 x38_2).f1)).bind fun t185 => (glob_Match.l1 kj24 a1 t164 x7_1 x29_1 (y181.set ((wrap64 (x38_2 + 1)) : Int).toNat (!t185)) (a1.size : Int) x29_1 (t164.length : Int) (wrap64 (x38_2 + 1)))) else (none))) else (none)) else (none))) else (if x38_2 < (t164.length : Int) then ((glob_part_many.f ((rd_T77 t164 x38_2).f0) ((rd_T77 t164 x38_2).f1)).bind fun t188 => ((some (x9_2.set (x38_2 : Int).toNat t188 : List Bool)).bind fun y189 => (if 0 ≤ (wrap64 (x38_2 + 1)) then (if (wrap64 (x38_2 + 1)) < (x9_2.length : Int) then (if rdOf false y189 (wrap64 (x38_2 + 1)) = true then (glob_Match.l1 kj24 a1 t164 x7_1 x29_1 (y189.set ((wrap64 (x38_2 + 1)) : Int).toNat true) (a1.size : Int) x29_1 (t164.length : Int) (wrap64 (x38_2 + 1))) else ((glob_part_many.f ((rd_T77 t164 x38_2).f0) ((rd_T77 t164 x38_2).f1)).bind fun t193 => (glob_Match.l1 kj24 a1 t164 x7_1 x29_1 (y189.set ((wrap64 (x38_2 + 1)) : Int).toNat (!t193)) (a1.size : Int) x29_1 (t164.length : Int) (wrap64 (x38_2 + 1))))) else (none)) else (none)))) else (none))) else (none)) else (none)) = some r := by rw [if_pos rfl] at H; exact H
                                clear H
                                have H := H1
                                clear H1
                                by_cases c41 : 0 ≤ x38_2
                                · rw [if_pos c41] at H
                                  have c41b0 : decide (0 ≤ x38_2) = true := decide_eq_true c41
                                  clear c41
                                  by_cases c42 : x38_2 < (x9_2.length : Int)
                                  · rw [if_pos c42] at H
                                    have c42b0 : decide (x38_2 < (x9_2.length : Int)) = true := decide_eq_true c42
                                    clear c42
                                    obtain ⟨bq43, hbq43⟩ : ∃ b_ : Bool, b_ = (rdOf false x9_2 x38_2) := ⟨_, rfl⟩
                                    replace H : (if bq43 = true then ((some (x9_2.set (x38_2 : Int).toNat true : List Bool)).bind fun y181 => (if 0 ≤ (wrap64 (x38_2 + 1)) then (if (wrap64 (x38_2 + 1)) < (x9_2.length : Int) then (if rdOf false y181 (wrap64 (x38_2 + 1)) = true then (glob_Match.l1 kj24 a1 t164 x7_1 x29_1 (y181.set ((wrap64 (x38_2 + 1)) : Int).toNat true) (a1.size : Int) x29_1 (t164.length : Int) (wrap64 (x38_2 + 1))) else (if x38_2 < (t164.length : Int) then ((glob_part_many.f ((rd_T77 t164 x38_2).f0) ((rd_T77 t164 x38_2).f1)).bind fun t185 => (glob_Match.l1 kj24 a1 t164 x7_1 x29_1 (y181.set ((wrap64 (x38_2 + 1)) : Int).toNat (!t185)) (a1.size : Int) x29_1 (t164.length : Int) (wrap64 (x38_2 + 1)))) else (none))) else (none)) else (none))) else (if x38_2 < (t164.length : Int) then ((glob_part_many.f ((rd_T77 t164 x38_2).f0) ((rd_T77 t164 x38_2).f1)).bind fun t188 => ((some (x9_2.set (x38_2 : Int).toNat t188 : List Bool)).bind fun y189 => (if 0 ≤ (wrap64 (x38_2 + 1)) then (if (wrap64 (x38_2 + 1)) < (x9_2.length : Int) then (if rdOf false y189 (wrap64 (x38_2 + 1)) = true then (glob_Match.l1 kj24 a1 t164 x7_1 x29_1 (y189.set ((wrap64 (x38_2 + 1)) : Int).toNat true) (a1.size : Int) x29_1 (t164.length : Int) (wrap64 (x38_2 + 1))) else ((glob_part_many.f ((rd_T77 t164 x38_2).f0) ((rd_T77 t164 x38_2).f1)).bind fun t193 => (glob_Match.l1 kj24 a1 t164 x7_1 x29_1 (y189.set ((wrap64 (x38_2 + 1)) : Int).toNat (!t193)) (a1.size : Int) x29_1 (t164.length : Int) (wrap64 (x38_2 + 1))))) else (none)) else (none)))) else (none))) = some r := by rw [← hbq43] at H; exact H
                                    have Nbq43 := Aside0.mk hbq43
                                    clear hbq43
                                    by_cases c44 : bq43 = true
                                    · subst c44
                                      have H1 : ((some (x9_2.set (x38_2 : Int).toNat true : List Bool)).bind fun y181 => (if 0 ≤ (wrap64 (x38_2 + 1)) then (if (wrap64 (x38_2 + 1)) < (x9_2.length : Int) then (if rdOf false y181 (wrap64 (x38_2 + 1)) = true then (glob_Match.l1 kj24 a1 t164 x7_1 x29_1 (y181.set ((wrap64 (x38_2 + 1)) : Int).toNat true) (a1.size : Int) x29_1 (t164.length : Int) (wrap64 (x38_2 + 1))) else (if x38_2 < (t164.length : Int) then ((glob_part_many.f ((rd_T77 t164 x38_2).f0) ((rd_T77 t164 x38_2).f1)).bind fun t185 => (glob_Match.l1 kj24 a1 t164 x7_1 x29_1 (y181.set ((wrap64 (x38_2 + 1)) : Int).toNat (!t185)) (a1.size : Int) x29_1 (t164.length : Int) (wrap64 (x38_2 + 1)))) else (none))) else (none)) else (none))) = some r := by rw [if_pos rfl] at H; exact H
                                      clear H
                                      have H := H1
                                      clear H1
                                      obtain ⟨y181, hy181⟩ : ∃ y_ : List Bool, y_ = (x9_2.set (x38_2 : Int).toNat true) := ⟨_, rfl⟩
                                      replace H : (if 0 ≤ (wrap64 (x38_2 + 1)) then (if (wrap64 (x38_2 + 1)) < (x9_2.length : Int) then (if rdOf false y181 (wrap64 (x38_2 + 1)) = true then (glob_Match.l1 kj24 a1 t164 x7_1 x29_1 (y181.set ((wrap64 (x38_2 + 1)) : Int).toNat true) (a1.size : Int) x29_1 (t164.length : Int) (wrap64 (x38_2 + 1))) else (if x38_2 < (t164.length : Int) then ((glob_part_many.f ((rd_T77 t164 x38_2).f0) ((rd_T77 t164 x38_2).f1)).bind fun t185 => (glob_Match.l1 kj24 a1 t164 x7_1 x29_1 (y181.set ((wrap64 (x38_2 + 1)) : Int).toNat (!t185)) (a1.size : Int) x29_1 (t164.length : Int) (wrap64 (x38_2 + 1)))) else (none))) else (none)) else (none)) = some r := by first | (rw [hy181]; with_reducible exact H) | (have H2_ := (Option.bind_some _ _).symm.trans H; rw [hy181]; with_reducible exact H2_) | (have H2_ := (Option.bind_some _ _).symm.trans H; with_reducible exact H2_) | with_reducible exact H | (rw [hy181]; exact H) | exact H
                                      have Ny181 := Aside0.mk hy181
                                      clear hy181
                                      obtain ⟨ji46, hji46⟩ : ∃ j_ : Int, (wrap64 (x38_2 + 1)) = j_ := ⟨_, rfl⟩
                                      replace H : (if 0 ≤ (ji46) then (if (ji46) < (x9_2.length : Int) then (if rdOf false y181 (ji46) = true then (glob_Match.l1 kj24 a1 t164 x7_1 x29_1 (y181.set ((ji46) : Int).toNat true) (a1.size : Int) x29_1 (t164.length : Int) ji46) else (if x38_2 < (t164.length : Int) then ((glob_part_many.f ((rd_T77 t164 x38_2).f0) ((rd_T77 t164 x38_2).f1)).bind fun t185 => (glob_Match.l1 kj24 a1 t164 x7_1 x29_1 (y181.set ((ji46) : Int).toNat (!t185)) (a1.size : Int) x29_1 (t164.length : Int) ji46)) else (none))) else (none)) else (none)) = some r := by first | (rw [hji46] at H; exact H) | (simp only [hji46] at H ⊢; exact H)
                                      have hji46w : (IntKind.i64.wrap (x38_2 + 1)) = ji46 := (i64_w _).trans hji46
                                      by_cases c47 : 0 ≤ (ji46)
                                      · rw [if_pos c47] at H
                                        have c47b0 : decide (0 ≤ (ji46)) = true := decide_eq_true c47
                                        clear c47
                                        by_cases c48 : (ji46) < (x9_2.length : Int)
                                        · rw [if_pos c48] at H
                                          have c48b0 : decide ((ji46) < (x9_2.length : Int)) = true := decide_eq_true c48
                                          clear c48
                                          obtain ⟨bq49, hbq49⟩ : ∃ b_ : Bool, b_ = (rdOf false y181 (ji46)) := ⟨_, rfl⟩
                                          replace H : (if bq49 = true then (glob_Match.l1 kj24 a1 t164 x7_1 x29_1 (y181.set ((ji46) : Int).toNat true) (a1.size : Int) x29_1 (t164.length : Int) ji46) else (if x38_2 < (t164.length : Int) then ((glob_part_many.f ((rd_T77 t164 x38_2).f0) ((rd_T77 t164 x38_2).f1)).bind fun t185 => (glob_Match.l1 kj24 a1 t164 x7_1 x29_1 (y181.set ((ji46) : Int).toNat (!t185)) (a1.size : Int) x29_1 (t164.length : Int) ji46)) else (none))) = some r := by rw [← hbq49] at H; exact H
                                          have Nbq49 := Aside0.mk hbq49
                                          clear hbq49
                                          by_cases c50 : bq49 = true
                                          · subst c50
                                            have H1 : (glob_Match.l1 kj24 a1 t164 x7_1 x29_1 (y181.set ((ji46) : Int).toNat true) (a1.size : Int) x29_1 (t164.length : Int) ji46) = some r := by rw [if_pos rfl] at H; exact H
                                            clear H
                                            have H := H1
                                            clear H1
                                            obtain ⟨y183, hy183⟩ : ∃ y_ : List Bool, y_ = (y181.set ((ji46) : Int).toNat true) := ⟨_, rfl⟩
                                            replace H : (glob_Match.l1 kj24 a1 t164 x7_1 x29_1 y183 (a1.size : Int) x29_1 (t164.length : Int) ji46) = some r := by first | (rw [hy183]; with_reducible exact H) | (have H2_ := (Option.bind_some _ _).symm.trans H; rw [hy183]; with_reducible exact H2_) | (have H2_ := (Option.bind_some _ _).symm.trans H; with_reducible exact H2_) | with_reducible exact H | (rw [hy183]; exact H) | exact H
                                            have Ny183 := Aside0.mk hy183
                                            clear hy183
                                            have H' := Aside0.mk H
                                            clear H
                                            obtain ⟨Ao52, co52, eo52⟩ := Kd.R_slice HO_9.out
                                            subst eo52
                                            have p180 : 0 ≤ (x38_2 : Int) := of_decide_eq_true (by first | (with_reducible assumption) | assumption)
                                            have q180 : x38_2 < (x9_2.length : Int) := of_decide_eq_true (by first | (with_reducible assumption) | assumption)
                                            obtain ⟨ad180, e180, hx180_0⟩ := Kd.at_bool (Kd.R_reads' HO_9.out).2.2 x38_2 p180 q180
                                            (try rw [← Nbq43.out] at hx180_0)
                                            (try rw [← Nbq49.out] at hx180_0)
                                            cases e180
                                            replace p180 := eq_true p180
                                            replace q180 := eq_true q180
                                            have p45 : 0 ≤ (x38_2 : Int) := of_decide_eq_true (by first | (with_reducible assumption) | assumption)
                                            have q45 : (x38_2 : Int) < ((x9_2.length : Int) : Int) := of_decide_eq_true (by first | (with_reducible assumption) | assumption)
                                            obtain ⟨go45, co45, eo45, gb45, gl45, cl45, HG45⟩ := Kd.R_form HO_9.out (by omega)
                                            (first | cases eo45 | (injection eo45 with ea_ en_ ec_; (first | subst ea_ | (injection ea_ with ea_; subst ea_)); subst ec_; clear en_))
                                            have GB45 := Aside0.mk gb45
                                            have GG45 := Aside0.mk HG45
                                            clear gb45 gl45 HG45
                                            (first | simp only [add_plain] at hx180_0 | skip)
                                            obtain ⟨hx45_0, hf45_0⟩ := Kd.R_celln false HO_9.out (x38_2 : Int) p45 q45
                                            replace p45 := eq_true p45
                                            replace q45 := eq_true q45
                                            have HP53 := Kd.R_putg HO_9.out (x38_2 : Int) true
                                            go_wp2_with (first | ((with_reducible refine gate_store (t := 4) (p := 68) rfl ?_); refine store_event (t := 4) (p := 68) (v := ?vo_w54) (w1 := (wc.setCell ⟨go45, (x38_2 : Int).toNat, none⟩ (.bool true))) ?hg ?ho ?hn ?hr ?_; (case ho => rfl); (case hg => rfl); (case hn => rfl); (case hr => first | (go_simp; done) | (go_simp; rfl)); intro w54 hw; have hg : wc.grownBy w54 (some go45) := (by rw [hw]; exact HP53.2); have hp_ : Kd.R Kd.bool 4 w54 w.heap.size (fun k_ => some k_ ≠ (u7 : Value).ownBlock) (.slice (some ⟨go45, 0, none⟩) x9_2.length co52) y181 := (by rw [hw, Ny181.out]; exact HP53.1); clear HP53; have n0_ := Aside0.mk (Kd.R_over' (v := (.slice (some ⟨go45, 0, none⟩) x9_2.length co52)) (by (with_reducible repeat (first | apply Kd.R_alloc | apply Kd.R_drewN | apply Kd.R_drew)); exact HO_5.out) (Kd.R_typed HO_9.out) (by decide) hg); have n1_ := Aside0.mk (Kd.R_after (v := (.slice (some ⟨go45, 0, none⟩) x9_2.length co52)) (v1 := (.slice (some ⟨go45, 0, none⟩) x9_2.length co52)) (ok := (fun _ => True)) (by (with_reducible repeat (first | apply Kd.R_alloc | apply Kd.R_drewN | apply Kd.R_drew)); exact Kd.R_mono HO_7.out (fun _ hk => ⟨trivial, hk⟩)) hg (.inl rfl)); have n2_ := Aside0.mk (hp_); have n3_ := Aside0.mk ((by rw [hw]; exact below_set (HB.out) GB45.out : Below w.heap.size w w54)); clear HO_5; clear HO_7; clear HO_9; clear HB; have HO_5 := n0_; have HO_7 := n1_; have HO_9 := n2_; have HB := n3_; clear n0_ n1_ n2_ n3_; clear hg hw hp_; have p182 : 0 ≤ ((ji46) : Int) := of_decide_eq_true (by first | (with_reducible assumption) | assumption); have q182 : (ji46) < (y181.length : Int) := (by have h_ : ((ji46) : Int) < ((x9_2.length : Int) : Int) := of_decide_eq_true (by first | (with_reducible assumption) | assumption); first | (have e_ := (Kd.R_reads' HO_9.out).1; omega) | simpa only [Ny181.out, List.length_set] using h_); have ql182 : (((ji46) : Int) < ((x9_2.length : Int) : Int)) = True := eq_true (of_decide_eq_true (by first | (with_reducible assumption) | assumption)); obtain ⟨ad182, e182, hx182_0⟩ := Kd.at_bool (Kd.R_reads' HO_9.out).2.2 (ji46) p182 q182; (try rw [← Nbq43.out] at hx182_0); (try rw [← Nbq49.out] at hx182_0); obtain rfl : (⟨go45, 0, none⟩ : Addr) = ad182 := (by injection e182); (first | simp only [add_plain] at hx182_0 | simp only [add_at] at hx182_0 | simp only [Addr.add, Nat.zero_add] at hx182_0 | skip); replace p182 := eq_true p182; replace q182 := eq_true q182; have p51 : 0 ≤ ((ji46) : Int) := of_decide_eq_true (by first | (with_reducible assumption) | assumption); have q51 : ((ji46) : Int) < ((x9_2.length : Int) : Int) := of_decide_eq_true (by first | (with_reducible assumption) | assumption); obtain ⟨hx51_0, hf51_0⟩ := Kd.R_celln false HO_9.out ((ji46) : Int) p51 q51; replace p51 := eq_true p51; replace q51 := eq_true q51; obtain ⟨hy55_, hz55_⟩ := Kd.R_celln false HO_9.out ((ji46) : Int) (of_decide_eq_true (by first | (with_reducible assumption) | assumption)) (of_decide_eq_true (by first | (with_reducible assumption) | assumption)); have HP55 := Kd.R_putg HO_9.out ((ji46) : Int) true) | ((with_reducible refine gate_store (t := 4) (p := 85) rfl ?_); refine store_event (t := 4) (p := 85) (v := ?vo_w56) (w1 := (w54.setCell ⟨go45, ((ji46) : Int).toNat, none⟩ (.bool true))) ?hg ?ho ?hn ?hr ?_; (case ho => rfl); (case hg => rfl); (case hn => rfl); (case hr => first | (go_simp; done) | (go_simp; rfl)); intro w56 hw; have hg : w54.grownBy w56 (some go45) := (by rw [hw]; exact HP55.2); have hp_ : Kd.R Kd.bool 4 w56 w.heap.size (fun k_ => some k_ ≠ (u7 : Value).ownBlock) (.slice (some ⟨go45, 0, none⟩) x9_2.length co52) y183 := (by rw [hw, Ny183.out]; exact HP55.1); clear HP55; have n0_ := Aside0.mk (Kd.R_over' (v := (.slice (some ⟨go45, 0, none⟩) x9_2.length co52)) (by (with_reducible repeat (first | apply Kd.R_alloc | apply Kd.R_drewN | apply Kd.R_drew)); exact HO_5.out) (Kd.R_typed HO_9.out) (by decide) hg); have n1_ := Aside0.mk (Kd.R_after (v := (.slice (some ⟨go45, 0, none⟩) x9_2.length co52)) (v1 := (.slice (some ⟨go45, 0, none⟩) x9_2.length co52)) (ok := (fun _ => True)) (by (with_reducible repeat (first | apply Kd.R_alloc | apply Kd.R_drewN | apply Kd.R_drew)); exact HO_7.out) hg (.inl rfl)); have n2_ := Aside0.mk (hp_); have n3_ := Aside0.mk ((by rw [hw]; exact below_set (HB.out) GB45.out : Below w.heap.size w w56)); clear HO_5; clear HO_7; clear HO_9; clear HB; have HO_5 := n0_; have HO_7 := n1_; have HO_9 := n2_; have HB := n3_; clear n0_ n1_ n2_ n3_; clear hg hw hp_))
                                            go_roundg kj24
                                            case measure => have := HK1.out; have := HK2.out; have := HJ24.out; omega
                                            case rel => exact ⟨(y183), (ji46), (by first | rfl | (simp; done) | (simp only [← hji46] <;> (first | rfl | simp)) | (simp [*]; done)), H', ⟨by have := HK1.out; have := HK2.out; have := HJ24.out; omega⟩, ⟨by (with_reducible repeat (first | apply Kd.R_alloc | apply Kd.R_drewN | apply Kd.R_drew)); exact HO_5.out⟩, ⟨by (with_reducible repeat (first | apply Kd.R_alloc | apply Kd.R_drewN | apply Kd.R_drew)); exact Kd.R_mono HO_7.out (fun _ hk => hk.2)⟩, ⟨by (with_reducible repeat (first | apply Kd.R_alloc | apply Kd.R_drewN | apply Kd.R_drew)); exact HO_9.out⟩, ⟨by repeat (first | (with_reducible first | exact HB.out | apply below_alloc | apply pw_below_drewN | apply below_drew1) | exact HB.out)⟩⟩
                                          · replace c50 := Bool.eq_false_iff.mpr c50
                                            subst c50
                                            have H1 : (if x38_2 < (t164.length : Int) then ((glob_part_many.f ((rd_T77 t164 x38_2).f0) ((rd_T77 t164 x38_2).f1)).bind fun t185 => (glob_Match.l1 kj24 a1 t164 x7_1 x29_1 (y181.set ((ji46) : Int).toNat (!t185)) (a1.size : Int) x29_1 (t164.length : Int) ji46)) else (none)) = some r := by rw [if_neg (show ¬ (false = true) by decide)] at H; exact H
                                            clear H
                                            have H := H1
                                            clear H1
                                            by_cases c57 : x38_2 < (t164.length : Int)
                                            · rw [if_pos c57] at H
                                              have c57b0 : decide (x38_2 < (t164.length : Int)) = true := decide_eq_true c57
                                              clear c57
                                              replace H := Option.bind_eq_some_iff.mp H
                                              obtain ⟨t185, A580, H⟩ := H
                                              replace H : (glob_Match.l1 kj24 a1 t164 x7_1 x29_1 (y181.set ((ji46) : Int).toNat (!t185)) (a1.size : Int) x29_1 (t164.length : Int) ji46) = some r := H
                                              have A58 := Aside0.mk A580
                                              clear A580
                                              obtain ⟨y186, hy186⟩ : ∃ y_ : List Bool, y_ = (y181.set ((ji46) : Int).toNat (!t185)) := ⟨_, rfl⟩
                                              replace H : (glob_Match.l1 kj24 a1 t164 x7_1 x29_1 y186 (a1.size : Int) x29_1 (t164.length : Int) ji46) = some r := by first | (rw [hy186]; with_reducible exact H) | (have H2_ := (Option.bind_some _ _).symm.trans H; rw [hy186]; with_reducible exact H2_) | (have H2_ := (Option.bind_some _ _).symm.trans H; with_reducible exact H2_) | with_reducible exact H | (rw [hy186]; exact H) | exact H
                                              have Ny186 := Aside0.mk hy186
                                              clear hy186
                                              have H' := Aside0.mk H
                                              clear H
                                              obtain ⟨Ao60, co60, eo60⟩ := Kd.R_slice HO_9.out
                                              subst eo60
                                              have p180 : 0 ≤ (x38_2 : Int) := of_decide_eq_true (by first | (with_reducible assumption) | assumption)
                                              have q180 : x38_2 < (x9_2.length : Int) := of_decide_eq_true (by first | (with_reducible assumption) | assumption)
                                              obtain ⟨ad180, e180, hx180_0⟩ := Kd.at_bool (Kd.R_reads' HO_9.out).2.2 x38_2 p180 q180
                                              (try rw [← Nbq43.out] at hx180_0)
                                              (try rw [← Nbq49.out] at hx180_0)
                                              cases e180
                                              replace p180 := eq_true p180
                                              replace q180 := eq_true q180
                                              have p45 : 0 ≤ (x38_2 : Int) := of_decide_eq_true (by first | (with_reducible assumption) | assumption)
                                              have q45 : (x38_2 : Int) < ((x9_2.length : Int) : Int) := of_decide_eq_true (by first | (with_reducible assumption) | assumption)
                                              obtain ⟨go45, co45, eo45, gb45, gl45, cl45, HG45⟩ := Kd.R_form HO_9.out (by omega)
                                              (first | cases eo45 | (injection eo45 with ea_ en_ ec_; (first | subst ea_ | (injection ea_ with ea_; subst ea_)); subst ec_; clear en_))
                                              have GB45 := Aside0.mk gb45
                                              have GG45 := Aside0.mk HG45
                                              clear gb45 gl45 HG45
                                              (first | simp only [add_plain] at hx180_0 | skip)
                                              obtain ⟨hx45_0, hf45_0⟩ := Kd.R_celln false HO_9.out (x38_2 : Int) p45 q45
                                              replace p45 := eq_true p45
                                              replace q45 := eq_true q45
                                              have HP61 := Kd.R_putg HO_9.out (x38_2 : Int) true
                                              go_wp2_with (first | ((with_reducible refine gate_store (t := 4) (p := 68) rfl ?_); refine store_event (t := 4) (p := 68) (v := ?vo_w62) (w1 := (wc.setCell ⟨go45, (x38_2 : Int).toNat, none⟩ (.bool true))) ?hg ?ho ?hn ?hr ?_; (case ho => rfl); (case hg => rfl); (case hn => rfl); (case hr => first | (go_simp; done) | (go_simp; rfl)); intro w62 hw; have hg : wc.grownBy w62 (some go45) := (by rw [hw]; exact HP61.2); have hp_ : Kd.R Kd.bool 4 w62 w.heap.size (fun k_ => some k_ ≠ (u7 : Value).ownBlock) (.slice (some ⟨go45, 0, none⟩) x9_2.length co60) y181 := (by rw [hw, Ny181.out]; exact HP61.1); clear HP61; have n0_ := Aside0.mk (Kd.R_over' (v := (.slice (some ⟨go45, 0, none⟩) x9_2.length co60)) (by (with_reducible repeat (first | apply Kd.R_alloc | apply Kd.R_drewN | apply Kd.R_drew)); exact HO_5.out) (Kd.R_typed HO_9.out) (by decide) hg); have n1_ := Aside0.mk (Kd.R_after (v := (.slice (some ⟨go45, 0, none⟩) x9_2.length co60)) (v1 := (.slice (some ⟨go45, 0, none⟩) x9_2.length co60)) (ok := (fun _ => True)) (by (with_reducible repeat (first | apply Kd.R_alloc | apply Kd.R_drewN | apply Kd.R_drew)); exact Kd.R_mono HO_7.out (fun _ hk => ⟨trivial, hk⟩)) hg (.inl rfl)); have n2_ := Aside0.mk (hp_); have n3_ := Aside0.mk ((by rw [hw]; exact below_set (HB.out) GB45.out : Below w.heap.size w w62)); clear HO_5; clear HO_7; clear HO_9; clear HB; have HO_5 := n0_; have HO_7 := n1_; have HO_9 := n2_; have HB := n3_; clear n0_ n1_ n2_ n3_; clear hg hw hp_; have p182 : 0 ≤ ((ji46) : Int) := of_decide_eq_true (by first | (with_reducible assumption) | assumption); have q182 : (ji46) < (y181.length : Int) := (by have h_ : ((ji46) : Int) < ((x9_2.length : Int) : Int) := of_decide_eq_true (by first | (with_reducible assumption) | assumption); first | (have e_ := (Kd.R_reads' HO_9.out).1; omega) | simpa only [Ny181.out, List.length_set] using h_); have ql182 : (((ji46) : Int) < ((x9_2.length : Int) : Int)) = True := eq_true (of_decide_eq_true (by first | (with_reducible assumption) | assumption)); obtain ⟨ad182, e182, hx182_0⟩ := Kd.at_bool (Kd.R_reads' HO_9.out).2.2 (ji46) p182 q182; (try rw [← Nbq43.out] at hx182_0); (try rw [← Nbq49.out] at hx182_0); obtain rfl : (⟨go45, 0, none⟩ : Addr) = ad182 := (by injection e182); (first | simp only [add_plain] at hx182_0 | simp only [add_at] at hx182_0 | simp only [Addr.add, Nat.zero_add] at hx182_0 | skip); replace p182 := eq_true p182; replace q182 := eq_true q182; have p184 : 0 ≤ (x38_2 : Int) := of_decide_eq_true (by first | (with_reducible assumption) | assumption); have q184 : x38_2 < (t164.length : Int) := of_decide_eq_true (by first | (with_reducible assumption) | assumption); obtain ⟨ad184, e184, hx184_0, hx184_1⟩ := at_T77 (Kd.R_reads' HO_5.out).2.2 x38_2 p184 q184; cases e184; replace p184 := eq_true p184; replace q184 := eq_true q184) | (go_at_call 41; (with_reducible refine (glob_part_many.calls ((rd_T77 t164 x38_2).f0) ((rd_T77 t164 x38_2).f1) t185 _ A58.out).mono ?_); rintro e w63 ⟨rfl, hb⟩; have n0_ := Aside0.mk (Kd.R_below (by (with_reducible repeat (first | apply Kd.R_alloc | apply Kd.R_drewN | apply Kd.R_drew)); exact HO_5.out) hb); have n1_ := Aside0.mk (Kd.R_below (by (with_reducible repeat (first | apply Kd.R_alloc | apply Kd.R_drewN | apply Kd.R_drew)); exact HO_7.out) hb); have n2_ := Aside0.mk (Kd.R_below (by (with_reducible repeat (first | apply Kd.R_alloc | apply Kd.R_drewN | apply Kd.R_drew)); exact HO_9.out) hb); have n3_ := Aside0.mk (below_step (by repeat (first | (with_reducible first | exact HB.out | apply below_alloc | apply pw_below_drewN | apply below_drew1) | exact HB.out)) hb); clear HO_5; clear HO_7; clear HO_9; clear HB; have HO_5 := n0_; have HO_7 := n1_; have HO_9 := n2_; have HB := n3_; clear n0_ n1_ n2_ n3_; (try clear hb); (try clear hb2); (try clear hk); (try clear hi); have p59 : 0 ≤ ((ji46) : Int) := of_decide_eq_true (by first | (with_reducible assumption) | assumption); have q59 : ((ji46) : Int) < ((x9_2.length : Int) : Int) := of_decide_eq_true (by first | (with_reducible assumption) | assumption); obtain ⟨hx59_0, hf59_0⟩ := Kd.R_celln false HO_9.out ((ji46) : Int) p59 q59; replace p59 := eq_true p59; replace q59 := eq_true q59; obtain ⟨hy64_, hz64_⟩ := Kd.R_celln false HO_9.out ((ji46) : Int) (of_decide_eq_true (by first | (with_reducible assumption) | assumption)) (of_decide_eq_true (by first | (with_reducible assumption) | assumption)); have HP64 := Kd.R_putg HO_9.out ((ji46) : Int) (!t185)) | ((with_reducible refine gate_store (t := 4) (p := 85) rfl ?_); refine store_event (t := 4) (p := 85) (v := ?vo_w65) (w1 := (w63.setCell ⟨go45, ((ji46) : Int).toNat, none⟩ (.bool (!t185)))) ?hg ?ho ?hn ?hr ?_; (case ho => rfl); (case hg => rfl); (case hn => rfl); (case hr => first | (go_simp; done) | (go_simp; rfl)); intro w65 hw; have hg : w63.grownBy w65 (some go45) := (by rw [hw]; exact HP64.2); have hp_ : Kd.R Kd.bool 4 w65 w.heap.size (fun k_ => some k_ ≠ (u7 : Value).ownBlock) (.slice (some ⟨go45, 0, none⟩) x9_2.length co60) y186 := (by rw [hw, Ny186.out]; exact HP64.1); clear HP64; have n0_ := Aside0.mk (Kd.R_over' (v := (.slice (some ⟨go45, 0, none⟩) x9_2.length co60)) (by (with_reducible repeat (first | apply Kd.R_alloc | apply Kd.R_drewN | apply Kd.R_drew)); exact HO_5.out) (Kd.R_typed HO_9.out) (by decide) hg); have n1_ := Aside0.mk (Kd.R_after (v := (.slice (some ⟨go45, 0, none⟩) x9_2.length co60)) (v1 := (.slice (some ⟨go45, 0, none⟩) x9_2.length co60)) (ok := (fun _ => True)) (by (with_reducible repeat (first | apply Kd.R_alloc | apply Kd.R_drewN | apply Kd.R_drew)); exact HO_7.out) hg (.inl rfl)); have n2_ := Aside0.mk (hp_); have n3_ := Aside0.mk ((by rw [hw]; exact below_set (HB.out) GB45.out : Below w.heap.size w w65)); clear HO_5; clear HO_7; clear HO_9; clear HB; have HO_5 := n0_; have HO_7 := n1_; have HO_9 := n2_; have HB := n3_; clear n0_ n1_ n2_ n3_; clear hg hw hp_))
                                              go_roundg kj24
                                              case measure => have := HK1.out; have := HK2.out; have := HJ24.out; omega
                                              case rel => exact ⟨(y186), (ji46), (by first | rfl | (simp; done) | (simp only [← hji46] <;> (first | rfl | simp)) | (simp [*]; done)), H', ⟨by have := HK1.out; have := HK2.out; have := HJ24.out; omega⟩, ⟨by (with_reducible repeat (first | apply Kd.R_alloc | apply Kd.R_drewN | apply Kd.R_drew)); exact HO_5.out⟩, ⟨by (with_reducible repeat (first | apply Kd.R_alloc | apply Kd.R_drewN | apply Kd.R_drew)); exact Kd.R_mono HO_7.out (fun _ hk => hk.2)⟩, ⟨by (with_reducible repeat (first | apply Kd.R_alloc | apply Kd.R_drewN | apply Kd.R_drew)); exact HO_9.out⟩, ⟨by repeat (first | (with_reducible first | exact HB.out | apply below_alloc | apply pw_below_drewN | apply below_drew1) | exact HB.out)⟩⟩
                                            · rw [if_neg c57] at H
                                              exact absurd H (by simp)
                                        · rw [if_neg c48] at H
                                          exact absurd H (by simp)
                                      · rw [if_neg c47] at H
                                        exact absurd H (by simp)
                                    · replace c44 := Bool.eq_false_iff.mpr c44
                                      subst c44
                                      have H1 : (if x38_2 < (t164.length : Int) then ((glob_part_many.f ((rd_T77 t164 x38_2).f0) ((rd_T77 t164 x38_2).f1)).bind fun t188 => ((some (x9_2.set (x38_2 : Int).toNat t188 : List Bool)).bind fun y189 => (if 0 ≤ (wrap64 (x38_2 + 1)) then (if (wrap64 (x38_2 + 1)) < (x9_2.length : Int) then (if rdOf false y189 (wrap64 (x38_2 + 1)) = true then (glob_Match.l1 kj24 a1 t164 x7_1 x29_1 (y189.set ((wrap64 (x38_2 + 1)) : Int).toNat true) (a1.size : Int) x29_1 (t164.length : Int) (wrap64 (x38_2 + 1))) else ((glob_part_many.f ((rd_T77 t164 x38_2).f0) ((rd_T77 t164 x38_2).f1)).bind fun t193 => (glob_Match.l1 kj24 a1 t164 x7_1 x29_1 (y189.set ((wrap64 (x38_2 + 1)) : Int).toNat (!t193)) (a1.size : Int) x29_1 (t164.length : Int) (wrap64 (x38_2 + 1))))) else (none)) else (none)))) else (none)) = some r := by rw [if_neg (show ¬ (false = true) by decide)] at H; exact H
                                      clear H
                                      have H := H1
                                      clear H1
                                      by_cases c66 : x38_2 < (t164.length : Int)
                                      · rw [if_pos c66] at H
                                        have c66b0 : decide (x38_2 < (t164.length : Int)) = true := decide_eq_true c66
                                        clear c66
                                        replace H := Option.bind_eq_some_iff.mp H
                                        obtain ⟨t188, A670, H⟩ := H
                                        replace H : ((some (x9_2.set (x38_2 : Int).toNat t188 : List Bool)).bind fun y189 => (if 0 ≤ (wrap64 (x38_2 + 1)) then (if (wrap64 (x38_2 + 1)) < (x9_2.length : Int) then (if rdOf false y189 (wrap64 (x38_2 + 1)) = true then (glob_Match.l1 kj24 a1 t164 x7_1 x29_1 (y189.set ((wrap64 (x38_2 + 1)) : Int).toNat true) (a1.size : Int) x29_1 (t164.length : Int) (wrap64 (x38_2 + 1))) else ((glob_part_many.f ((rd_T77 t164 x38_2).f0) ((rd_T77 t164 x38_2).f1)).bind fun t193 => (glob_Match.l1 kj24 a1 t164 x7_1 x29_1 (y189.set ((wrap64 (x38_2 + 1)) : Int).toNat (!t193)) (a1.size : Int) x29_1 (t164.length : Int) (wrap64 (x38_2 + 1))))) else (none)) else (none))) = some r := H
                                        have A67 := Aside0.mk A670
                                        clear A670
                                        obtain ⟨y189, hy189⟩ : ∃ y_ : List Bool, y_ = (x9_2.set (x38_2 : Int).toNat t188) := ⟨_, rfl⟩
                                        replace H : (if 0 ≤ (wrap64 (x38_2 + 1)) then (if (wrap64 (x38_2 + 1)) < (x9_2.length : Int) then (if rdOf false y189 (wrap64 (x38_2 + 1)) = true then (glob_Match.l1 kj24 a1 t164 x7_1 x29_1 (y189.set ((wrap64 (x38_2 + 1)) : Int).toNat true) (a1.size : Int) x29_1 (t164.length : Int) (wrap64 (x38_2 + 1))) else ((glob_part_many.f ((rd_T77 t164 x38_2).f0) ((rd_T77 t164 x38_2).f1)).bind fun t193 => (glob_Match.l1 kj24 a1 t164 x7_1 x29_1 (y189.set ((wrap64 (x38_2 + 1)) : Int).toNat (!t193)) (a1.size : Int) x29_1 (t164.length : Int) (wrap64 (x38_2 + 1))))) else (none)) else (none)) = some r := by first | (rw [hy189]; with_reducible exact H) | (have H2_ := (Option.bind_some _ _).symm.trans H; rw [hy189]; with_reducible exact H2_) | (have H2_ := (Option.bind_some _ _).symm.trans H; with_reducible exact H2_) | with_reducible exact H | (rw [hy189]; exact H) | exact H
                                        have Ny189 := Aside0.mk hy189
                                        clear hy189
                                        obtain ⟨ji69, hji69⟩ : ∃ j_ : Int, (wrap64 (x38_2 + 1)) = j_ := ⟨_, rfl⟩
                                        replace H : (if 0 ≤ (ji69) then (if (ji69) < (x9_2.length : Int) then (if rdOf false y189 (ji69) = true then (glob_Match.l1 kj24 a1 t164 x7_1 x29_1 (y189.set ((ji69) : Int).toNat true) (a1.size : Int) x29_1 (t164.length : Int) ji69) else ((glob_part_many.f ((rd_T77 t164 x38_2).f0) ((rd_T77 t164 x38_2).f1)).bind fun t193 => (glob_Match.l1 kj24 a1 t164 x7_1 x29_1 (y189.set ((ji69) : Int).toNat (!t193)) (a1.size : Int) x29_1 (t164.length : Int) ji69))) else (none)) else (none)) = some r := by first | (rw [hji69] at H; exact H) | (simp only [hji69] at H ⊢; exact H)
                                        (try rw [hji69] at A67)
                                        have hji69w : (IntKind.i64.wrap (x38_2 + 1)) = ji69 := (i64_w _).trans hji69
                                        by_cases c70 : 0 ≤ (ji69)
                                        · rw [if_pos c70] at H
                                          have c70b0 : decide (0 ≤ (ji69)) = true := decide_eq_true c70
                                          clear c70
                                          by_cases c71 : (ji69) < (x9_2.length : Int)
                                          · rw [if_pos c71] at H
                                            have c71b0 : decide ((ji69) < (x9_2.length : Int)) = true := decide_eq_true c71
                                            clear c71
                                            obtain ⟨bq72, hbq72⟩ : ∃ b_ : Bool, b_ = (rdOf false y189 (ji69)) := ⟨_, rfl⟩
                                            replace H : (if bq72 = true then (glob_Match.l1 kj24 a1 t164 x7_1 x29_1 (y189.set ((ji69) : Int).toNat true) (a1.size : Int) x29_1 (t164.length : Int) ji69) else ((glob_part_many.f ((rd_T77 t164 x38_2).f0) ((rd_T77 t164 x38_2).f1)).bind fun t193 => (glob_Match.l1 kj24 a1 t164 x7_1 x29_1 (y189.set ((ji69) : Int).toNat (!t193)) (a1.size : Int) x29_1 (t164.length : Int) ji69))) = some r := by rw [← hbq72] at H; exact H
                                            have Nbq72 := Aside0.mk hbq72
                                            clear hbq72
                                            by_cases c73 : bq72 = true
                                            · subst c73
                                              have H1 : (glob_Match.l1 kj24 a1 t164 x7_1 x29_1 (y189.set ((ji69) : Int).toNat true) (a1.size : Int) x29_1 (t164.length : Int) ji69) = some r := by rw [if_pos rfl] at H; exact H
                                              clear H
                                              have H := H1
                                              clear H1
                                              obtain ⟨y191, hy191⟩ : ∃ y_ : List Bool, y_ = (y189.set ((ji69) : Int).toNat true) := ⟨_, rfl⟩
                                              replace H : (glob_Match.l1 kj24 a1 t164 x7_1 x29_1 y191 (a1.size : Int) x29_1 (t164.length : Int) ji69) = some r := by first | (rw [hy191]; with_reducible exact H) | (have H2_ := (Option.bind_some _ _).symm.trans H; rw [hy191]; with_reducible exact H2_) | (have H2_ := (Option.bind_some _ _).symm.trans H; with_reducible exact H2_) | with_reducible exact H | (rw [hy191]; exact H) | exact H
                                              have Ny191 := Aside0.mk hy191
                                              clear hy191
                                              have H' := Aside0.mk H
                                              clear H
                                              obtain ⟨Ao75, co75, eo75⟩ := Kd.R_slice HO_9.out
                                              subst eo75
                                              have p180 : 0 ≤ (x38_2 : Int) := of_decide_eq_true (by first | (with_reducible assumption) | assumption)
                                              have q180 : x38_2 < (x9_2.length : Int) := of_decide_eq_true (by first | (with_reducible assumption) | assumption)
                                              obtain ⟨ad180, e180, hx180_0⟩ := Kd.at_bool (Kd.R_reads' HO_9.out).2.2 x38_2 p180 q180
                                              (try rw [← Nbq43.out] at hx180_0)
                                              (try rw [← Nbq72.out] at hx180_0)
                                              cases e180
                                              replace p180 := eq_true p180
                                              replace q180 := eq_true q180
                                              have p187 : 0 ≤ (x38_2 : Int) := of_decide_eq_true (by first | (with_reducible assumption) | assumption)
                                              have q187 : x38_2 < (t164.length : Int) := of_decide_eq_true (by first | (with_reducible assumption) | assumption)
                                              obtain ⟨ad187, e187, hx187_0, hx187_1⟩ := at_T77 (Kd.R_reads' HO_5.out).2.2 x38_2 p187 q187
                                              cases e187
                                              replace p187 := eq_true p187
                                              replace q187 := eq_true q187
                                              go_wp2_with (first | (go_at_call 41; (with_reducible refine (glob_part_many.calls ((rd_T77 t164 x38_2).f0) ((rd_T77 t164 x38_2).f1) t188 _ A67.out).mono ?_); rintro e w76 ⟨rfl, hb⟩; have n0_ := Aside0.mk (Kd.R_below (by (with_reducible repeat (first | apply Kd.R_alloc | apply Kd.R_drewN | apply Kd.R_drew)); exact HO_5.out) hb); have n1_ := Aside0.mk (Kd.R_below (by (with_reducible repeat (first | apply Kd.R_alloc | apply Kd.R_drewN | apply Kd.R_drew)); exact HO_7.out) hb); have n2_ := Aside0.mk (Kd.R_below (by (with_reducible repeat (first | apply Kd.R_alloc | apply Kd.R_drewN | apply Kd.R_drew)); exact HO_9.out) hb); have n3_ := Aside0.mk (below_step (by repeat (first | (with_reducible first | exact HB.out | apply below_alloc | apply pw_below_drewN | apply below_drew1) | exact HB.out)) hb); clear HO_5; clear HO_7; clear HO_9; clear HB; have HO_5 := n0_; have HO_7 := n1_; have HO_9 := n2_; have HB := n3_; clear n0_ n1_ n2_ n3_; (try clear hb); (try clear hb2); (try clear hk); (try clear hi); have p68 : 0 ≤ (x38_2 : Int) := of_decide_eq_true (by first | (with_reducible assumption) | assumption); have q68 : (x38_2 : Int) < ((x9_2.length : Int) : Int) := of_decide_eq_true (by first | (with_reducible assumption) | assumption); obtain ⟨go68, co68, eo68, gb68, gl68, cl68, HG68⟩ := Kd.R_form HO_9.out (by omega); (first | cases eo68 | (injection eo68 with ea_ en_ ec_; (first | subst ea_ | (injection ea_ with ea_; subst ea_)); subst ec_; clear en_)); have GB68 := Aside0.mk gb68; have GG68 := Aside0.mk HG68; clear gb68 gl68 HG68; (first | simp only [add_plain] at hx180_0 | skip); obtain ⟨hx68_0, hf68_0⟩ := Kd.R_celln false HO_9.out (x38_2 : Int) p68 q68; replace p68 := eq_true p68; replace q68 := eq_true q68; obtain ⟨hy77_, hz77_⟩ := Kd.R_celln false HO_9.out (x38_2 : Int) (of_decide_eq_true (by first | (with_reducible assumption) | assumption)) (of_decide_eq_true (by first | (with_reducible assumption) | assumption)); have HP77 := Kd.R_putg HO_9.out (x38_2 : Int) t188) | ((with_reducible refine gate_store (t := 4) (p := 68) rfl ?_); refine store_event (t := 4) (p := 68) (v := ?vo_w78) (w1 := (w76.setCell ⟨go68, (x38_2 : Int).toNat, none⟩ (.bool t188))) ?hg ?ho ?hn ?hr ?_; (case ho => rfl); (case hg => rfl); (case hn => rfl); (case hr => first | (go_simp; done) | (go_simp; rfl)); intro w78 hw; have hg : w76.grownBy w78 (some go68) := (by rw [hw]; exact HP77.2); have hp_ : Kd.R Kd.bool 4 w78 w.heap.size (fun k_ => some k_ ≠ (u7 : Value).ownBlock) (.slice (some ⟨go68, 0, none⟩) x9_2.length co75) y189 := (by rw [hw, Ny189.out]; exact HP77.1); clear HP77; have n0_ := Aside0.mk (Kd.R_over' (v := (.slice (some ⟨go68, 0, none⟩) x9_2.length co75)) (by (with_reducible repeat (first | apply Kd.R_alloc | apply Kd.R_drewN | apply Kd.R_drew)); exact HO_5.out) (Kd.R_typed HO_9.out) (by decide) hg); have n1_ := Aside0.mk (Kd.R_after (v := (.slice (some ⟨go68, 0, none⟩) x9_2.length co75)) (v1 := (.slice (some ⟨go68, 0, none⟩) x9_2.length co75)) (ok := (fun _ => True)) (by (with_reducible repeat (first | apply Kd.R_alloc | apply Kd.R_drewN | apply Kd.R_drew)); exact Kd.R_mono HO_7.out (fun _ hk => ⟨trivial, hk⟩)) hg (.inl rfl)); have n2_ := Aside0.mk (hp_); have n3_ := Aside0.mk ((by rw [hw]; exact below_set (HB.out) GB68.out : Below w.heap.size w w78)); clear HO_5; clear HO_7; clear HO_9; clear HB; have HO_5 := n0_; have HO_7 := n1_; have HO_9 := n2_; have HB := n3_; clear n0_ n1_ n2_ n3_; clear hg hw hp_; have p190 : 0 ≤ ((ji69) : Int) := of_decide_eq_true (by first | (with_reducible assumption) | assumption); have q190 : (ji69) < (y189.length : Int) := (by have h_ : ((ji69) : Int) < ((x9_2.length : Int) : Int) := of_decide_eq_true (by first | (with_reducible assumption) | assumption); first | (have e_ := (Kd.R_reads' HO_9.out).1; omega) | simpa only [Ny189.out, List.length_set] using h_); have ql190 : (((ji69) : Int) < ((x9_2.length : Int) : Int)) = True := eq_true (of_decide_eq_true (by first | (with_reducible assumption) | assumption)); obtain ⟨ad190, e190, hx190_0⟩ := Kd.at_bool (Kd.R_reads' HO_9.out).2.2 (ji69) p190 q190; (try rw [← Nbq43.out] at hx190_0); (try rw [← Nbq72.out] at hx190_0); obtain rfl : (⟨go68, 0, none⟩ : Addr) = ad190 := (by injection e190); (first | simp only [add_plain] at hx190_0 | simp only [add_at] at hx190_0 | simp only [Addr.add, Nat.zero_add] at hx190_0 | skip); replace p190 := eq_true p190; replace q190 := eq_true q190; have p74 : 0 ≤ ((ji69) : Int) := of_decide_eq_true (by first | (with_reducible assumption) | assumption); have q74 : ((ji69) : Int) < ((x9_2.length : Int) : Int) := of_decide_eq_true (by first | (with_reducible assumption) | assumption); obtain ⟨hx74_0, hf74_0⟩ := Kd.R_celln false HO_9.out ((ji69) : Int) p74 q74; replace p74 := eq_true p74; replace q74 := eq_true q74; obtain ⟨hy79_, hz79_⟩ := Kd.R_celln false HO_9.out ((ji69) : Int) (of_decide_eq_true (by first | (with_reducible assumption) | assumption)) (of_decide_eq_true (by first | (with_reducible assumption) | assumption)); have HP79 := Kd.R_putg HO_9.out ((ji69) : Int) true) | ((with_reducible refine gate_store (t := 4) (p := 85) rfl ?_); refine store_event (t := 4) (p := 85) (v := ?vo_w80) (w1 := (w78.setCell ⟨go68, ((ji69) : Int).toNat, none⟩ (.bool true))) ?hg ?ho ?hn ?hr ?_; (case ho => rfl); (case hg => rfl); (case hn => rfl); (case hr => first | (go_simp; done) | (go_simp; rfl)); intro w80 hw; have hg : w78.grownBy w80 (some go68) := (by rw [hw]; exact HP79.2); have hp_ : Kd.R Kd.bool 4 w80 w.heap.size (fun k_ => some k_ ≠ (u7 : Value).ownBlock) (.slice (some ⟨go68, 0, none⟩) x9_2.length co75) y191 := (by rw [hw, Ny191.out]; exact HP79.1); clear HP79; have n0_ := Aside0.mk (Kd.R_over' (v := (.slice (some ⟨go68, 0, none⟩) x9_2.length co75)) (by (with_reducible repeat (first | apply Kd.R_alloc | apply Kd.R_drewN | apply Kd.R_drew)); exact HO_5.out) (Kd.R_typed HO_9.out) (by decide) hg); have n1_ := Aside0.mk (Kd.R_after (v := (.slice (some ⟨go68, 0, none⟩) x9_2.length co75)) (v1 := (.slice (some ⟨go68, 0, none⟩) x9_2.length co75)) (ok := (fun _ => True)) (by (with_reducible repeat (first | apply Kd.R_alloc | apply Kd.R_drewN | apply Kd.R_drew)); exact HO_7.out) hg (.inl rfl)); have n2_ := Aside0.mk (hp_); have n3_ := Aside0.mk ((by rw [hw]; exact below_set (HB.out) GB68.out : Below w.heap.size w w80)); clear HO_5; clear HO_7; clear HO_9; clear HB; have HO_5 := n0_; have HO_7 := n1_; have HO_9 := n2_; have HB := n3_; clear n0_ n1_ n2_ n3_; clear hg hw hp_))
                                              go_roundg kj24
                                              case measure => have := HK1.out; have := HK2.out; have := HJ24.out; omega
                                              case rel => exact ⟨(y191), (ji69), (by first | rfl | (simp; done) | (simp only [← hji69] <;> (first | rfl | simp)) | (simp [*]; done)), H', ⟨by have := HK1.out; have := HK2.out; have := HJ24.out; omega⟩, ⟨by (with_reducible repeat (first | apply Kd.R_alloc | apply Kd.R_drewN | apply Kd.R_drew)); exact HO_5.out⟩, ⟨by (with_reducible repeat (first | apply Kd.R_alloc | apply Kd.R_drewN | apply Kd.R_drew)); exact Kd.R_mono HO_7.out (fun _ hk => hk.2)⟩, ⟨by (with_reducible repeat (first | apply Kd.R_alloc | apply Kd.R_drewN | apply Kd.R_drew)); exact HO_9.out⟩, ⟨by repeat (first | (with_reducible first | exact HB.out | apply below_alloc | apply pw_below_drewN | apply below_drew1) | exact HB.out)⟩⟩
                                            · replace c73 := Bool.eq_false_iff.mpr c73
                                              subst c73
                                              have H1 : ((glob_part_many.f ((rd_T77 t164 x38_2).f0) ((rd_T77 t164 x38_2).f1)).bind fun t193 => (glob_Match.l1 kj24 a1 t164 x7_1 x29_1 (y189.set ((ji69) : Int).toNat (!t193)) (a1.size : Int) x29_1 (t164.length : Int) ji69)) = some r := by rw [if_neg (show ¬ (false = true) by decide)] at H; exact H
                                              clear H
                                              have H := H1
                                              clear H1
                                              replace H := Option.bind_eq_some_iff.mp H
                                              obtain ⟨t193, A810, H⟩ := H
                                              replace H : (glob_Match.l1 kj24 a1 t164 x7_1 x29_1 (y189.set ((ji69) : Int).toNat (!t193)) (a1.size : Int) x29_1 (t164.length : Int) ji69) = some r := H
                                              have A81 := Aside0.mk A810
                                              clear A810
                                              obtain ⟨y194, hy194⟩ : ∃ y_ : List Bool, y_ = (y189.set ((ji69) : Int).toNat (!t193)) := ⟨_, rfl⟩
                                              replace H : (glob_Match.l1 kj24 a1 t164 x7_1 x29_1 y194 (a1.size : Int) x29_1 (t164.length : Int) ji69) = some r := by first | (rw [hy194]; with_reducible exact H) | (have H2_ := (Option.bind_some _ _).symm.trans H; rw [hy194]; with_reducible exact H2_) | (have H2_ := (Option.bind_some _ _).symm.trans H; with_reducible exact H2_) | with_reducible exact H | (rw [hy194]; exact H) | exact H
                                              have Ny194 := Aside0.mk hy194
                                              clear hy194
                                              have H' := Aside0.mk H
                                              clear H
                                              obtain ⟨Ao83, co83, eo83⟩ := Kd.R_slice HO_9.out
                                              subst eo83
                                              have p180 : 0 ≤ (x38_2 : Int) := of_decide_eq_true (by first | (with_reducible assumption) | assumption)
                                              have q180 : x38_2 < (x9_2.length : Int) := of_decide_eq_true (by first | (with_reducible assumption) | assumption)
                                              obtain ⟨ad180, e180, hx180_0⟩ := Kd.at_bool (Kd.R_reads' HO_9.out).2.2 x38_2 p180 q180
                                              (try rw [← Nbq43.out] at hx180_0)
                                              (try rw [← Nbq72.out] at hx180_0)
                                              cases e180
                                              replace p180 := eq_true p180
                                              replace q180 := eq_true q180
                                              have p187 : 0 ≤ (x38_2 : Int) := of_decide_eq_true (by first | (with_reducible assumption) | assumption)
                                              have q187 : x38_2 < (t164.length : Int) := of_decide_eq_true (by first | (with_reducible assumption) | assumption)
                                              obtain ⟨ad187, e187, hx187_0, hx187_1⟩ := at_T77 (Kd.R_reads' HO_5.out).2.2 x38_2 p187 q187
                                              cases e187
                                              replace p187 := eq_true p187
                                              replace q187 := eq_true q187
                                              go_wp2_with (first | (go_at_call 41; (with_reducible refine (glob_part_many.calls ((rd_T77 t164 x38_2).f0) ((rd_T77 t164 x38_2).f1) t188 _ A67.out).mono ?_); rintro e w84 ⟨rfl, hb⟩; have n0_ := Aside0.mk (Kd.R_below (by (with_reducible repeat (first | apply Kd.R_alloc | apply Kd.R_drewN | apply Kd.R_drew)); exact HO_5.out) hb); have n1_ := Aside0.mk (Kd.R_below (by (with_reducible repeat (first | apply Kd.R_alloc | apply Kd.R_drewN | apply Kd.R_drew)); exact HO_7.out) hb); have n2_ := Aside0.mk (Kd.R_below (by (with_reducible repeat (first | apply Kd.R_alloc | apply Kd.R_drewN | apply Kd.R_drew)); exact HO_9.out) hb); have n3_ := Aside0.mk (below_step (by repeat (first | (with_reducible first | exact HB.out | apply below_alloc | apply pw_below_drewN | apply below_drew1) | exact HB.out)) hb); clear HO_5; clear HO_7; clear HO_9; clear HB; have HO_5 := n0_; have HO_7 := n1_; have HO_9 := n2_; have HB := n3_; clear n0_ n1_ n2_ n3_; (try clear hb); (try clear hb2); (try clear hk); (try clear hi); have p68 : 0 ≤ (x38_2 : Int) := of_decide_eq_true (by first | (with_reducible assumption) | assumption); have q68 : (x38_2 : Int) < ((x9_2.length : Int) : Int) := of_decide_eq_true (by first | (with_reducible assumption) | assumption); obtain ⟨go68, co68, eo68, gb68, gl68, cl68, HG68⟩ := Kd.R_form HO_9.out (by omega); (first | cases eo68 | (injection eo68 with ea_ en_ ec_; (first | subst ea_ | (injection ea_ with ea_; subst ea_)); subst ec_; clear en_)); have GB68 := Aside0.mk gb68; have GG68 := Aside0.mk HG68; clear gb68 gl68 HG68; (first | simp only [add_plain] at hx180_0 | skip); obtain ⟨hx68_0, hf68_0⟩ := Kd.R_celln false HO_9.out (x38_2 : Int) p68 q68; replace p68 := eq_true p68; replace q68 := eq_true q68; obtain ⟨hy85_, hz85_⟩ := Kd.R_celln false HO_9.out (x38_2 : Int) (of_decide_eq_true (by first | (with_reducible assumption) | assumption)) (of_decide_eq_true (by first | (with_reducible assumption) | assumption)); have HP85 := Kd.R_putg HO_9.out (x38_2 : Int) t188) | ((with_reducible refine gate_store (t := 4) (p := 68) rfl ?_); refine store_event (t := 4) (p := 68) (v := ?vo_w86) (w1 := (w84.setCell ⟨go68, (x38_2 : Int).toNat, none⟩ (.bool t188))) ?hg ?ho ?hn ?hr ?_; (case ho => rfl); (case hg => rfl); (case hn => rfl); (case hr => first | (go_simp; done) | (go_simp; rfl)); intro w86 hw; have hg : w84.grownBy w86 (some go68) := (by rw [hw]; exact HP85.2); have hp_ : Kd.R Kd.bool 4 w86 w.heap.size (fun k_ => some k_ ≠ (u7 : Value).ownBlock) (.slice (some ⟨go68, 0, none⟩) x9_2.length co83) y189 := (by rw [hw, Ny189.out]; exact HP85.1); clear HP85; have n0_ := Aside0.mk (Kd.R_over' (v := (.slice (some ⟨go68, 0, none⟩) x9_2.length co83)) (by (with_reducible repeat (first | apply Kd.R_alloc | apply Kd.R_drewN | apply Kd.R_drew)); exact HO_5.out) (Kd.R_typed HO_9.out) (by decide) hg); have n1_ := Aside0.mk (Kd.R_after (v := (.slice (some ⟨go68, 0, none⟩) x9_2.length co83)) (v1 := (.slice (some ⟨go68, 0, none⟩) x9_2.length co83)) (ok := (fun _ => True)) (by (with_reducible repeat (first | apply Kd.R_alloc | apply Kd.R_drewN | apply Kd.R_drew)); exact Kd.R_mono HO_7.out (fun _ hk => ⟨trivial, hk⟩)) hg (.inl rfl)); have n2_ := Aside0.mk (hp_); have n3_ := Aside0.mk ((by rw [hw]; exact below_set (HB.out) GB68.out : Below w.heap.size w w86)); clear HO_5; clear HO_7; clear HO_9; clear HB; have HO_5 := n0_; have HO_7 := n1_; have HO_9 := n2_; have HB := n3_; clear n0_ n1_ n2_ n3_; clear hg hw hp_; have p190 : 0 ≤ ((ji69) : Int) := of_decide_eq_true (by first | (with_reducible assumption) | assumption); have q190 : (ji69) < (y189.length : Int) := (by have h_ : ((ji69) : Int) < ((x9_2.length : Int) : Int) := of_decide_eq_true (by first | (with_reducible assumption) | assumption); first | (have e_ := (Kd.R_reads' HO_9.out).1; omega) | simpa only [Ny189.out, List.length_set] using h_); have ql190 : (((ji69) : Int) < ((x9_2.length : Int) : Int)) = True := eq_true (of_decide_eq_true (by first | (with_reducible assumption) | assumption)); obtain ⟨ad190, e190, hx190_0⟩ := Kd.at_bool (Kd.R_reads' HO_9.out).2.2 (ji69) p190 q190; (try rw [← Nbq43.out] at hx190_0); (try rw [← Nbq72.out] at hx190_0); obtain rfl : (⟨go68, 0, none⟩ : Addr) = ad190 := (by injection e190); (first | simp only [add_plain] at hx190_0 | simp only [add_at] at hx190_0 | simp only [Addr.add, Nat.zero_add] at hx190_0 | skip); replace p190 := eq_true p190; replace q190 := eq_true q190; have p192 : 0 ≤ (x38_2 : Int) := of_decide_eq_true (by first | (with_reducible assumption) | assumption); have q192 : x38_2 < (t164.length : Int) := of_decide_eq_true (by first | (with_reducible assumption) | assumption); obtain ⟨ad192, e192, hx192_0, hx192_1⟩ := at_T77 (Kd.R_reads' HO_5.out).2.2 x38_2 p192 q192; obtain rfl : ad187 = ad192 := (by injection e192); replace p192 := eq_true p192; replace q192 := eq_true q192) | (go_at_call 41; (with_reducible refine (glob_part_many.calls ((rd_T77 t164 x38_2).f0) ((rd_T77 t164 x38_2).f1) t193 _ A81.out).mono ?_); rintro e w87 ⟨rfl, hb⟩; have n0_ := Aside0.mk (Kd.R_below (by (with_reducible repeat (first | apply Kd.R_alloc | apply Kd.R_drewN | apply Kd.R_drew)); exact HO_5.out) hb); have n1_ := Aside0.mk (Kd.R_below (by (with_reducible repeat (first | apply Kd.R_alloc | apply Kd.R_drewN | apply Kd.R_drew)); exact HO_7.out) hb); have n2_ := Aside0.mk (Kd.R_below (by (with_reducible repeat (first | apply Kd.R_alloc | apply Kd.R_drewN | apply Kd.R_drew)); exact HO_9.out) hb); have n3_ := Aside0.mk (below_step (by repeat (first | (with_reducible first | exact HB.out | apply below_alloc | apply pw_below_drewN | apply below_drew1) | exact HB.out)) hb); clear HO_5; clear HO_7; clear HO_9; clear HB; have HO_5 := n0_; have HO_7 := n1_; have HO_9 := n2_; have HB := n3_; clear n0_ n1_ n2_ n3_; (try clear hb); (try clear hb2); (try clear hk); (try clear hi); have p82 : 0 ≤ ((ji69) : Int) := of_decide_eq_true (by first | (with_reducible assumption) | assumption); have q82 : ((ji69) : Int) < ((x9_2.length : Int) : Int) := of_decide_eq_true (by first | (with_reducible assumption) | assumption); obtain ⟨hx82_0, hf82_0⟩ := Kd.R_celln false HO_9.out ((ji69) : Int) p82 q82; replace p82 := eq_true p82; replace q82 := eq_true q82; obtain ⟨hy88_, hz88_⟩ := Kd.R_celln false HO_9.out ((ji69) : Int) (of_decide_eq_true (by first | (with_reducible assumption) | assumption)) (of_decide_eq_true (by first | (with_reducible assumption) | assumption)); have HP88 := Kd.R_putg HO_9.out ((ji69) : Int) (!t193)) | ((with_reducible refine gate_store (t := 4) (p := 85) rfl ?_); refine store_event (t := 4) (p := 85) (v := ?vo_w89) (w1 := (w87.setCell ⟨go68, ((ji69) : Int).toNat, none⟩ (.bool (!t193)))) ?hg ?ho ?hn ?hr ?_; (case ho => rfl); (case hg => rfl); (case hn => rfl); (case hr => first | (go_simp; done) | (go_simp; rfl)); intro w89 hw; have hg : w87.grownBy w89 (some go68) := (by rw [hw]; exact HP88.2); have hp_ : Kd.R Kd.bool 4 w89 w.heap.size (fun k_ => some k_ ≠ (u7 : Value).ownBlock) (.slice (some ⟨go68, 0, none⟩) x9_2.length co83) y194 := (by rw [hw, Ny194.out]; exact HP88.1); clear HP88; have n0_ := Aside0.mk (Kd.R_over' (v := (.slice (some ⟨go68, 0, none⟩) x9_2.length co83)) (by (with_reducible repeat (first | apply Kd.R_alloc | apply Kd.R_drewN | apply Kd.R_drew)); exact HO_5.out) (Kd.R_typed HO_9.out) (by decide) hg); have n1_ := Aside0.mk (Kd.R_after (v := (.slice (some ⟨go68, 0, none⟩) x9_2.length co83)) (v1 := (.slice (some ⟨go68, 0, none⟩) x9_2.length co83)) (ok := (fun _ => True)) (by (with_reducible repeat (first | apply Kd.R_alloc | apply Kd.R_drewN | apply Kd.R_drew)); exact HO_7.out) hg (.inl rfl)); have n2_ := Aside0.mk (hp_); have n3_ := Aside0.mk ((by rw [hw]; exact below_set (HB.out) GB68.out : Below w.heap.size w w89)); clear HO_5; clear HO_7; clear HO_9; clear HB; have HO_5 := n0_; have HO_7 := n1_; have HO_9 := n2_; have HB := n3_; clear n0_ n1_ n2_ n3_; clear hg hw hp_))
                                              go_roundg kj24
                                              case measure => have := HK1.out; have := HK2.out; have := HJ24.out; omega
                                              case rel => exact ⟨(y194), (ji69), (by first | rfl | (simp; done) | (simp only [← hji69] <;> (first | rfl | simp)) | (simp [*]; done)), H', ⟨by have := HK1.out; have := HK2.out; have := HJ24.out; omega⟩, ⟨by (with_reducible repeat (first | apply Kd.R_alloc | apply Kd.R_drewN | apply Kd.R_drew)); exact HO_5.out⟩, ⟨by (with_reducible repeat (first | apply Kd.R_alloc | apply Kd.R_drewN | apply Kd.R_drew)); exact Kd.R_mono HO_7.out (fun _ hk => hk.2)⟩, ⟨by (with_reducible repeat (first | apply Kd.R_alloc | apply Kd.R_drewN | apply Kd.R_drew)); exact HO_9.out⟩, ⟨by repeat (first | (with_reducible first | exact HB.out | apply below_alloc | apply pw_below_drewN | apply below_drew1) | exact HB.out)⟩⟩
                                          · rw [if_neg c71] at H
                                            exact absurd H (by simp)
                                        · rw [if_neg c70] at H
                                          exact absurd H (by simp)
                                      · rw [if_neg c66] at H
                                        exact absurd H (by simp)
                                  · rw [if_neg c42] at H
                                    exact absurd H (by simp)
                                · rw [if_neg c41] at H
                                  exact absurd H (by simp)
                              · replace c40 := Bool.eq_false_iff.mpr c40
                                subst c40
                                have H1 : (glob_Match.l1 kj24 a1 t164 x7_1 x29_1 x9_2 (a1.size : Int) x29_1 (t164.length : Int) (wrap64 (x38_2 + 1))) = some r := by rw [if_neg (show ¬ (false = true) by decide)] at H; exact H
                                clear H
                                have H := H1
                                clear H1
                                have H' := Aside0.mk H
                                clear H
                                go_wp2
                                go_roundg kj24
                                case measure => have := HK1.out; have := HK2.out; have := HJ24.out; omega
                                case rel => exact ⟨(x9_2), (wrap64 (x38_2 + 1)), (by first | rfl | (simp; done) | (simp [*]; done)), H', ⟨by have := HK1.out; have := HK2.out; have := HJ24.out; omega⟩, ⟨by (with_reducible repeat (first | apply Kd.R_alloc | apply Kd.R_drewN | apply Kd.R_drew)); exact HO_5.out⟩, ⟨by (with_reducible repeat (first | apply Kd.R_alloc | apply Kd.R_drewN | apply Kd.R_drew)); exact HO_7.out⟩, ⟨by (with_reducible repeat (first | apply Kd.R_alloc | apply Kd.R_drewN | apply Kd.R_drew)); exact HO_9.out⟩, ⟨by repeat (first | (with_reducible first | exact HB.out | apply below_alloc | apply pw_below_drewN | apply below_drew1) | exact HB.out)⟩⟩
                        · rw [if_neg c24] at H
                          have c24b0 : decide (x38_2 < (t164.length : Int)) = false := decide_eq_false c24
                          clear c24
                          replace H := Option.bind_eq_some_iff.mp H
                          obtain ⟨t195, A900, H⟩ := H
                          replace H : ((slices_Contains_bool_bool.f k2 t195 true).bind fun t196 => (if t196 = true then (glob_Match.l0 k2 a1 t164 t195 (a1.size : Int) (wrap64 (x29_1 + 1))) else (some false))) = some r := H
                          have A90 := Aside0.mk A900
                          clear A900
                          replace H := Option.bind_eq_some_iff.mp H
                          obtain ⟨t196, A910, H⟩ := H
                          replace H : (if t196 = true then (glob_Match.l0 k2 a1 t164 t195 (a1.size : Int) (wrap64 (x29_1 + 1))) else (some false)) = some r := H
                          have A91 := Aside0.mk A910
                          clear A910
                          by_cases c92 : t196 = true
                          · subst c92
                            have H1 : (glob_Match.l0 k2 a1 t164 t195 (a1.size : Int) (wrap64 (x29_1 + 1))) = some r := by rw [if_pos rfl] at H; exact H
                            clear H
                            have H := H1
                            clear H1
                            have H' := Aside0.mk H
                            clear H
                            obtain ⟨Ao93, co93, eo93⟩ := Kd.R_slice HO_9.out
                            subst eo93
                            go_wp2_with (first | ((with_reducible refine gate_callee (f := 39) rfl ?_); refine goesL_ (some 89) rfl rfl Try.func39 (by kernel_rfl) rfl #[.slice Ao12 t164.length co12, .slice Ao93 x9_2.length co93] rfl (by (try simp only [List.map_toArray, List.map_cons, List.map_nil]); first | done | rfl | (simp only [List.length_drop, List.length_take]; rfl)) ?_; (with_reducible refine (glob_free.calls k2 _ _ t164 (fun k_ => some k_ = (.slice Ao93 x9_2.length co93 : Value).ownBlock) (.slice Ao93 x9_2.length co93) x9_2 t195 w _ ?side1 ?side2 ?side3 ?side4 A90.out).mono ?_); (case side1 => repeat (first | (with_reducible first | exact HB.out | apply below_alloc | apply pw_below_drewN | apply below_drew1) | exact HB.out)); (case side2 => exact Kd.C_kept_own ((Kd.R_apart' HO_5.out (Kd.R_typed HO_9.out) (by decide))) (fun k_ hk_ hs_ => (hk_.2) hs_)); (case side3 => exact (Kd.R_reads' HO_5.out).2.1); (case side4 => exact Kd.R_tight rfl HO_9.out); rintro e w94 ⟨rfl, hy0, hb, hkp⟩; refine ⟨_, rfl, ?_⟩; have n0_ := Aside0.mk (Kd.R_mono (ok' := fun k_ => True) (Kd.R_keptB ((Kd.R_apart' HO_5.out (Kd.R_typed HO_9.out) (by decide))) hkp (fun k_ hk_ hs_ => (hk_.2) hs_)) (fun k_ hk_ => trivial)); have n1_ := Aside0.mk (Kd.R_mono (ok' := fun k_ => some k_ ≠ (.slice Ao93 x9_2.length co93 : Value).ownBlock) (Kd.R_keptB (HO_7.out) hkp (fun k_ hk_ hs_ => (hk_) hs_)) (fun k_ hk_ => hk_.1)); have n2_ := Aside0.mk (Kd.R_reok rfl hy0 (fun k_ e_ => HO_9.out.1 k_ e_)); have n3_ := Aside0.mk (hb); clear HO_5; clear HO_7; clear HO_9; clear HB; have HO_5 := n0_; have HO_7 := n1_; have HO_9 := n2_; have HB := n3_; clear n0_ n1_ n2_ n3_; (try clear hb); (try clear hkp); (try clear hy0)) | ((with_reducible refine gate_callee (f := 42) rfl ?_); refine goesL_ (some 91) rfl rfl Try.func42 (by kernel_rfl) rfl #[.slice Ao93 t195.length co93, .bool true] rfl (by (try simp only [List.map_toArray, List.map_cons, List.map_nil]); first | done | (rw [show t195.length = x9_2.length from (Kd.R_reads' HO_9.out).1.symm] <;> rfl) | rfl | (simp only [List.length_drop, List.length_take]; rfl)) ?_; (with_reducible refine (slices_Contains_bool_bool.calls k2 _ _ t195 true true _ ?side1 ?side2 A91.out).mono ?_); (case side1 => repeat (first | exact (Kd.R_reads' HO_9.out).2.2 | (with_reducible refine Kd.C_alloc ?_ _) | (with_reducible refine Kd.C_drewN ?_ _) | (with_reducible refine Kd.C_drew ?_))); (case side2 => rw [show t195.length = x9_2.length from (Kd.R_reads' HO_9.out).1.symm]; exact (Kd.R_reads' HO_9.out).2.1); rintro e w' ⟨rfl, ⟨nd, rfl⟩⟩; refine ⟨_, rfl, ?_⟩))
                            go_roundg k2
                            case measure => have := HK1.out; have := HK2.out; omega
                            case rel => exact ⟨(t195), (wrap64 (x29_1 + 1)), (by first | rfl | (simp; done) | (simp [*]; done)), H', ⟨by have := HK1.out; have := HK2.out; omega⟩, ⟨by (with_reducible repeat (first | apply Kd.R_alloc | apply Kd.R_drewN | apply Kd.R_drew)); exact HO_5.out⟩, ⟨by (with_reducible repeat (first | apply Kd.R_alloc | apply Kd.R_drewN | apply Kd.R_drew)); exact Kd.R_mono HO_9.out (fun _ hk => trivial)⟩, ⟨by repeat (first | (with_reducible first | exact HB.out | apply below_alloc | apply pw_below_drewN | apply below_drew1) | exact HB.out)⟩⟩
                          · replace c92 := Bool.eq_false_iff.mpr c92
                            subst c92
                            have H1 : (some false) = some r := by rw [if_neg (show ¬ (false = true) by decide)] at H; exact H
                            clear H
                            have H := H1
                            clear H1
                            obtain rfl := Option.some.inj H
                            obtain ⟨Ao95, co95, eo95⟩ := Kd.R_slice HO_9.out
                            subst eo95
                            go_wp2_with (first | ((with_reducible refine gate_callee (f := 39) rfl ?_); refine goesL_ (some 89) rfl rfl Try.func39 (by kernel_rfl) rfl #[.slice Ao12 t164.length co12, .slice Ao95 x9_2.length co95] rfl (by (try simp only [List.map_toArray, List.map_cons, List.map_nil]); first | done | rfl | (simp only [List.length_drop, List.length_take]; rfl)) ?_; (with_reducible refine (glob_free.calls k2 _ _ t164 (fun k_ => some k_ = (.slice Ao95 x9_2.length co95 : Value).ownBlock) (.slice Ao95 x9_2.length co95) x9_2 t195 w _ ?side1 ?side2 ?side3 ?side4 A90.out).mono ?_); (case side1 => repeat (first | (with_reducible first | exact HB.out | apply below_alloc | apply pw_below_drewN | apply below_drew1) | exact HB.out)); (case side2 => exact Kd.C_kept_own ((Kd.R_apart' HO_5.out (Kd.R_typed HO_9.out) (by decide))) (fun k_ hk_ hs_ => (hk_.2) hs_)); (case side3 => exact (Kd.R_reads' HO_5.out).2.1); (case side4 => exact Kd.R_tight rfl HO_9.out); rintro e w96 ⟨rfl, hy0, hb, hkp⟩; refine ⟨_, rfl, ?_⟩; have n0_ := Aside0.mk (Kd.R_mono (ok' := fun k_ => True) (Kd.R_keptB ((Kd.R_apart' HO_5.out (Kd.R_typed HO_9.out) (by decide))) hkp (fun k_ hk_ hs_ => (hk_.2) hs_)) (fun k_ hk_ => trivial)); have n1_ := Aside0.mk (Kd.R_mono (ok' := fun k_ => some k_ ≠ (.slice Ao95 x9_2.length co95 : Value).ownBlock) (Kd.R_keptB (HO_7.out) hkp (fun k_ hk_ hs_ => (hk_) hs_)) (fun k_ hk_ => hk_.1)); have n2_ := Aside0.mk (Kd.R_reok rfl hy0 (fun k_ e_ => HO_9.out.1 k_ e_)); have n3_ := Aside0.mk (hb); clear HO_5; clear HO_7; clear HO_9; clear HB; have HO_5 := n0_; have HO_7 := n1_; have HO_9 := n2_; have HB := n3_; clear n0_ n1_ n2_ n3_; (try clear hb); (try clear hkp); (try clear hy0)) | ((with_reducible refine gate_callee (f := 42) rfl ?_); refine goesL_ (some 91) rfl rfl Try.func42 (by kernel_rfl) rfl #[.slice Ao95 t195.length co95, .bool true] rfl (by (try simp only [List.map_toArray, List.map_cons, List.map_nil]); first | done | (rw [show t195.length = x9_2.length from (Kd.R_reads' HO_9.out).1.symm] <;> rfl) | rfl | (simp only [List.length_drop, List.length_take]; rfl)) ?_; (with_reducible refine (slices_Contains_bool_bool.calls k2 _ _ t195 true false _ ?side1 ?side2 A91.out).mono ?_); (case side1 => repeat (first | exact (Kd.R_reads' HO_9.out).2.2 | (with_reducible refine Kd.C_alloc ?_ _) | (with_reducible refine Kd.C_drewN ?_ _) | (with_reducible refine Kd.C_drew ?_))); (case side2 => rw [show t195.length = x9_2.length from (Kd.R_reads' HO_9.out).1.symm]; exact (Kd.R_reads' HO_9.out).2.1); rintro e w' ⟨rfl, ⟨nd, rfl⟩⟩; refine ⟨_, rfl, ?_⟩))
                            go_ret
                            exact ⟨by first | rfl | (simp [errW_none, errW_some] <;> rfl) | (simp only [← hji5, ← hji19]; first | rfl | (simp [errW_none, errW_some] <;> rfl)) | (simp [*, errW_none, errW_some] <;> rfl), by repeat (first | (with_reducible first | exact HB.out | apply below_alloc | apply pw_below_drewN | apply below_drew1) | exact HB.out)⟩
                  · rw [if_neg c21] at H
                    exact absurd H (by simp)
                · rw [if_neg c20] at H
                  exact absurd H (by simp)
              · rw [if_neg c18] at H
                have c18b0 : decide (x29_1 < (a1.size : Int)) = false := decide_eq_false c18
                clear c18
                by_cases c97 : 0 ≤ (t164.length : Int)
                · rw [if_pos c97] at H
                  have c97b0 : decide (0 ≤ (t164.length : Int)) = true := decide_eq_true c97
                  have c97b1 : decide (0 ≤ t164.length) = true := decide_eq_true (by omega)
                  clear c97
                  by_cases c98 : (t164.length : Int) < (x7_1.length : Int)
                  · rw [if_pos c98] at H
                    have c98b0 : decide ((t164.length : Int) < (x7_1.length : Int)) = true := decide_eq_true c98
                    have c98b1 : decide (t164.length < x7_1.length) = true := decide_eq_true (Int.ofNat_lt.mp c98)
                    clear c98
                    obtain rfl := Option.some.inj H
                    obtain ⟨Ao99, co99, eo99⟩ := Kd.R_slice HO_7.out
                    subst eo99
                    have p173 : 0 ≤ ((t164.length : Int) : Int) := of_decide_eq_true (by first | (with_reducible assumption) | assumption)
                    have q173 : (t164.length : Int) < (x7_1.length : Int) := of_decide_eq_true (by first | (with_reducible assumption) | assumption)
                    obtain ⟨ad173, e173, hx173_0⟩ := Kd.at_bool (Kd.R_reads' HO_7.out).2.2 (t164.length : Int) p173 q173
                    (try (have hx173_0n := hx173_0; simp only [Int.toNat_natCast] at hx173_0n))
                    cases e173
                    (try simp only [Go.IntWalk.toNatUp] at hx173_0)
                    replace p173 := eq_true p173
                    replace q173 := eq_true q173
                    go_wp2
                    go_ret
                    exact ⟨by first | rfl | (simp [errW_none, errW_some] <;> rfl) | (simp only [← hji5]; first | rfl | (simp [errW_none, errW_some] <;> rfl)) | (simp [*, errW_none, errW_some] <;> rfl), by repeat (first | (with_reducible first | exact HB.out | apply below_alloc | apply pw_below_drewN | apply below_drew1) | exact HB.out)⟩
                  · rw [if_neg c98] at H
                    exact absurd H (by simp)
                · rw [if_neg c97] at H
                  exact absurd H (by simp)
        · rw [if_neg c8] at H
          exact absurd H (by simp)
      · rw [if_neg c7] at H
        exact absurd H (by simp)
    · rw [if_neg c6] at H
      exact absurd H (by simp)
  · replace c4 := Bool.eq_false_iff.mpr c4
    subst c4
    have H1 : (some false) = some r := by rw [if_neg (show ¬ (false = true) by decide)] at H; exact H
    clear H
    have H := H1
    clear H1
    obtain rfl := Option.some.inj H
    go_enter Try.func26, Try.ntmps26
    go_wp2_with (first | ((with_reducible refine gate_callee (f := 33) rfl ?_); refine goesL_ (some 13) rfl rfl Try.func33 (by kernel_rfl) rfl #[.string a0] rfl (by (try simp only [List.map_toArray, List.map_cons, List.map_nil]); first | done | rfl | (simp only [List.length_drop, List.length_take]; rfl)) ?_; (with_reducible refine (glob_parts.calls k a0 t164 false _ A3.out).mono ?_); rintro e w100 ⟨v166, rfl, ho0, hb⟩; refine ⟨_, rfl, ?_⟩; have n0_ := Aside0.mk (Kd.R_lower ho0 (below_size (by repeat (first | (with_reducible first | exact HB.out | apply below_alloc | apply pw_below_drewN | apply below_drew1) | exact HB.out)))); have n1_ := Aside0.mk (below_step (by repeat (first | (with_reducible first | exact HB.out | apply below_alloc | apply pw_below_drewN | apply below_drew1) | exact HB.out)) hb); clear HB; have HO167 := n0_; have HB := n1_; clear n0_ n1_; (try clear hb); (try clear hb2); (try clear hk); (try clear hi); (try clear ho0)))
    go_ret
    exact ⟨by first | rfl | (simp [errW_none, errW_some] <;> rfl) | (simp [*, errW_none, errW_some] <;> rfl), by repeat (first | (with_reducible first | exact HB.out | apply below_alloc | apply pw_below_drewN | apply below_drew1) | exact HB.out)⟩

end Go.Proofs.Ytjliebggdphmpaa.G
