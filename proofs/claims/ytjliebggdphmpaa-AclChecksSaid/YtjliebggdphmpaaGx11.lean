-- PRINTED by print.py (a twelfth state) out of the translation. Not trusted: Lean checks it.
import Derived.Test.YtjliebggdphmpaaGx0
import Derived.Test.YtjliebggdphmpaaGx8
namespace Go.Proofs.Ytjliebggdphmpaa.G
open Go.RowKit Go.Proofs.YtjliebggdphmpaaW.PrintWords Go.Proofs.YtjliebggdphmpaaW.PrintLast Go.Proofs.YtjliebggdphmpaaW.PrintMore
attribute [local go_sem] max2_int min2_int max_two min_two max_three min_three max_four min_four   -- for this text's walks alone
set_option linter.unusedVariables false
set_option linter.unusedSimpArgs false

/-! ### ambryref23_Host: function 30 -/
def ambryref23_Host.f (a0 : ByteArray) : Option (ByteArray) := (ambryref10_Low.f a0).bind fun t274 => (if (t274.size : Int) ≥ 3 then (if 0 ≤ (wrap64 ((t274.size : Int) - 3)) then (if (wrap64 ((t274.size : Int) - 3)) ≤ (t274.size : Int) then (if (t274.extract ((wrap64 ((t274.size : Int) - 3)) : Int).toNat t274.size).toList = ([58, 56, 48] : List UInt8) then (some (t274.extract 0 ((wrap64 ((t274.size : Int) - 3)) : Int).toNat)) else (some t274)) else (none)) else (none)) else (some t274))
set_option maxHeartbeats 8000000 in
set_option maxRecDepth 100000 in
theorem ambryref23_Host.calls (a0 : ByteArray) (r : ByteArray) (w : World) (h : ambryref23_Host.f a0 = some r) :
  Calls Try.prog 30 #[.string a0] w fun e w' => e = .returned (.string r) ∧ Below w.heap.size w w' := by
 have HB := Aside0.mk (Below.refl w.heap.size w)
 have H : ((ambryref10_Low.f a0).bind fun t274 => (if (t274.size : Int) ≥ 3 then (if 0 ≤ (wrap64 ((t274.size : Int) - 3)) then (if (wrap64 ((t274.size : Int) - 3)) ≤ (t274.size : Int) then (if (t274.extract ((wrap64 ((t274.size : Int) - 3)) : Int).toNat t274.size).toList = ([58, 56, 48] : List UInt8) then (some (t274.extract 0 ((wrap64 ((t274.size : Int) - 3)) : Int).toNat)) else (some t274)) else (none)) else (none)) else (some t274))) = some r := h
 clear h
 replace H := Option.bind_eq_some_iff.mp H
 obtain ⟨t274, A20, H⟩ := H
 replace H : (if (t274.size : Int) ≥ 3 then (if 0 ≤ (wrap64 ((t274.size : Int) - 3)) then (if (wrap64 ((t274.size : Int) - 3)) ≤ (t274.size : Int) then (if (t274.extract ((wrap64 ((t274.size : Int) - 3)) : Int).toNat t274.size).toList = ([58, 56, 48] : List UInt8) then (some (t274.extract 0 ((wrap64 ((t274.size : Int) - 3)) : Int).toNat)) else (some t274)) else (none)) else (none)) else (some t274)) = some r := H
 have A2 := Aside0.mk A20
 clear A20
 by_cases c3 : (t274.size : Int) ≥ 3
 ·rw [if_pos c3] at H
  have c3b0 : decide (3 ≤ (t274.size : Int)) = true := decide_eq_true c3
  have c3b1 : decide (3 ≤ t274.size) = true := decide_eq_true (by omega)
  clear c3
  obtain ⟨ji4, hji4⟩ : ∃ j_ : Int, (wrap64 ((t274.size : Int) - 3)) = j_ := ⟨_, rfl⟩
  replace H : (if 0 ≤ (ji4) then (if (ji4) ≤ (t274.size : Int) then (if (t274.extract ((ji4) : Int).toNat t274.size).toList = ([58, 56, 48] : List UInt8) then (some (t274.extract 0 ((ji4) : Int).toNat)) else (some t274)) else (none)) else (none)) = some r := by first | (rw [hji4] at H; exact H) | (simp only [hji4] at H ⊢; exact H)
  (try rw [hji4] at A2)
  have hji4w : (IntKind.i64.wrap ((t274.size : Int) - 3)) = ji4 := (i64_w _).trans hji4
  by_cases c5 : 0 ≤ (ji4)
  ·rw [if_pos c5] at H
   have c5b0 := eq_true c5
   have c5b1 : decide (0 ≤ (ji4)) = true := decide_eq_true c5
   clear c5
   by_cases c6 : (ji4) ≤ (t274.size : Int)
   ·rw [if_pos c6] at H
    have c6b0 := eq_true c6
    have c6b1 : decide ((ji4) ≤ (t274.size : Int)) = true := decide_eq_true c6
    clear c6
    by_cases c7 : (t274.extract ((ji4) : Int).toNat t274.size).toList = ([58, 56, 48] : List UInt8)
    ·rw [if_pos c7] at H
     have c7b0 : ((t274.extract ((ji4) : Int).toNat t274.size).toList == ([58, 56, 48] : List UInt8)) = true := beq_iff_eq.mpr c7
     have c7b1 : ((t274.extract ((ji4) : Int).toNat t274.size).toList != ([58, 56, 48] : List UInt8)) = false := bne_eq_false_iff_eq.mpr c7
     clear c7
     have c8b0 := eq_true (of_decide_eq_true (by first | (with_reducible assumption) | assumption) : 0 ≤ (ji4))
     have c9b0 := eq_true (of_decide_eq_true (by first | (with_reducible assumption) | assumption) : (ji4) ≤ (t274.size : Int))
     obtain rfl := Option.some.inj H
     go_enter Try.func30, Try.ntmps30
     go_wp2_with (first | ((with_reducible refine gate_callee (f := 45) rfl ?_); refine goesL_ (some 4) rfl rfl Try.func45 (by kernel_rfl) rfl #[.string a0] rfl (by (try simp only [List.map_toArray, List.map_cons, List.map_nil]); first | done | rfl | (simp only [List.length_drop, List.length_take]; rfl)) ?_; (with_reducible refine (ambryref10_Low.calls a0 t274 _ A2.out).mono ?_); rintro e w10 ⟨rfl, hb⟩; refine ⟨_, rfl, ?_⟩; have n0_ := Aside0.mk (below_step (by repeat (first | (with_reducible first | exact HB.out | apply below_alloc | apply pw_below_drewN | apply below_drew1) | exact HB.out)) hb); clear HB; have HB := n0_; clear n0_; (try clear hb); (try clear hb2); (try clear hk); (try clear hi)))
     go_ret
     exact ⟨by first | rfl | (simp [errW_none, errW_some] <;> rfl) | (simp only [← hji4]; first | rfl | (simp [errW_none, errW_some] <;> rfl)) | (simp [*, errW_none, errW_some] <;> rfl), by repeat (first | (with_reducible first | exact HB.out | apply below_alloc | apply pw_below_drewN | apply below_drew1) | exact HB.out)⟩
    ·rw [if_neg c7] at H
     have c7b0 : ((t274.extract ((ji4) : Int).toNat t274.size).toList == ([58, 56, 48] : List UInt8)) = false := beq_eq_false_iff_ne.mpr c7
     have c7b1 : ((t274.extract ((ji4) : Int).toNat t274.size).toList != ([58, 56, 48] : List UInt8)) = true := bne_iff_ne.mpr c7
     obtain rfl := Option.some.inj H
     go_enter Try.func30, Try.ntmps30
     go_wp2_with (first | ((with_reducible refine gate_callee (f := 45) rfl ?_); refine goesL_ (some 4) rfl rfl Try.func45 (by kernel_rfl) rfl #[.string a0] rfl (by (try simp only [List.map_toArray, List.map_cons, List.map_nil]); first | done | rfl | (simp only [List.length_drop, List.length_take]; rfl)) ?_; (with_reducible refine (ambryref10_Low.calls a0 t274 _ A2.out).mono ?_); rintro e w11 ⟨rfl, hb⟩; refine ⟨_, rfl, ?_⟩; have n0_ := Aside0.mk (below_step (by repeat (first | (with_reducible first | exact HB.out | apply below_alloc | apply pw_below_drewN | apply below_drew1) | exact HB.out)) hb); clear HB; have HB := n0_; clear n0_; (try clear hb); (try clear hb2); (try clear hk); (try clear hi)))
     go_ret
     exact ⟨by first | rfl | (simp [errW_none, errW_some] <;> rfl) | (simp only [← hji4]; first | rfl | (simp [errW_none, errW_some] <;> rfl)) | (simp [*, errW_none, errW_some] <;> rfl), by repeat (first | (with_reducible first | exact HB.out | apply below_alloc | apply pw_below_drewN | apply below_drew1) | exact HB.out)⟩
   ·rw [if_neg c6] at H
    exact absurd H (by simp)
  ·rw [if_neg c5] at H
   exact absurd H (by simp)
 ·rw [if_neg c3] at H
  have c3b0 : decide (3 ≤ (t274.size : Int)) = false := decide_eq_false c3
  have c3b1 : decide (3 ≤ t274.size) = false := decide_eq_false (by omega)
  clear c3
  obtain rfl := Option.some.inj H
  go_enter Try.func30, Try.ntmps30
  go_wp2_with (first | ((with_reducible refine gate_callee (f := 45) rfl ?_); refine goesL_ (some 4) rfl rfl Try.func45 (by kernel_rfl) rfl #[.string a0] rfl (by (try simp only [List.map_toArray, List.map_cons, List.map_nil]); first | done | rfl | (simp only [List.length_drop, List.length_take]; rfl)) ?_; (with_reducible refine (ambryref10_Low.calls a0 t274 _ A2.out).mono ?_); rintro e w12 ⟨rfl, hb⟩; refine ⟨_, rfl, ?_⟩; have n0_ := Aside0.mk (below_step (by repeat (first | (with_reducible first | exact HB.out | apply below_alloc | apply pw_below_drewN | apply below_drew1) | exact HB.out)) hb); clear HB; have HB := n0_; clear n0_; (try clear hb); (try clear hb2); (try clear hk); (try clear hi)))
  go_ret
  exact ⟨by first | rfl | (simp [errW_none, errW_some] <;> rfl) | (simp [*, errW_none, errW_some] <;> rfl), by repeat (first | (with_reducible first | exact HB.out | apply below_alloc | apply pw_below_drewN | apply below_drew1) | exact HB.out)⟩

end Go.Proofs.Ytjliebggdphmpaa.G
