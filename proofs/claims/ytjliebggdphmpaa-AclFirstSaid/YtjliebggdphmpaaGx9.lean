-- PRINTED by print.py (a twelfth state) out of the translation. Not trusted: Lean checks it.
import Derived.Test.YtjliebggdphmpaaGx0
import Derived.Test.YtjliebggdphmpaaGx7
import Derived.Test.YtjliebggdphmpaaGx8
namespace Go.Proofs.Ytjliebggdphmpaa.G
open Go.RowKit Go.Proofs.YtjliebggdphmpaaW.PrintWords Go.Proofs.YtjliebggdphmpaaW.PrintLast Go.Proofs.YtjliebggdphmpaaW.PrintMore
attribute [local go_sem] max2_int min2_int max_two min_two max_three min_three max_four min_four   -- for this text's walks alone
set_option linter.unusedVariables false
set_option linter.unusedSimpArgs false

/-! ### ambrylaw26_AclFirst: function 5 -/
def ambrylaw26_AclFirst.j0 : Nat → List (S23) → Bool → Bool → ByteArray → ByteArray → List (S72) → List Int → Option (Bool)
  | 0, _, _, _, _, _, _, _ => none
  | k + 1, x0, x2, x33, x238000, x238001, x238002, x238003 => if x33 = true then (some true) else ((some (([(⟨x2, (⟨#[42, 42]⟩ : ByteArray), (⟨#[42, 42]⟩ : ByteArray), (⟨#[42, 42]⟩ : ByteArray)⟩ : S23)] : List (S23)) : List (S23))).bind fun y243 => (if y243.length + x0.length < 2513169434916 then ((acl_Check.f k (y243 ++ x0) x238000 x238001 x238002 x238003).bind fun bt249 => ((acl_Check.f k x0 x238000 x238001 x238002 x238003).bind fun bt251 => ((some (([(⟨x2, (⟨#[42, 42]⟩ : ByteArray), (⟨#[42, 42]⟩ : ByteArray), (⟨#[120]⟩ : ByteArray)⟩ : S23)] : List (S23)) : List (S23))).bind fun y253 => (if y253.length + x0.length < 2513169434916 then ((acl_Check.f k (y253 ++ x0) x238000 x238001 x238002 x238003).bind fun bt259 => ((ambryref23_Split.f k x238001).bind fun bt261 => (if bt261.1.toList = ([120] : List UInt8) then (if (bt249.1 == x2) = true then (some (bt249.2 == 0)) else (some false)) else (if bt251.2 ≥ 0 then (if (bt249.1 == x2) = true then (if bt249.2 = 0 then (if (bt251.1 == bt259.1) = true then (some ((wrap64 (bt251.2 + 1)) == bt259.2)) else (some false)) else (some false)) else (some false)) else (if (bt249.1 == x2) = true then (if bt249.2 = 0 then (if (bt251.1 == bt259.1) = true then (some (bt251.2 == bt259.2)) else (some false)) else (some false)) else (some false)))))) else (none))))) else (none)))
def ambrylaw26_AclFirst.f (k : Nat) (l0 : List (S23)) (a1_0 : ByteArray) (a1_1 : ByteArray) (l1_2 : List (S72)) (l1_3 : List Int) (a2 : Bool) : Option (Bool) := (ambrylaw26_known.f k).bind fun t238 => (if t238 = true then ((ambrylaw26_light.f k l0).bind fun t239 => (if t239 = true then ((ambryhelp_LightQ.f k a1_0 a1_1 l1_2 l1_3).bind fun t240 => (if t240 = true then (ambrylaw26_AclFirst.j0 k l0 a2 (decide ((a1_0.size : Int) > 90)) a1_0 a1_1 l1_2 l1_3) else (ambrylaw26_AclFirst.j0 k l0 a2 true a1_0 a1_1 l1_2 l1_3))) else (ambrylaw26_AclFirst.j0 k l0 a2 true a1_0 a1_1 l1_2 l1_3))) else (some false))
theorem ambrylaw26_AclFirst.mono_l : ∀ k, (∀ y0 y1 y2 y3 y4 y5 y6, LeO (ambrylaw26_AclFirst.j0 k y0 y1 y2 y3 y4 y5 y6) (ambrylaw26_AclFirst.j0 (k + 1) y0 y1 y2 y3 y4 y5 y6))
  | 0 => fun _ _ _ _ _ _ _ r h => by simp [ambrylaw26_AclFirst.j0] at h
  | k + 1 => by
    have ih0 := ambrylaw26_AclFirst.mono_l k
    · intro y0 y1 y2 y3 y4 y5 y6
      unfold ambrylaw26_AclFirst.j0
      repeat' first
      | (with_reducible exact ih0 _ _ _ _ _ _ _)
      | (with_reducible exact acl_Check.mono _ _ _ _ _ _)
      | (with_reducible exact ambryhelp_LightQ.mono _ _ _ _ _)
      | (with_reducible exact ambrylaw26_known.mono _)
      | (with_reducible exact ambrylaw26_light.mono _ _)
      | (with_reducible exact ambryref23_Split.mono _ _)
      | (with_reducible exact LeO.refl _)
      | (with_reducible exact LeO.none _)
      | (with_reducible refine LeO.ite ?_ ?_)
      | (with_reducible refine LeO.bind ?_ (fun _ => ?_))
      | exact ih0 _ _ _ _ _ _ _
      | exact acl_Check.mono _ _ _ _ _ _
      | exact ambryhelp_LightQ.mono _ _ _ _ _
      | exact ambrylaw26_known.mono _
      | exact ambrylaw26_light.mono _ _
      | exact ambryref23_Split.mono _ _
      | exact LeO.none _
      | refine LeO.ite ?_ ?_
      | refine LeO.bind ?_ (fun _ => ?_)
theorem ambrylaw26_AclFirst.mono : ∀ a0 a1 a2 a3 a4 a5 k, LeO (ambrylaw26_AclFirst.f k a0 a1 a2 a3 a4 a5) (ambrylaw26_AclFirst.f (k + 1) a0 a1 a2 a3 a4 a5) := by
  intro a0 a1 a2 a3 a4 a5 k
  have ih0 := ambrylaw26_AclFirst.mono_l k
  unfold ambrylaw26_AclFirst.f
  repeat' first
      | (with_reducible exact ih0 _ _ _ _ _ _ _)
      | (with_reducible exact acl_Check.mono _ _ _ _ _ _)
      | (with_reducible exact ambryhelp_LightQ.mono _ _ _ _ _)
      | (with_reducible exact ambrylaw26_known.mono _)
      | (with_reducible exact ambrylaw26_light.mono _ _)
      | (with_reducible exact ambryref23_Split.mono _ _)
      | (with_reducible exact LeO.refl _)
      | (with_reducible exact LeO.none _)
      | (with_reducible refine LeO.ite ?_ ?_)
      | (with_reducible refine LeO.bind ?_ (fun _ => ?_))
      | exact ih0 _ _ _ _ _ _ _
      | exact acl_Check.mono _ _ _ _ _ _
      | exact ambryhelp_LightQ.mono _ _ _ _ _
      | exact ambrylaw26_known.mono _
      | exact ambrylaw26_light.mono _ _
      | exact ambryref23_Split.mono _ _
      | exact LeO.none _
      | refine LeO.ite ?_ ?_
      | refine LeO.bind ?_ (fun _ => ?_)
def ambrylaw26_AclFirst.T7 : Bool × List (List Nat × List Nat) := (true, [([], []), ([0], [0]), ([], []), ([1, 2], [1, 2]), ([], []), ([3, 4, 3], [3, 4]), ([5], [5]), ([6], [6]), ([6], [6]), ([7, 5, 0, 1, 2, 3, 4, 5, 6, 7], [7]), ([8, 9, 0, 1, 2, 3, 4, 5, 6, 7, 8, 9], [8])])
def ambrylaw26_AclFirst.B7 : List Nat := [0, 1, 0, 7, 0, 31, 63, 127, 127, 255, 1023]
theorem ambrylaw26_AclFirst.tab7 : rtab .any (opsOf Try.f5 7) = ambrylaw26_AclFirst.T7 := by kernel_rfl
theorem ambrylaw26_AclFirst.bits7 : waitsOk ambrylaw26_AclFirst.T7.2 ambrylaw26_AclFirst.B7 = true := by kernel_rfl
def ambrylaw26_AclFirst.T9 : Bool × List (List Nat × List Nat) := (true, [([], []), ([0], [0]), ([], []), ([1, 2], [1, 2]), ([], []), ([3, 4, 3], [3, 4]), ([5], [5]), ([6], [6]), ([6], [6]), ([7, 5, 0, 1, 2, 3, 4, 5, 6, 7], [7]), ([8, 9, 0, 1, 2, 3, 4, 5, 6, 7, 8, 9], [8])])
def ambrylaw26_AclFirst.B9 : List Nat := [0, 1, 0, 7, 0, 31, 63, 127, 127, 255, 1023]
theorem ambrylaw26_AclFirst.tab9 : rtab .any (opsOf Try.f5 9) = ambrylaw26_AclFirst.T9 := by kernel_rfl
theorem ambrylaw26_AclFirst.bits9 : waitsOk ambrylaw26_AclFirst.T9.2 ambrylaw26_AclFirst.B9 = true := by kernel_rfl
set_option maxHeartbeats 8000000 in
set_option maxRecDepth 100000 in
theorem ambrylaw26_AclFirst.calls (k : Nat) (A0 : Option Addr) (c0 : Nat) (l0 : List (S23)) (a1_0 : ByteArray) (a1_1 : ByteArray) (A1_2 : Option Addr) (c1_2 : Nat) (l1_2 : List (S72)) (A1_3 : Option Addr) (c1_3 : Nat) (l1_3 : List Int) (a2 : Bool) (r : Bool) (w : World) (hr0 : Kd.C k23 w A0 l0.length l0) (hc0 : l0.length ≤ c0) (hr1_2 : Kd.C k72 w A1_2 l1_2.length l1_2) (hc1_2 : l1_2.length ≤ c1_2) (hr1_3 : Kd.C (Kd.int .u8) w A1_3 l1_3.length l1_3) (hc1_3 : l1_3.length ≤ c1_3) (h : ambrylaw26_AclFirst.f k l0 a1_0 a1_1 l1_2 l1_3 a2 = some r) :
    Calls Try.prog 5 #[.slice A0 l0.length c0, .agg #[.string a1_0, .string a1_1, .slice A1_2 l1_2.length c1_2, .slice A1_3 l1_3.length c1_3], .bool a2] w fun e w' => e = .returned (.bool r) ∧ Below w.heap.size w w' := by
  have hu38 := Try.underlying38
  have hu23 := Try.underlying23
  have HR0 := Aside0.mk hr0
  have HC0 := Aside0.mk hc0
  clear hr0 hc0
  have HR1_2 := Aside0.mk hr1_2
  have HC1_2 := Aside0.mk hc1_2
  clear hr1_2 hc1_2
  have HR1_3 := Aside0.mk hr1_3
  have HC1_3 := Aside0.mk hc1_3
  clear hr1_3 hc1_3
  have HB := Aside0.mk (Below.refl w.heap.size w)
  have H : ((ambrylaw26_known.f k).bind fun t238 => (if t238 = true then ((ambrylaw26_light.f k l0).bind fun t239 => (if t239 = true then ((ambryhelp_LightQ.f k a1_0 a1_1 l1_2 l1_3).bind fun t240 => (if t240 = true then (ambrylaw26_AclFirst.j0 k l0 a2 (decide ((a1_0.size : Int) > 90)) a1_0 a1_1 l1_2 l1_3) else (ambrylaw26_AclFirst.j0 k l0 a2 true a1_0 a1_1 l1_2 l1_3))) else (ambrylaw26_AclFirst.j0 k l0 a2 true a1_0 a1_1 l1_2 l1_3))) else (some false))) = some r := h
  clear h
  replace H := Option.bind_eq_some_iff.mp H
  obtain ⟨t238, A40, H⟩ := H
  replace H : (if t238 = true then ((ambrylaw26_light.f k l0).bind fun t239 => (if t239 = true then ((ambryhelp_LightQ.f k a1_0 a1_1 l1_2 l1_3).bind fun t240 => (if t240 = true then (ambrylaw26_AclFirst.j0 k l0 a2 (decide ((a1_0.size : Int) > 90)) a1_0 a1_1 l1_2 l1_3) else (ambrylaw26_AclFirst.j0 k l0 a2 true a1_0 a1_1 l1_2 l1_3))) else (ambrylaw26_AclFirst.j0 k l0 a2 true a1_0 a1_1 l1_2 l1_3))) else (some false)) = some r := H
  have A4 := Aside0.mk A40
  clear A40
  by_cases c5 : t238 = true
  · subst c5
    have H1 : ((ambrylaw26_light.f k l0).bind fun t239 => (if t239 = true then ((ambryhelp_LightQ.f k a1_0 a1_1 l1_2 l1_3).bind fun t240 => (if t240 = true then (ambrylaw26_AclFirst.j0 k l0 a2 (decide ((a1_0.size : Int) > 90)) a1_0 a1_1 l1_2 l1_3) else (ambrylaw26_AclFirst.j0 k l0 a2 true a1_0 a1_1 l1_2 l1_3))) else (ambrylaw26_AclFirst.j0 k l0 a2 true a1_0 a1_1 l1_2 l1_3))) = some r := by rw [if_pos rfl] at H; exact H
    clear H
    have H := H1
    clear H1
    have HC6 := Aside0.mk H
    clear H
    go_enter Try.func5, Try.ntmps5
    go_upto_region 3 with (first | ((with_reducible refine gate_dst (N := 4) rfl ?_); (try (refine gate_guard (by rfl) ?_; dsimp only)); refine box_event ?hg (N := 4) ?hd (cs := #[.string a1_0, .string a1_1, .slice A1_2 l1_2.length c1_2, .slice A1_3 l1_3.length c1_3]) (t := 38) ?hr ?_; (case hd => rfl); (case hg => rfl); (case hr => first | (go_simp; done) | (go_simp; rfl)); intro gb237 hg w7 hbox hb; have n0_ := Aside0.mk (below_step (by repeat (first | (with_reducible first | exact HB.out | apply below_alloc | apply pw_below_drewN | apply below_drew1) | exact HB.out)) hb); have n1_ := Aside0.mk (hbox); have n2_ := Aside0.mk ((by rw [hg]; exact (below_size (by repeat (first | (with_reducible first | exact HB.out | apply below_alloc | apply pw_below_drewN | apply below_drew1) | exact HB.out))) : w.heap.size ≤ gb237)); have n3_ := Aside0.mk ((by rw [hg]; exact (below_size (by repeat (first | (with_reducible first | exact HB.out | apply below_alloc | apply pw_below_drewN | apply below_drew1) | exact HB.out))) : w.heap.size ≤ gb237)); clear HB; have HB := n0_; have BK237 := n1_; have GW237 := n2_; have GE237 := n3_; clear n0_ n1_ n2_ n3_; clear hb hbox hg) | ((with_reducible refine gate_callee (f := 6) rfl ?_); refine goesL_ (some 18) rfl rfl Try.func6 (by kernel_rfl) rfl #[] rfl (by (try simp only [List.map_toArray, List.map_cons, List.map_nil]); first | done | rfl | (simp only [List.length_drop, List.length_take]; rfl)) ?_; (with_reducible refine (ambrylaw26_known.calls k  true _ A4.out).mono ?_); rintro e w8 ⟨rfl, hb⟩; refine ⟨_, rfl, ?_⟩; have n0_ := Aside0.mk (blk_below (g := gb237) (o := .cells #[.string a1_0, .string a1_1, .slice A1_2 l1_2.length c1_2, .slice A1_3 l1_3.length c1_3] 38 (0, 0)) (by (with_reducible repeat (first | refine blk_drewN ?_ _ | refine blk_drew ?_ | refine blk_alloc ?_ _)); exact BK237.out) hb); have n1_ := Aside0.mk (below_step (by repeat (first | (with_reducible first | exact HB.out | apply below_alloc | apply pw_below_drewN | apply below_drew1 | refine below_set ?_ GE237.out) | exact HB.out)) hb); clear BK237; clear HB; have BK237 := n0_; have HB := n1_; clear n0_ n1_; (try clear hb); (try clear hb2); (try clear hk); (try clear hi)))
    (try simp only [Act.put, List.setIfInBounds_toArray, List.set_cons_zero, List.set_cons_succ])
    go_cut [33] (fun v33 wc => ∃ (kq : Nat) (x33_5 : Bool), v33 = .bool x33_5 ∧ Aside0 (ambrylaw26_AclFirst.j0 kq l0 a2 x33_5 a1_0 a1_1 l1_2 l1_3 = some r) ∧ Aside0 (kq ≤ k) ∧ Aside0 (wc.heap[gb237]? = some (.cells #[.string a1_0, .string a1_1, (.slice A1_2 l1_2.length c1_2), (.slice A1_3 l1_3.length c1_3)] 38 (0, 0))) ∧ Aside0 (Below w.heap.size w wc))
    case first =>
      have H := HC6.out
      clear HC6
      replace H := Option.bind_eq_some_iff.mp H
      obtain ⟨t239, A90, H⟩ := H
      replace H : (if t239 = true then ((ambryhelp_LightQ.f k a1_0 a1_1 l1_2 l1_3).bind fun t240 => (if t240 = true then (ambrylaw26_AclFirst.j0 k l0 a2 (decide ((a1_0.size : Int) > 90)) a1_0 a1_1 l1_2 l1_3) else (ambrylaw26_AclFirst.j0 k l0 a2 true a1_0 a1_1 l1_2 l1_3))) else (ambrylaw26_AclFirst.j0 k l0 a2 true a1_0 a1_1 l1_2 l1_3)) = some r := H
      have A9 := Aside0.mk A90
      clear A90
      by_cases c10 : t239 = true
      · subst c10
        have H1 : ((ambryhelp_LightQ.f k a1_0 a1_1 l1_2 l1_3).bind fun t240 => (if t240 = true then (ambrylaw26_AclFirst.j0 k l0 a2 (decide ((a1_0.size : Int) > 90)) a1_0 a1_1 l1_2 l1_3) else (ambrylaw26_AclFirst.j0 k l0 a2 true a1_0 a1_1 l1_2 l1_3))) = some r := by rw [if_pos rfl] at H; exact H
        clear H
        have H := H1
        clear H1
        replace H := Option.bind_eq_some_iff.mp H
        obtain ⟨t240, A110, H⟩ := H
        replace H : (if t240 = true then (ambrylaw26_AclFirst.j0 k l0 a2 (decide ((a1_0.size : Int) > 90)) a1_0 a1_1 l1_2 l1_3) else (ambrylaw26_AclFirst.j0 k l0 a2 true a1_0 a1_1 l1_2 l1_3)) = some r := H
        have A11 := Aside0.mk A110
        clear A110
        by_cases c12 : t240 = true
        · subst c12
          have H1 : (ambrylaw26_AclFirst.j0 k l0 a2 (decide ((a1_0.size : Int) > 90)) a1_0 a1_1 l1_2 l1_3) = some r := by rw [if_pos rfl] at H; exact H
          clear H
          have H := H1
          clear H1
          have H' := Aside0.mk H
          clear H
          go_wp2_with (first | ((with_reducible refine gate_callee (f := 7) rfl ?_); refine goesL_ (some 21) rfl rfl Try.func7 (by kernel_rfl) rfl #[.slice A0 l0.length c0] rfl (by (try simp only [List.map_toArray, List.map_cons, List.map_nil]); first | done | rfl | (simp only [List.length_drop, List.length_take]; rfl)) ?_; (with_reducible refine (ambrylaw26_light.calls k _ _ l0 true _ ?side1 ?side2 A9.out).mono ?_); (case side1 => repeat (first | exact (Kd.C_below HR0.out HB.out) | (with_reducible refine Kd.C_alloc ?_ _) | (with_reducible refine Kd.C_drewN ?_ _) | (with_reducible refine Kd.C_drew ?_))); (case side2 => exact HC0.out); rintro e w' ⟨rfl, ⟨nd, rfl⟩⟩; refine ⟨_, rfl, ?_⟩; have hcz13_0 : w8.cell? ⟨gb237, 0, none⟩ = some (.string a1_0) := (blk_cell BK237.out 0).trans rfl; have hcz13_1 : w8.cell? ⟨gb237, 1, none⟩ = some (.string a1_1) := (blk_cell BK237.out 1).trans rfl; have hcz13_2 : w8.cell? ⟨gb237, 2, none⟩ = some (.slice A1_2 l1_2.length c1_2) := (blk_cell BK237.out 2).trans rfl; have hcz13_3 : w8.cell? ⟨gb237, 3, none⟩ = some (.slice A1_3 l1_3.length c1_3) := (blk_cell BK237.out 3).trans rfl; have hfz13_0 := blk_frozen BK237.out 0; have hfz13_1 := blk_frozen BK237.out 1; have hfz13_2 := blk_frozen BK237.out 2; have hfz13_3 := blk_frozen BK237.out 3) | (go_at_call 13; (with_reducible refine (ambryhelp_LightQ.calls k a1_0 a1_1 _ _ l1_2 _ _ l1_3 true _ ?side1 ?side2 ?side3 ?side4 A11.out).mono ?_); (case side1 => repeat (first | exact (Kd.C_below HR1_2.out (by repeat (first | (with_reducible first | exact HB.out | apply below_alloc | apply pw_below_drewN | apply below_drew1 | refine below_set ?_ GE237.out) | exact HB.out))) | (with_reducible refine Kd.C_alloc ?_ _) | (with_reducible refine Kd.C_drewN ?_ _) | (with_reducible refine Kd.C_drew ?_))); (case side2 => exact HC1_2.out); (case side3 => repeat (first | exact (Kd.C_below HR1_3.out (by repeat (first | (with_reducible first | exact HB.out | apply below_alloc | apply pw_below_drewN | apply below_drew1 | refine below_set ?_ GE237.out) | exact HB.out))) | (with_reducible refine Kd.C_alloc ?_ _) | (with_reducible refine Kd.C_drewN ?_ _) | (with_reducible refine Kd.C_drew ?_))); (case side4 => exact HC1_3.out); rintro e w14 ⟨rfl, hb⟩; have n0_ := Aside0.mk (blk_below (g := gb237) (o := .cells #[.string a1_0, .string a1_1, .slice A1_2 l1_2.length c1_2, .slice A1_3 l1_3.length c1_3] 38 (0, 0)) (by (with_reducible repeat (first | refine blk_drewN ?_ _ | refine blk_drew ?_ | refine blk_alloc ?_ _)); exact BK237.out) hb); have n1_ := Aside0.mk (below_step (by repeat (first | (with_reducible first | exact HB.out | apply below_alloc | apply pw_below_drewN | apply below_drew1 | refine below_set ?_ GE237.out) | exact HB.out)) hb); clear BK237; clear HB; have BK237 := n0_; have HB := n1_; clear n0_ n1_; (try clear hb); (try clear hb2); (try clear hk); (try clear hi); have hcz15_0 : w14.cell? ⟨gb237, 0, none⟩ = some (.string a1_0) := (blk_cell BK237.out 0).trans rfl; have hcz15_1 : w14.cell? ⟨gb237, 1, none⟩ = some (.string a1_1) := (blk_cell BK237.out 1).trans rfl; have hcz15_2 : w14.cell? ⟨gb237, 2, none⟩ = some (.slice A1_2 l1_2.length c1_2) := (blk_cell BK237.out 2).trans rfl; have hcz15_3 : w14.cell? ⟨gb237, 3, none⟩ = some (.slice A1_3 l1_3.length c1_3) := (blk_cell BK237.out 3).trans rfl; have hfz15_0 := blk_frozen BK237.out 0; have hfz15_1 := blk_frozen BK237.out 1; have hfz15_2 := blk_frozen BK237.out 2; have hfz15_3 := blk_frozen BK237.out 3))
          go_meet
          case rel => exact ⟨_, (decide ((a1_0.size : Int) > 90)), (by first | rfl | (simp; done) | (simp [*]; done)), H', ⟨by first | omega | exact Nat.le_refl _⟩, ⟨by (with_reducible repeat (first | refine blk_drewN ?_ _ | refine blk_drew ?_ | refine blk_alloc ?_ _)); exact BK237.out⟩, ⟨by repeat (first | (with_reducible first | exact HB.out | apply below_alloc | apply pw_below_drewN | apply below_drew1 | refine below_set ?_ GE237.out) | exact HB.out)⟩⟩
        · replace c12 := Bool.eq_false_iff.mpr c12
          subst c12
          have H1 : (ambrylaw26_AclFirst.j0 k l0 a2 true a1_0 a1_1 l1_2 l1_3) = some r := by rw [if_neg (show ¬ (false = true) by decide)] at H; exact H
          clear H
          have H := H1
          clear H1
          have H' := Aside0.mk H
          clear H
          go_wp2_with (first | ((with_reducible refine gate_callee (f := 7) rfl ?_); refine goesL_ (some 21) rfl rfl Try.func7 (by kernel_rfl) rfl #[.slice A0 l0.length c0] rfl (by (try simp only [List.map_toArray, List.map_cons, List.map_nil]); first | done | rfl | (simp only [List.length_drop, List.length_take]; rfl)) ?_; (with_reducible refine (ambrylaw26_light.calls k _ _ l0 true _ ?side1 ?side2 A9.out).mono ?_); (case side1 => repeat (first | exact (Kd.C_below HR0.out HB.out) | (with_reducible refine Kd.C_alloc ?_ _) | (with_reducible refine Kd.C_drewN ?_ _) | (with_reducible refine Kd.C_drew ?_))); (case side2 => exact HC0.out); rintro e w' ⟨rfl, ⟨nd, rfl⟩⟩; refine ⟨_, rfl, ?_⟩; have hcz16_0 : w8.cell? ⟨gb237, 0, none⟩ = some (.string a1_0) := (blk_cell BK237.out 0).trans rfl; have hcz16_1 : w8.cell? ⟨gb237, 1, none⟩ = some (.string a1_1) := (blk_cell BK237.out 1).trans rfl; have hcz16_2 : w8.cell? ⟨gb237, 2, none⟩ = some (.slice A1_2 l1_2.length c1_2) := (blk_cell BK237.out 2).trans rfl; have hcz16_3 : w8.cell? ⟨gb237, 3, none⟩ = some (.slice A1_3 l1_3.length c1_3) := (blk_cell BK237.out 3).trans rfl; have hfz16_0 := blk_frozen BK237.out 0; have hfz16_1 := blk_frozen BK237.out 1; have hfz16_2 := blk_frozen BK237.out 2; have hfz16_3 := blk_frozen BK237.out 3) | (go_at_call 13; (with_reducible refine (ambryhelp_LightQ.calls k a1_0 a1_1 _ _ l1_2 _ _ l1_3 false _ ?side1 ?side2 ?side3 ?side4 A11.out).mono ?_); (case side1 => repeat (first | exact (Kd.C_below HR1_2.out (by repeat (first | (with_reducible first | exact HB.out | apply below_alloc | apply pw_below_drewN | apply below_drew1 | refine below_set ?_ GE237.out) | exact HB.out))) | (with_reducible refine Kd.C_alloc ?_ _) | (with_reducible refine Kd.C_drewN ?_ _) | (with_reducible refine Kd.C_drew ?_))); (case side2 => exact HC1_2.out); (case side3 => repeat (first | exact (Kd.C_below HR1_3.out (by repeat (first | (with_reducible first | exact HB.out | apply below_alloc | apply pw_below_drewN | apply below_drew1 | refine below_set ?_ GE237.out) | exact HB.out))) | (with_reducible refine Kd.C_alloc ?_ _) | (with_reducible refine Kd.C_drewN ?_ _) | (with_reducible refine Kd.C_drew ?_))); (case side4 => exact HC1_3.out); rintro e w17 ⟨rfl, hb⟩; have n0_ := Aside0.mk (blk_below (g := gb237) (o := .cells #[.string a1_0, .string a1_1, .slice A1_2 l1_2.length c1_2, .slice A1_3 l1_3.length c1_3] 38 (0, 0)) (by (with_reducible repeat (first | refine blk_drewN ?_ _ | refine blk_drew ?_ | refine blk_alloc ?_ _)); exact BK237.out) hb); have n1_ := Aside0.mk (below_step (by repeat (first | (with_reducible first | exact HB.out | apply below_alloc | apply pw_below_drewN | apply below_drew1 | refine below_set ?_ GE237.out) | exact HB.out)) hb); clear BK237; clear HB; have BK237 := n0_; have HB := n1_; clear n0_ n1_; (try clear hb); (try clear hb2); (try clear hk); (try clear hi)))
          go_meet
          case rel => exact ⟨_, (true), (by first | rfl | (simp; done) | (simp [*]; done)), H', ⟨by first | omega | exact Nat.le_refl _⟩, ⟨by (with_reducible repeat (first | refine blk_drewN ?_ _ | refine blk_drew ?_ | refine blk_alloc ?_ _)); exact BK237.out⟩, ⟨by repeat (first | (with_reducible first | exact HB.out | apply below_alloc | apply pw_below_drewN | apply below_drew1 | refine below_set ?_ GE237.out) | exact HB.out)⟩⟩
      · replace c10 := Bool.eq_false_iff.mpr c10
        subst c10
        have H1 : (ambrylaw26_AclFirst.j0 k l0 a2 true a1_0 a1_1 l1_2 l1_3) = some r := by rw [if_neg (show ¬ (false = true) by decide)] at H; exact H
        clear H
        have H := H1
        clear H1
        have H' := Aside0.mk H
        clear H
        go_wp2_with (first | ((with_reducible refine gate_callee (f := 7) rfl ?_); refine goesL_ (some 21) rfl rfl Try.func7 (by kernel_rfl) rfl #[.slice A0 l0.length c0] rfl (by (try simp only [List.map_toArray, List.map_cons, List.map_nil]); first | done | rfl | (simp only [List.length_drop, List.length_take]; rfl)) ?_; (with_reducible refine (ambrylaw26_light.calls k _ _ l0 false _ ?side1 ?side2 A9.out).mono ?_); (case side1 => repeat (first | exact (Kd.C_below HR0.out HB.out) | (with_reducible refine Kd.C_alloc ?_ _) | (with_reducible refine Kd.C_drewN ?_ _) | (with_reducible refine Kd.C_drew ?_))); (case side2 => exact HC0.out); rintro e w' ⟨rfl, ⟨nd, rfl⟩⟩; refine ⟨_, rfl, ?_⟩))
        go_meet
        case rel => exact ⟨_, (true), (by first | rfl | (simp; done) | (simp [*]; done)), H', ⟨by first | omega | exact Nat.le_refl _⟩, ⟨by (with_reducible repeat (first | refine blk_drewN ?_ _ | refine blk_drew ?_ | refine blk_alloc ?_ _)); exact BK237.out⟩, ⟨by repeat (first | (with_reducible first | exact HB.out | apply below_alloc | apply pw_below_drewN | apply below_drew1 | refine below_set ?_ GE237.out) | exact HB.out)⟩⟩
    case rest =>
      clear HC6
      try clear c1
      try clear p2
      try clear c5
      try clear c6
      try clear c7
      try clear c10
      try clear c12
      try clear hcz13_0
      try clear hcz13_1
      try clear hcz13_2
      try clear hcz13_3
      try clear hcz15_0
      try clear hcz15_1
      try clear hcz15_2
      try clear hcz15_3
      try clear hcz16_0
      try clear hcz16_1
      try clear hcz16_2
      try clear hcz16_3
      try clear hfz13_0
      try clear hfz13_1
      try clear hfz13_2
      try clear hfz13_3
      try clear hfz15_0
      try clear hfz15_1
      try clear hfz15_2
      try clear hfz15_3
      try clear hfz16_0
      try clear hfz16_1
      try clear hfz16_2
      try clear hfz16_3
      obtain ⟨kq, x33_5, rfl, HA, HJ5, BK237, HB⟩ := hcut
      cases kq with
      | zero => exact absurd HA.out (by simp [ambrylaw26_AclFirst.j0])
      | succ kj5 =>
        have H := HA.out
        clear HA
        simp only [ambrylaw26_AclFirst.j0] at H
        by_cases c18 : x33_5 = true
        · subst c18
          have H1 : (some true) = some r := by rw [if_pos rfl] at H; exact H
          clear H
          have H := H1
          clear H1
          obtain rfl := Option.some.inj H
          go_wp2
          go_ret
          exact ⟨by first | rfl | (simp [errW_none, errW_some] <;> rfl) | (simp [*, errW_none, errW_some] <;> rfl), by repeat (first | (with_reducible first | exact HB.out | apply below_alloc | apply pw_below_drewN | apply below_drew1 | refine below_set ?_ GE237.out) | exact HB.out)⟩
        · replace c18 := Bool.eq_false_iff.mpr c18
          subst c18
          have H1 : ((some (([(⟨a2, (⟨#[42, 42]⟩ : ByteArray), (⟨#[42, 42]⟩ : ByteArray), (⟨#[42, 42]⟩ : ByteArray)⟩ : S23)] : List (S23)) : List (S23))).bind fun y243 => (if y243.length + l0.length < 2513169434916 then ((acl_Check.f kj5 (y243 ++ l0) a1_0 a1_1 l1_2 l1_3).bind fun bt249 => ((acl_Check.f kj5 l0 a1_0 a1_1 l1_2 l1_3).bind fun bt251 => ((some (([(⟨a2, (⟨#[42, 42]⟩ : ByteArray), (⟨#[42, 42]⟩ : ByteArray), (⟨#[120]⟩ : ByteArray)⟩ : S23)] : List (S23)) : List (S23))).bind fun y253 => (if y253.length + l0.length < 2513169434916 then ((acl_Check.f kj5 (y253 ++ l0) a1_0 a1_1 l1_2 l1_3).bind fun bt259 => ((ambryref23_Split.f kj5 a1_1).bind fun bt261 => (if bt261.1.toList = ([120] : List UInt8) then (if (bt249.1 == a2) = true then (some (bt249.2 == 0)) else (some false)) else (if bt251.2 ≥ 0 then (if (bt249.1 == a2) = true then (if bt249.2 = 0 then (if (bt251.1 == bt259.1) = true then (some ((wrap64 (bt251.2 + 1)) == bt259.2)) else (some false)) else (some false)) else (some false)) else (if (bt249.1 == a2) = true then (if bt249.2 = 0 then (if (bt251.1 == bt259.1) = true then (some (bt251.2 == bt259.2)) else (some false)) else (some false)) else (some false)))))) else (none))))) else (none))) = some r := by rw [if_neg (show ¬ (false = true) by decide)] at H; exact H
          clear H
          have H := H1
          clear H1
          obtain ⟨y243, hy243⟩ : ∃ y_ : List (S23), y_ = (([(⟨a2, (⟨#[42, 42]⟩ : ByteArray), (⟨#[42, 42]⟩ : ByteArray), (⟨#[42, 42]⟩ : ByteArray)⟩ : S23)] : List (S23))) := ⟨_, rfl⟩
          replace H : (if y243.length + l0.length < 2513169434916 then ((acl_Check.f kj5 (y243 ++ l0) a1_0 a1_1 l1_2 l1_3).bind fun bt249 => ((acl_Check.f kj5 l0 a1_0 a1_1 l1_2 l1_3).bind fun bt251 => ((some (([(⟨a2, (⟨#[42, 42]⟩ : ByteArray), (⟨#[42, 42]⟩ : ByteArray), (⟨#[120]⟩ : ByteArray)⟩ : S23)] : List (S23)) : List (S23))).bind fun y253 => (if y253.length + l0.length < 2513169434916 then ((acl_Check.f kj5 (y253 ++ l0) a1_0 a1_1 l1_2 l1_3).bind fun bt259 => ((ambryref23_Split.f kj5 a1_1).bind fun bt261 => (if bt261.1.toList = ([120] : List UInt8) then (if (bt249.1 == a2) = true then (some (bt249.2 == 0)) else (some false)) else (if bt251.2 ≥ 0 then (if (bt249.1 == a2) = true then (if bt249.2 = 0 then (if (bt251.1 == bt259.1) = true then (some ((wrap64 (bt251.2 + 1)) == bt259.2)) else (some false)) else (some false)) else (some false)) else (if (bt249.1 == a2) = true then (if bt249.2 = 0 then (if (bt251.1 == bt259.1) = true then (some (bt251.2 == bt259.2)) else (some false)) else (some false)) else (some false)))))) else (none))))) else (none)) = some r := by first | (rw [hy243]; with_reducible exact H) | (have H2_ := (Option.bind_some _ _).symm.trans H; rw [hy243]; with_reducible exact H2_) | (have H2_ := (Option.bind_some _ _).symm.trans H; with_reducible exact H2_) | with_reducible exact H | (rw [hy243]; exact H) | exact H
          have Ny243 := Aside0.mk hy243
          clear hy243
          by_cases c19 : y243.length + l0.length < 2513169434916
          · rw [if_pos c19] at H
            have LMc19 := Aside0.mk c19
            clear c19
            obtain ⟨y246, hy246⟩ : ∃ y_ : List (S23), y_ = (y243 ++ l0) := ⟨_, rfl⟩
            replace H : ((acl_Check.f kj5 y246 a1_0 a1_1 l1_2 l1_3).bind fun bt249 => ((acl_Check.f kj5 l0 a1_0 a1_1 l1_2 l1_3).bind fun bt251 => ((some (([(⟨a2, (⟨#[42, 42]⟩ : ByteArray), (⟨#[42, 42]⟩ : ByteArray), (⟨#[120]⟩ : ByteArray)⟩ : S23)] : List (S23)) : List (S23))).bind fun y253 => (if y253.length + l0.length < 2513169434916 then ((acl_Check.f kj5 (y253 ++ l0) a1_0 a1_1 l1_2 l1_3).bind fun bt259 => ((ambryref23_Split.f kj5 a1_1).bind fun bt261 => (if bt261.1.toList = ([120] : List UInt8) then (if (bt249.1 == a2) = true then (some (bt249.2 == 0)) else (some false)) else (if bt251.2 ≥ 0 then (if (bt249.1 == a2) = true then (if bt249.2 = 0 then (if (bt251.1 == bt259.1) = true then (some ((wrap64 (bt251.2 + 1)) == bt259.2)) else (some false)) else (some false)) else (some false)) else (if (bt249.1 == a2) = true then (if bt249.2 = 0 then (if (bt251.1 == bt259.1) = true then (some (bt251.2 == bt259.2)) else (some false)) else (some false)) else (some false)))))) else (none))))) = some r := by first | (rw [hy246]; with_reducible exact H) | (have H2_ := (Option.bind_some _ _).symm.trans H; rw [hy246]; with_reducible exact H2_) | (have H2_ := (Option.bind_some _ _).symm.trans H; with_reducible exact H2_) | with_reducible exact H | (rw [hy246]; exact H) | exact H
            have Ny246 := Aside0.mk hy246
            clear hy246
            replace H := Option.bind_eq_some_iff.mp H
            obtain ⟨⟨t249, t250⟩, A200, H⟩ := H
            replace H : ((acl_Check.f kj5 l0 a1_0 a1_1 l1_2 l1_3).bind fun bt251 => ((some (([(⟨a2, (⟨#[42, 42]⟩ : ByteArray), (⟨#[42, 42]⟩ : ByteArray), (⟨#[120]⟩ : ByteArray)⟩ : S23)] : List (S23)) : List (S23))).bind fun y253 => (if y253.length + l0.length < 2513169434916 then ((acl_Check.f kj5 (y253 ++ l0) a1_0 a1_1 l1_2 l1_3).bind fun bt259 => ((ambryref23_Split.f kj5 a1_1).bind fun bt261 => (if bt261.1.toList = ([120] : List UInt8) then (if (t249 == a2) = true then (some (t250 == 0)) else (some false)) else (if bt251.2 ≥ 0 then (if (t249 == a2) = true then (if t250 = 0 then (if (bt251.1 == bt259.1) = true then (some ((wrap64 (bt251.2 + 1)) == bt259.2)) else (some false)) else (some false)) else (some false)) else (if (t249 == a2) = true then (if t250 = 0 then (if (bt251.1 == bt259.1) = true then (some (bt251.2 == bt259.2)) else (some false)) else (some false)) else (some false)))))) else (none)))) = some r := H
            have A20 := Aside0.mk A200
            clear A200
            replace H := Option.bind_eq_some_iff.mp H
            obtain ⟨⟨t251, t252⟩, A210, H⟩ := H
            replace H : ((some (([(⟨a2, (⟨#[42, 42]⟩ : ByteArray), (⟨#[42, 42]⟩ : ByteArray), (⟨#[120]⟩ : ByteArray)⟩ : S23)] : List (S23)) : List (S23))).bind fun y253 => (if y253.length + l0.length < 2513169434916 then ((acl_Check.f kj5 (y253 ++ l0) a1_0 a1_1 l1_2 l1_3).bind fun bt259 => ((ambryref23_Split.f kj5 a1_1).bind fun bt261 => (if bt261.1.toList = ([120] : List UInt8) then (if (t249 == a2) = true then (some (t250 == 0)) else (some false)) else (if t252 ≥ 0 then (if (t249 == a2) = true then (if t250 = 0 then (if (t251 == bt259.1) = true then (some ((wrap64 (t252 + 1)) == bt259.2)) else (some false)) else (some false)) else (some false)) else (if (t249 == a2) = true then (if t250 = 0 then (if (t251 == bt259.1) = true then (some (t252 == bt259.2)) else (some false)) else (some false)) else (some false)))))) else (none))) = some r := H
            have A21 := Aside0.mk A210
            clear A210
            obtain ⟨y253, hy253⟩ : ∃ y_ : List (S23), y_ = (([(⟨a2, (⟨#[42, 42]⟩ : ByteArray), (⟨#[42, 42]⟩ : ByteArray), (⟨#[120]⟩ : ByteArray)⟩ : S23)] : List (S23))) := ⟨_, rfl⟩
            replace H : (if y253.length + l0.length < 2513169434916 then ((acl_Check.f kj5 (y253 ++ l0) a1_0 a1_1 l1_2 l1_3).bind fun bt259 => ((ambryref23_Split.f kj5 a1_1).bind fun bt261 => (if bt261.1.toList = ([120] : List UInt8) then (if (t249 == a2) = true then (some (t250 == 0)) else (some false)) else (if t252 ≥ 0 then (if (t249 == a2) = true then (if t250 = 0 then (if (t251 == bt259.1) = true then (some ((wrap64 (t252 + 1)) == bt259.2)) else (some false)) else (some false)) else (some false)) else (if (t249 == a2) = true then (if t250 = 0 then (if (t251 == bt259.1) = true then (some (t252 == bt259.2)) else (some false)) else (some false)) else (some false)))))) else (none)) = some r := by first | (rw [hy253]; with_reducible exact H) | (have H2_ := (Option.bind_some _ _).symm.trans H; rw [hy253]; with_reducible exact H2_) | (have H2_ := (Option.bind_some _ _).symm.trans H; with_reducible exact H2_) | with_reducible exact H | (rw [hy253]; exact H) | exact H
            have Ny253 := Aside0.mk hy253
            clear hy253
            by_cases c22 : y253.length + l0.length < 2513169434916
            · rw [if_pos c22] at H
              have LMc22 := Aside0.mk c22
              clear c22
              obtain ⟨y256, hy256⟩ : ∃ y_ : List (S23), y_ = (y253 ++ l0) := ⟨_, rfl⟩
              replace H : ((acl_Check.f kj5 y256 a1_0 a1_1 l1_2 l1_3).bind fun bt259 => ((ambryref23_Split.f kj5 a1_1).bind fun bt261 => (if bt261.1.toList = ([120] : List UInt8) then (if (t249 == a2) = true then (some (t250 == 0)) else (some false)) else (if t252 ≥ 0 then (if (t249 == a2) = true then (if t250 = 0 then (if (t251 == bt259.1) = true then (some ((wrap64 (t252 + 1)) == bt259.2)) else (some false)) else (some false)) else (some false)) else (if (t249 == a2) = true then (if t250 = 0 then (if (t251 == bt259.1) = true then (some (t252 == bt259.2)) else (some false)) else (some false)) else (some false)))))) = some r := by first | (rw [hy256]; with_reducible exact H) | (have H2_ := (Option.bind_some _ _).symm.trans H; rw [hy256]; with_reducible exact H2_) | (have H2_ := (Option.bind_some _ _).symm.trans H; with_reducible exact H2_) | with_reducible exact H | (rw [hy256]; exact H) | exact H
              have Ny256 := Aside0.mk hy256
              clear hy256
              replace H := Option.bind_eq_some_iff.mp H
              obtain ⟨⟨t259, t260⟩, A230, H⟩ := H
              replace H : ((ambryref23_Split.f kj5 a1_1).bind fun bt261 => (if bt261.1.toList = ([120] : List UInt8) then (if (t249 == a2) = true then (some (t250 == 0)) else (some false)) else (if t252 ≥ 0 then (if (t249 == a2) = true then (if t250 = 0 then (if (t251 == t259) = true then (some ((wrap64 (t252 + 1)) == t260)) else (some false)) else (some false)) else (some false)) else (if (t249 == a2) = true then (if t250 = 0 then (if (t251 == t259) = true then (some (t252 == t260)) else (some false)) else (some false)) else (some false))))) = some r := H
              have A23 := Aside0.mk A230
              clear A230
              replace H := Option.bind_eq_some_iff.mp H
              obtain ⟨⟨t261, t262, t263⟩, A240, H⟩ := H
              replace H : (if t261.toList = ([120] : List UInt8) then (if (t249 == a2) = true then (some (t250 == 0)) else (some false)) else (if t252 ≥ 0 then (if (t249 == a2) = true then (if t250 = 0 then (if (t251 == t259) = true then (some ((wrap64 (t252 + 1)) == t260)) else (some false)) else (some false)) else (some false)) else (if (t249 == a2) = true then (if t250 = 0 then (if (t251 == t259) = true then (some (t252 == t260)) else (some false)) else (some false)) else (some false)))) = some r := H
              have A24 := Aside0.mk A240
              clear A240
              try go_wp2_with (first | ((with_reducible refine gate_dst (N := 7) rfl ?_); (try (refine gate_guard (by rfl) ?_; dsimp only)); refine box_event ?hg (N := 7) ?hd (cs := #[.bool false, .string (⟨#[]⟩ : ByteArray), .string (⟨#[]⟩ : ByteArray), .string (⟨#[]⟩ : ByteArray)]) (t := 23) ?hr ?_; (case hd => rfl); (case hg => rfl); (case hr => first | (go_simp; done) | (go_simp; rfl)); intro gb241 hg w27 hbox hb; have n0_ := Aside0.mk (blk_below (g := gb237) (o := .cells #[.string a1_0, .string a1_1, .slice A1_2 l1_2.length c1_2, .slice A1_3 l1_3.length c1_3] 38 (0, 0)) (by (with_reducible repeat (first | refine blk_drewN ?_ _ | refine blk_drew ?_ | refine blk_alloc ?_ _)); exact BK237.out) hb); have n1_ := Aside0.mk (below_step (by repeat (first | (with_reducible first | exact HB.out | apply below_alloc | apply pw_below_drewN | apply below_drew1 | refine below_set ?_ GE237.out) | exact HB.out)) hb); have n2_ := Aside0.mk (hbox); have n3_ := Aside0.mk ((by rw [hg]; exact (below_size (by repeat (first | (with_reducible first | exact HB.out | apply below_alloc | apply pw_below_drewN | apply below_drew1 | refine below_set ?_ GE237.out) | exact HB.out))) : w.heap.size ≤ gb241)); have n4_ := Aside0.mk ((by rw [hg]; exact (below_size (by repeat (first | (with_reducible first | exact HB.out | apply below_alloc | apply pw_below_drewN | apply below_drew1 | refine below_set ?_ GE237.out) | exact HB.out))) : w.heap.size ≤ gb241)); have n5_ := Aside0.mk ((by rw [hg]; exact Nat.ne_of_lt (blk_lt (g := gb237) (o := .cells #[.string a1_0, .string a1_1, .slice A1_2 l1_2.length c1_2, .slice A1_3 l1_3.length c1_3] 38 (0, 0)) (by (with_reducible repeat (first | refine blk_drewN ?_ _ | refine blk_drew ?_ | refine blk_alloc ?_ _)); exact BK237.out)) : gb237 ≠ gb241)); have n6_ := Aside0.mk ((by rw [hg]; exact Nat.ne_of_gt (blk_lt (g := gb237) (o := .cells #[.string a1_0, .string a1_1, .slice A1_2 l1_2.length c1_2, .slice A1_3 l1_3.length c1_3] 38 (0, 0)) (by (with_reducible repeat (first | refine blk_drewN ?_ _ | refine blk_drew ?_ | refine blk_alloc ?_ _)); exact BK237.out)) : gb241 ≠ gb237)); clear BK237; clear HB; have BK237 := n0_; have HB := n1_; have BK241 := n2_; have GW241 := n3_; have GE241 := n4_; have NB237_241 := n5_; have NB241_237 := n6_; clear n0_ n1_ n2_ n3_ n4_ n5_ n6_; clear hb hbox hg; have hnb28 := NB241_237.out; have hnc28 := NB237_241.out; have hcz29_0 : w27.cell? ⟨gb241, 0, none⟩ = some (.bool false) := (blk_cell BK241.out 0).trans rfl; have hcz29_1 : w27.cell? ⟨gb241, 1, none⟩ = some (.string (⟨#[]⟩ : ByteArray)) := (blk_cell BK241.out 1).trans rfl; have hcz29_2 : w27.cell? ⟨gb241, 2, none⟩ = some (.string (⟨#[]⟩ : ByteArray)) := (blk_cell BK241.out 2).trans rfl; have hcz29_3 : w27.cell? ⟨gb241, 3, none⟩ = some (.string (⟨#[]⟩ : ByteArray)) := (blk_cell BK241.out 3).trans rfl; have hfz29_0 := blk_frozen BK241.out 0; have hfz29_1 := blk_frozen BK241.out 1; have hfz29_2 := blk_frozen BK241.out 2; have hfz29_3 := blk_frozen BK241.out 3) | ((with_reducible refine gate_dst (N := 8) rfl ?_); (try (refine gate_guard (by rfl) ?_; dsimp only)); refine box_event ?hg (N := 8) ?hd (cs := #[.bool false, .string (⟨#[]⟩ : ByteArray), .string (⟨#[]⟩ : ByteArray), .string (⟨#[]⟩ : ByteArray)]) (t := 23) ?hr ?_; (case hd => rfl); (case hg => rfl); (case hr => first | (go_simp; done) | (go_simp; rfl)); intro gb242 hg w30 hbox hb; have n0_ := Aside0.mk (blk_below (g := gb237) (o := .cells #[.string a1_0, .string a1_1, .slice A1_2 l1_2.length c1_2, .slice A1_3 l1_3.length c1_3] 38 (0, 0)) (by (with_reducible repeat (first | refine blk_drewN ?_ _ | refine blk_drew ?_ | refine blk_alloc ?_ _)); refine blk_far ?_ NB237_241.out _; (with_reducible repeat (first | refine blk_drewN ?_ _ | refine blk_drew ?_ | refine blk_alloc ?_ _)); refine blk_far ?_ NB237_241.out _; (with_reducible repeat (first | refine blk_drewN ?_ _ | refine blk_drew ?_ | refine blk_alloc ?_ _)); refine blk_far ?_ NB237_241.out _; (with_reducible repeat (first | refine blk_drewN ?_ _ | refine blk_drew ?_ | refine blk_alloc ?_ _)); refine blk_far ?_ NB237_241.out _; (with_reducible repeat (first | refine blk_drewN ?_ _ | refine blk_drew ?_ | refine blk_alloc ?_ _)); exact BK237.out) hb); have n1_ := Aside0.mk (blk_below (g := gb241) (o := .cells #[.bool a2, .string (⟨#[42, 42]⟩ : ByteArray), .string (⟨#[42, 42]⟩ : ByteArray), .string (⟨#[42, 42]⟩ : ByteArray)] 23 (0, 0)) (by (with_reducible repeat (first | refine blk_drewN ?_ _ | refine blk_drew ?_ | refine blk_alloc ?_ _)); refine blk_put (cs := #[.bool a2, .string (⟨#[42, 42]⟩ : ByteArray), .string (⟨#[42, 42]⟩ : ByteArray), .string (⟨#[]⟩ : ByteArray)]) ?_ 3 _ rfl; (with_reducible repeat (first | refine blk_drewN ?_ _ | refine blk_drew ?_ | refine blk_alloc ?_ _)); refine blk_put (cs := #[.bool a2, .string (⟨#[42, 42]⟩ : ByteArray), .string (⟨#[]⟩ : ByteArray), .string (⟨#[]⟩ : ByteArray)]) ?_ 2 _ rfl; (with_reducible repeat (first | refine blk_drewN ?_ _ | refine blk_drew ?_ | refine blk_alloc ?_ _)); refine blk_put (cs := #[.bool a2, .string (⟨#[]⟩ : ByteArray), .string (⟨#[]⟩ : ByteArray), .string (⟨#[]⟩ : ByteArray)]) ?_ 1 _ rfl; (with_reducible repeat (first | refine blk_drewN ?_ _ | refine blk_drew ?_ | refine blk_alloc ?_ _)); refine blk_put (cs := #[.bool false, .string (⟨#[]⟩ : ByteArray), .string (⟨#[]⟩ : ByteArray), .string (⟨#[]⟩ : ByteArray)]) ?_ 0 _ rfl; (with_reducible repeat (first | refine blk_drewN ?_ _ | refine blk_drew ?_ | refine blk_alloc ?_ _)); exact BK241.out) hb); have n2_ := Aside0.mk (below_step (by repeat (first | (with_reducible first | exact HB.out | apply below_alloc | apply pw_below_drewN | apply below_drew1 | refine below_set ?_ GE237.out | refine below_set ?_ GE241.out) | exact HB.out)) hb); have n3_ := Aside0.mk (hbox); have n4_ := Aside0.mk ((by rw [hg]; exact (below_size (by repeat (first | (with_reducible first | exact HB.out | apply below_alloc | apply pw_below_drewN | apply below_drew1 | refine below_set ?_ GE237.out | refine below_set ?_ GE241.out) | exact HB.out))) : w.heap.size ≤ gb242)); have n5_ := Aside0.mk ((by rw [hg]; exact (below_size (by repeat (first | (with_reducible first | exact HB.out | apply below_alloc | apply pw_below_drewN | apply below_drew1 | refine below_set ?_ GE237.out | refine below_set ?_ GE241.out) | exact HB.out))) : w.heap.size ≤ gb242)); have n6_ := Aside0.mk ((by rw [hg]; exact Nat.ne_of_lt (blk_lt (g := gb237) (o := .cells #[.string a1_0, .string a1_1, .slice A1_2 l1_2.length c1_2, .slice A1_3 l1_3.length c1_3] 38 (0, 0)) (by (with_reducible repeat (first | refine blk_drewN ?_ _ | refine blk_drew ?_ | refine blk_alloc ?_ _)); refine blk_far ?_ NB237_241.out _; (with_reducible repeat (first | refine blk_drewN ?_ _ | refine blk_drew ?_ | refine blk_alloc ?_ _)); refine blk_far ?_ NB237_241.out _; (with_reducible repeat (first | refine blk_drewN ?_ _ | refine blk_drew ?_ | refine blk_alloc ?_ _)); refine blk_far ?_ NB237_241.out _; (with_reducible repeat (first | refine blk_drewN ?_ _ | refine blk_drew ?_ | refine blk_alloc ?_ _)); refine blk_far ?_ NB237_241.out _; (with_reducible repeat (first | refine blk_drewN ?_ _ | refine blk_drew ?_ | refine blk_alloc ?_ _)); exact BK237.out)) : gb237 ≠ gb242)); have n7_ := Aside0.mk ((by rw [hg]; exact Nat.ne_of_gt (blk_lt (g := gb237) (o := .cells #[.string a1_0, .string a1_1, .slice A1_2 l1_2.length c1_2, .slice A1_3 l1_3.length c1_3] 38 (0, 0)) (by (with_reducible repeat (first | refine blk_drewN ?_ _ | refine blk_drew ?_ | refine blk_alloc ?_ _)); refine blk_far ?_ NB237_241.out _; (with_reducible repeat (first | refine blk_drewN ?_ _ | refine blk_drew ?_ | refine blk_alloc ?_ _)); refine blk_far ?_ NB237_241.out _; (with_reducible repeat (first | refine blk_drewN ?_ _ | refine blk_drew ?_ | refine blk_alloc ?_ _)); refine blk_far ?_ NB237_241.out _; (with_reducible repeat (first | refine blk_drewN ?_ _ | refine blk_drew ?_ | refine blk_alloc ?_ _)); refine blk_far ?_ NB237_241.out _; (with_reducible repeat (first | refine blk_drewN ?_ _ | refine blk_drew ?_ | refine blk_alloc ?_ _)); exact BK237.out)) : gb242 ≠ gb237)); have n8_ := Aside0.mk ((by rw [hg]; exact Nat.ne_of_lt (blk_lt (g := gb241) (o := .cells #[.bool a2, .string (⟨#[42, 42]⟩ : ByteArray), .string (⟨#[42, 42]⟩ : ByteArray), .string (⟨#[42, 42]⟩ : ByteArray)] 23 (0, 0)) (by (with_reducible repeat (first | refine blk_drewN ?_ _ | refine blk_drew ?_ | refine blk_alloc ?_ _)); refine blk_put (cs := #[.bool a2, .string (⟨#[42, 42]⟩ : ByteArray), .string (⟨#[42, 42]⟩ : ByteArray), .string (⟨#[]⟩ : ByteArray)]) ?_ 3 _ rfl; (with_reducible repeat (first | refine blk_drewN ?_ _ | refine blk_drew ?_ | refine blk_alloc ?_ _)); refine blk_put (cs := #[.bool a2, .string (⟨#[42, 42]⟩ : ByteArray), .string (⟨#[]⟩ : ByteArray), .string (⟨#[]⟩ : ByteArray)]) ?_ 2 _ rfl; (with_reducible repeat (first | refine blk_drewN ?_ _ | refine blk_drew ?_ | refine blk_alloc ?_ _)); refine blk_put (cs := #[.bool a2, .string (⟨#[]⟩ : ByteArray), .string (⟨#[]⟩ : ByteArray), .string (⟨#[]⟩ : ByteArray)]) ?_ 1 _ rfl; (with_reducible repeat (first | refine blk_drewN ?_ _ | refine blk_drew ?_ | refine blk_alloc ?_ _)); refine blk_put (cs := #[.bool false, .string (⟨#[]⟩ : ByteArray), .string (⟨#[]⟩ : ByteArray), .string (⟨#[]⟩ : ByteArray)]) ?_ 0 _ rfl; (with_reducible repeat (first | refine blk_drewN ?_ _ | refine blk_drew ?_ | refine blk_alloc ?_ _)); exact BK241.out)) : gb241 ≠ gb242)); have n9_ := Aside0.mk ((by rw [hg]; exact Nat.ne_of_gt (blk_lt (g := gb241) (o := .cells #[.bool a2, .string (⟨#[42, 42]⟩ : ByteArray), .string (⟨#[42, 42]⟩ : ByteArray), .string (⟨#[42, 42]⟩ : ByteArray)] 23 (0, 0)) (by (with_reducible repeat (first | refine blk_drewN ?_ _ | refine blk_drew ?_ | refine blk_alloc ?_ _)); refine blk_put (cs := #[.bool a2, .string (⟨#[42, 42]⟩ : ByteArray), .string (⟨#[42, 42]⟩ : ByteArray), .string (⟨#[]⟩ : ByteArray)]) ?_ 3 _ rfl; (with_reducible repeat (first | refine blk_drewN ?_ _ | refine blk_drew ?_ | refine blk_alloc ?_ _)); refine blk_put (cs := #[.bool a2, .string (⟨#[42, 42]⟩ : ByteArray), .string (⟨#[]⟩ : ByteArray), .string (⟨#[]⟩ : ByteArray)]) ?_ 2 _ rfl; (with_reducible repeat (first | refine blk_drewN ?_ _ | refine blk_drew ?_ | refine blk_alloc ?_ _)); refine blk_put (cs := #[.bool a2, .string (⟨#[]⟩ : ByteArray), .string (⟨#[]⟩ : ByteArray), .string (⟨#[]⟩ : ByteArray)]) ?_ 1 _ rfl; (with_reducible repeat (first | refine blk_drewN ?_ _ | refine blk_drew ?_ | refine blk_alloc ?_ _)); refine blk_put (cs := #[.bool false, .string (⟨#[]⟩ : ByteArray), .string (⟨#[]⟩ : ByteArray), .string (⟨#[]⟩ : ByteArray)]) ?_ 0 _ rfl; (with_reducible repeat (first | refine blk_drewN ?_ _ | refine blk_drew ?_ | refine blk_alloc ?_ _)); exact BK241.out)) : gb242 ≠ gb241)); clear BK237; clear BK241; clear HB; have BK237 := n0_; have BK241 := n1_; have HB := n2_; have BK242 := n3_; have GW242 := n4_; have GE242 := n5_; have NB237_242 := n6_; have NB242_237 := n7_; have NB241_242 := n8_; have NB242_241 := n9_; clear n0_ n1_ n2_ n3_ n4_ n5_ n6_ n7_ n8_ n9_; clear hb hbox hg; have hnb31 := NB242_237.out; have hnc31 := NB237_242.out; have hnb32 := NB242_241.out; have hnc32 := NB241_242.out; have hcz33_0 : w30.cell? ⟨gb242, 0, none⟩ = some (.bool false) := (blk_cell BK242.out 0).trans rfl; have hcz33_1 : w30.cell? ⟨gb242, 1, none⟩ = some (.string (⟨#[]⟩ : ByteArray)) := (blk_cell BK242.out 1).trans rfl; have hcz33_2 : w30.cell? ⟨gb242, 2, none⟩ = some (.string (⟨#[]⟩ : ByteArray)) := (blk_cell BK242.out 2).trans rfl; have hcz33_3 : w30.cell? ⟨gb242, 3, none⟩ = some (.string (⟨#[]⟩ : ByteArray)) := (blk_cell BK242.out 3).trans rfl; have hfz33_0 := blk_frozen BK242.out 0; have hfz33_1 := blk_frozen BK242.out 1; have hfz33_2 := blk_frozen BK242.out 2; have hfz33_3 := blk_frozen BK242.out 3))
              have n0_ : Aside0 (((((w30.setCell ⟨gb242, 0, none⟩ (.bool a2)).setCell ⟨gb242, 1, none⟩ (.string (⟨#[42, 42]⟩ : ByteArray))).setCell ⟨gb242, 2, none⟩ (.string (⟨#[42, 42]⟩ : ByteArray))).setCell ⟨gb242, 3, none⟩ (.string (⟨#[120]⟩ : ByteArray))).heap[gb237]? = some (.cells #[.string a1_0, .string a1_1, .slice A1_2 l1_2.length c1_2, .slice A1_3 l1_3.length c1_3] 38 (0, 0))) := ⟨by (with_reducible repeat (first | refine blk_drewN ?_ _ | refine blk_drew ?_ | refine blk_alloc ?_ _)); refine blk_far ?_ NB237_242.out _; (with_reducible repeat (first | refine blk_drewN ?_ _ | refine blk_drew ?_ | refine blk_alloc ?_ _)); refine blk_far ?_ NB237_242.out _; (with_reducible repeat (first | refine blk_drewN ?_ _ | refine blk_drew ?_ | refine blk_alloc ?_ _)); refine blk_far ?_ NB237_242.out _; (with_reducible repeat (first | refine blk_drewN ?_ _ | refine blk_drew ?_ | refine blk_alloc ?_ _)); refine blk_far ?_ NB237_242.out _; (with_reducible repeat (first | refine blk_drewN ?_ _ | refine blk_drew ?_ | refine blk_alloc ?_ _)); exact BK237.out⟩
              have n1_ : Aside0 (((((w30.setCell ⟨gb242, 0, none⟩ (.bool a2)).setCell ⟨gb242, 1, none⟩ (.string (⟨#[42, 42]⟩ : ByteArray))).setCell ⟨gb242, 2, none⟩ (.string (⟨#[42, 42]⟩ : ByteArray))).setCell ⟨gb242, 3, none⟩ (.string (⟨#[120]⟩ : ByteArray))).heap[gb241]? = some (.cells #[.bool a2, .string (⟨#[42, 42]⟩ : ByteArray), .string (⟨#[42, 42]⟩ : ByteArray), .string (⟨#[42, 42]⟩ : ByteArray)] 23 (0, 0))) := ⟨by (with_reducible repeat (first | refine blk_drewN ?_ _ | refine blk_drew ?_ | refine blk_alloc ?_ _)); refine blk_far ?_ NB241_242.out _; (with_reducible repeat (first | refine blk_drewN ?_ _ | refine blk_drew ?_ | refine blk_alloc ?_ _)); refine blk_far ?_ NB241_242.out _; (with_reducible repeat (first | refine blk_drewN ?_ _ | refine blk_drew ?_ | refine blk_alloc ?_ _)); refine blk_far ?_ NB241_242.out _; (with_reducible repeat (first | refine blk_drewN ?_ _ | refine blk_drew ?_ | refine blk_alloc ?_ _)); refine blk_far ?_ NB241_242.out _; (with_reducible repeat (first | refine blk_drewN ?_ _ | refine blk_drew ?_ | refine blk_alloc ?_ _)); exact BK241.out⟩
              have n2_ : Aside0 (((((w30.setCell ⟨gb242, 0, none⟩ (.bool a2)).setCell ⟨gb242, 1, none⟩ (.string (⟨#[42, 42]⟩ : ByteArray))).setCell ⟨gb242, 2, none⟩ (.string (⟨#[42, 42]⟩ : ByteArray))).setCell ⟨gb242, 3, none⟩ (.string (⟨#[120]⟩ : ByteArray))).heap[gb242]? = some (.cells #[.bool a2, .string (⟨#[42, 42]⟩ : ByteArray), .string (⟨#[42, 42]⟩ : ByteArray), .string (⟨#[120]⟩ : ByteArray)] 23 (0, 0))) := ⟨by (with_reducible repeat (first | refine blk_drewN ?_ _ | refine blk_drew ?_ | refine blk_alloc ?_ _)); refine blk_put (cs := #[.bool a2, .string (⟨#[42, 42]⟩ : ByteArray), .string (⟨#[42, 42]⟩ : ByteArray), .string (⟨#[]⟩ : ByteArray)]) ?_ 3 _ rfl; (with_reducible repeat (first | refine blk_drewN ?_ _ | refine blk_drew ?_ | refine blk_alloc ?_ _)); refine blk_put (cs := #[.bool a2, .string (⟨#[42, 42]⟩ : ByteArray), .string (⟨#[]⟩ : ByteArray), .string (⟨#[]⟩ : ByteArray)]) ?_ 2 _ rfl; (with_reducible repeat (first | refine blk_drewN ?_ _ | refine blk_drew ?_ | refine blk_alloc ?_ _)); refine blk_put (cs := #[.bool a2, .string (⟨#[]⟩ : ByteArray), .string (⟨#[]⟩ : ByteArray), .string (⟨#[]⟩ : ByteArray)]) ?_ 1 _ rfl; (with_reducible repeat (first | refine blk_drewN ?_ _ | refine blk_drew ?_ | refine blk_alloc ?_ _)); refine blk_put (cs := #[.bool false, .string (⟨#[]⟩ : ByteArray), .string (⟨#[]⟩ : ByteArray), .string (⟨#[]⟩ : ByteArray)]) ?_ 0 _ rfl; (with_reducible repeat (first | refine blk_drewN ?_ _ | refine blk_drew ?_ | refine blk_alloc ?_ _)); exact BK242.out⟩
              have n3_ : Aside0 (Below w.heap.size w ((((w30.setCell ⟨gb242, 0, none⟩ (.bool a2)).setCell ⟨gb242, 1, none⟩ (.string (⟨#[42, 42]⟩ : ByteArray))).setCell ⟨gb242, 2, none⟩ (.string (⟨#[42, 42]⟩ : ByteArray))).setCell ⟨gb242, 3, none⟩ (.string (⟨#[120]⟩ : ByteArray)))) := ⟨by repeat (first | (with_reducible first | exact HB.out | apply below_alloc | apply pw_below_drewN | apply below_drew1 | refine below_set ?_ GE237.out | refine below_set ?_ GE241.out | refine below_set ?_ GE242.out) | exact HB.out)⟩
              (try clear BK237)
              (try clear BK241)
              (try clear BK242)
              (try clear HB)
              generalize ((((w30.setCell ⟨gb242, 0, none⟩ (.bool a2)).setCell ⟨gb242, 1, none⟩ (.string (⟨#[42, 42]⟩ : ByteArray))).setCell ⟨gb242, 2, none⟩ (.string (⟨#[42, 42]⟩ : ByteArray))).setCell ⟨gb242, 3, none⟩ (.string (⟨#[120]⟩ : ByteArray))) = w34 at n0_ n1_ n2_ n3_ ⊢
              have BK237 := n0_
              have BK241 := n1_
              have BK242 := n2_
              have HB := n3_
              clear n0_ n1_ n2_ n3_
              have n0_ := Aside0.mk (blk_drew BK237.out)
              have n1_ := Aside0.mk (blk_drew BK241.out)
              have n2_ := Aside0.mk (blk_drew BK242.out)
              have n3_ := Aside0.mk (below_drew1 HB.out)
              clear BK237
              clear BK241
              clear BK242
              clear HB
              have BK237 := n0_
              have BK241 := n1_
              have BK242 := n2_
              have HB := n3_
              clear n0_ n1_ n2_ n3_
              refine start_ (n := 11) (S := fun w' => w'.cell? ⟨gb241, 0, none⟩ = some (.bool a2) ∧ w'.cell? ⟨gb241, 1, none⟩ = some (.string (⟨#[42, 42]⟩ : ByteArray)) ∧ w'.cell? ⟨gb241, 2, none⟩ = some (.string (⟨#[42, 42]⟩ : ByteArray)) ∧ w'.cell? ⟨gb241, 3, none⟩ = some (.string (⟨#[42, 42]⟩ : ByteArray)) ∧ w'.cell? ⟨gb237, 0, none⟩ = some (.string a1_0) ∧ w'.cell? ⟨gb237, 1, none⟩ = some (.string a1_1) ∧ w'.cell? ⟨gb237, 2, none⟩ = some (.slice A1_2 l1_2.length c1_2) ∧ w'.cell? ⟨gb237, 3, none⟩ = some (.slice A1_3 l1_3.length c1_3)) (ds := []) #[false, false, false, false, false, false, false, false, false, false, false] (by kernel_rfl) rfl rfl ⟨(blk_cell BK241.out 0).trans rfl, (blk_cell BK241.out 1).trans rfl, (blk_cell BK241.out 2).trans rfl, (blk_cell BK241.out 3).trans rfl, (blk_cell BK237.out 0).trans rfl, (blk_cell BK237.out 1).trans rfl, (blk_cell BK237.out 2).trans rfl, (blk_cell BK237.out 3).trans rfl⟩ (fun hHeld => ?_); refine with_tabW ambrylaw26_AclFirst.tab7 ambrylaw26_AclFirst.bits7 (fun HT_ HW_ => ?_)
              generalize w34.drew = w35 at BK237 BK241 BK242 HB hHeld ⊢
              refine pure_ (i := 2) (N := some 41) (v := ?_) (a' := ?_) #[false, false, true, false, false, false, false, false, false, false, false] rfl rfl (any_of HT_.out (by kernel_rfl)) (fun _ _ _ h => h) (Or.inl ⟨by rfl, ?_⟩) ?_ ?_
              rotate_left
              · intro w'
                (try simp only [IntKind.wrap_u8])
                go_simp
                with_reducible rfl
              rotate_left
              · simp only [Act.put, List.setIfInBounds_toArray, List.set_cons_zero, List.set_cons_succ, i64_w, i32_w]
                rfl
              refine take_ (i := 0) (N := some 39) (v := ?_) (a' := ?_) #[true, false, true, false, false, false, false, false, false, false, false] rfl rfl (take_ofW HT_.out HW_.out (by kernel_rfl)) (fun _ _ _ h => h) (Or.inl ⟨by rfl, ?_⟩) hHeld ?_ ?_
              rotate_left
              · rintro w' ⟨s0, s1, s2, s3, s4, s5, s6, s7⟩
                go_simp
                with_reducible rfl
              rotate_left
              · simp only [Act.put, List.setIfInBounds_toArray, List.set_cons_zero, List.set_cons_succ, i64_w, i32_w]
                rfl
              refine take_ (i := 4) (N := some 43) (v := ?_) (a' := ?_) #[true, false, true, false, true, false, false, false, false, false, false] rfl rfl (take_ofW HT_.out HW_.out (by kernel_rfl)) (fun _ _ _ h => h) (Or.inl ⟨by rfl, ?_⟩) hHeld ?_ ?_
              rotate_left
              · rintro w' ⟨s0, s1, s2, s3, s4, s5, s6, s7⟩
                go_simp
                with_reducible rfl
              rotate_left
              · simp only [Act.put, List.setIfInBounds_toArray, List.set_cons_zero, List.set_cons_succ, i64_w, i32_w]
                rfl
              refine one_ (i := 1) (N := some 40) #[true, true, true, false, true, false, false, false, false, false, false] rfl rfl (one_of HT_.out (by kernel_rfl)) (by decide) (fun K hK => ?_)
              refine Kd.R_lit_step k23 _ 23 ?hg (N := 40) ?hd (xs := ([(⟨a2, (⟨#[42, 42]⟩ : ByteArray), (⟨#[42, 42]⟩ : ByteArray), (⟨#[42, 42]⟩ : ByteArray)⟩ : S23)] : List (S23))) (inner := [.bool a2, .string (⟨#[42, 42]⟩ : ByteArray), .string (⟨#[42, 42]⟩ : ByteArray), .string (⟨#[42, 42]⟩ : ByteArray)]) (ok := fun _ => True) (okp := fun _ => True) ?hr ?hp (fun _ hk => hk) trivial (Below.refl _ _) (Nat.le_refl _) (by simp) ?_; (case hd => rfl); (case hg => rfl); (case hr => first | (go_simp; done) | (go_simp; rfl)); (case hp => exact (Reps.c4 (show Kd.M k23 _ _ _ (⟨a2, (⟨#[42, 42]⟩ : ByteArray), (⟨#[42, 42]⟩ : ByteArray), (⟨#[42, 42]⟩ : ByteArray)⟩ : S23) [.bool a2, .string (⟨#[42, 42]⟩ : ByteArray), .string (⟨#[42, 42]⟩ : ByteArray), .string (⟨#[42, 42]⟩ : ByteArray)] from (k23_mkM _ _ _ (⟨a2, (⟨#[42, 42]⟩ : ByteArray), (⟨#[42, 42]⟩ : ByteArray), (⟨#[42, 42]⟩ : ByteArray)⟩ : S23) )) (Reps.none _ _)))
              intro v244 w36 ho37 hb hg_ hnew_
              clear hg_ hnew_
              (first | rw [← Ny243.out] at ho37 | (simp only [Int.reduceToNat] at ho37; rw [← Ny243.out] at ho37))
              have n0_ := Aside0.mk (Kd.R_lower (Kd.R_newB (Kd.R_newB ho37 (g := gb241) (o := .cells #[.bool a2, .string (⟨#[42, 42]⟩ : ByteArray), .string (⟨#[42, 42]⟩ : ByteArray), .string (⟨#[42, 42]⟩ : ByteArray)] 23 (0, 0)) (by (with_reducible repeat (first | refine blk_drewN ?_ _ | refine blk_drew ?_ | refine blk_alloc ?_ _)); exact BK241.out)) (g := gb242) (o := .cells #[.bool a2, .string (⟨#[42, 42]⟩ : ByteArray), .string (⟨#[42, 42]⟩ : ByteArray), .string (⟨#[120]⟩ : ByteArray)] 23 (0, 0)) (by (with_reducible repeat (first | refine blk_drewN ?_ _ | refine blk_drew ?_ | refine blk_alloc ?_ _)); exact BK242.out)) (below_size (by repeat (first | (with_reducible first | exact HB.out | apply below_alloc | apply pw_below_drewN | apply below_drew1 | refine below_set ?_ GE237.out | refine below_set ?_ GE241.out | refine below_set ?_ GE242.out) | exact HB.out))))
              have n1_ := Aside0.mk (blk_below (g := gb237) (o := .cells #[.string a1_0, .string a1_1, .slice A1_2 l1_2.length c1_2, .slice A1_3 l1_3.length c1_3] 38 (0, 0)) (by (with_reducible repeat (first | refine blk_drewN ?_ _ | refine blk_drew ?_ | refine blk_alloc ?_ _)); exact BK237.out) hb)
              have n2_ := Aside0.mk (blk_below (g := gb241) (o := .cells #[.bool a2, .string (⟨#[42, 42]⟩ : ByteArray), .string (⟨#[42, 42]⟩ : ByteArray), .string (⟨#[42, 42]⟩ : ByteArray)] 23 (0, 0)) (by (with_reducible repeat (first | refine blk_drewN ?_ _ | refine blk_drew ?_ | refine blk_alloc ?_ _)); exact BK241.out) hb)
              have n3_ := Aside0.mk (blk_below (g := gb242) (o := .cells #[.bool a2, .string (⟨#[42, 42]⟩ : ByteArray), .string (⟨#[42, 42]⟩ : ByteArray), .string (⟨#[120]⟩ : ByteArray)] 23 (0, 0)) (by (with_reducible repeat (first | refine blk_drewN ?_ _ | refine blk_drew ?_ | refine blk_alloc ?_ _)); exact BK242.out) hb)
              have n4_ := Aside0.mk (below_step (by repeat (first | (with_reducible first | exact HB.out | apply below_alloc | apply pw_below_drewN | apply below_drew1 | refine below_set ?_ GE237.out | refine below_set ?_ GE241.out | refine below_set ?_ GE242.out) | exact HB.out)) hb)
              clear BK237
              clear BK241
              clear BK242
              clear HB
              have HO245 := n0_
              have BK237 := n1_
              have BK241 := n2_
              have BK242 := n3_
              have HB := n4_
              clear n0_ n1_ n2_ n3_ n4_
              clear hb ho37
              refine hK.out _ _ ⟨(blk_cell BK241.out 0).trans rfl, (blk_cell BK241.out 1).trans rfl, (blk_cell BK241.out 2).trans rfl, (blk_cell BK241.out 3).trans rfl, (blk_cell BK237.out 0).trans rfl, (blk_cell BK237.out 1).trans rfl, (blk_cell BK237.out 2).trans rfl, (blk_cell BK237.out 3).trans rfl⟩ (fun hHeld => ?_)
              clear hK K
              refine norm_ (a' := ?_) ?_ ?_
              rotate_left
              · show Act.put _ (some 40) _ = _
                simp only [Act.put, List.setIfInBounds_toArray, List.set_cons_zero, List.set_cons_succ, i64_w, i32_w]
                rfl
              refine one_ (i := 3) (N := some 42) #[true, true, true, true, true, false, false, false, false, false, false] rfl rfl (one_of HT_.out (by kernel_rfl)) (by decide) (fun K hK => ?_)
              refine Kd.R_append_rows_step k23 (w0 := w) w.heap.size (by rfl) (.tmp 40) (.tmp 41) 26 23 (.agg #[(.bool false), (.string ⟨#[]⟩), (.string ⟨#[]⟩), (.string ⟨#[]⟩)]) 56 rfl Try.underlying26 info23 rfl (by decide) (by omega) v244 y243 l0 _ _ _ (fun k_ => k_ ≠ gb241 ∧ k_ ≠ gb242) (fun _ => False) rfl rfl ?aO ?aR (fun _ _ h => h) (fun _ h => h.elim) ?aF ?aB ?aS ?aL ?_
              (case aR => repeat (first | exact (Kd.C_below HR0.out HB.out) | (with_reducible refine Kd.C_alloc ?_ _) | (with_reducible refine Kd.C_drewN ?_ _) | (with_reducible refine Kd.C_drew ?_)))
              (case aB => exact (by repeat (first | (with_reducible first | exact HB.out | apply below_alloc | apply pw_below_drewN | apply below_drew1 | refine below_set ?_ GE237.out | refine below_set ?_ GE241.out | refine below_set ?_ GE242.out) | exact HB.out)))
              (case aF => exact (fun k_ hk => ⟨Kd.freshB (g := gb241) (o := .cells #[.bool a2, .string (⟨#[42, 42]⟩ : ByteArray), .string (⟨#[42, 42]⟩ : ByteArray), .string (⟨#[42, 42]⟩ : ByteArray)] 23 (0, 0)) (by (with_reducible repeat (first | refine blk_drewN ?_ _ | refine blk_drew ?_ | refine blk_alloc ?_ _)); exact BK241.out) k_ hk, Kd.freshB (g := gb242) (o := .cells #[.bool a2, .string (⟨#[42, 42]⟩ : ByteArray), .string (⟨#[42, 42]⟩ : ByteArray), .string (⟨#[120]⟩ : ByteArray)] 23 (0, 0)) (by (with_reducible repeat (first | refine blk_drewN ?_ _ | refine blk_drew ?_ | refine blk_alloc ?_ _)); exact BK242.out) k_ hk⟩))
              (case aO => exact (by (with_reducible repeat (first | apply Kd.R_alloc | apply Kd.R_drewN | apply Kd.R_drew)); exact Kd.R_mono HO245.out (fun _ hk => ⟨hk.1.2, hk.2⟩)))
              (case aS => exact (below_size (by repeat (first | (with_reducible first | exact HB.out | apply below_alloc | apply pw_below_drewN | apply below_drew1 | refine below_set ?_ GE237.out | refine below_set ?_ GE241.out | refine below_set ?_ GE242.out) | exact HB.out))))
              (case aL => have := LMc19.out; omega)
              intro v247 w38 ho hb hg hat
              rw [← Ny246.out] at ho
              have n0_ := Aside0.mk (blk_grown (g := gb237) (o := .cells #[.string a1_0, .string a1_1, .slice A1_2 l1_2.length c1_2, .slice A1_3 l1_3.length c1_3] 38 (0, 0)) (by (with_reducible repeat (first | refine blk_drewN ?_ _ | refine blk_drew ?_ | refine blk_alloc ?_ _)); exact BK237.out) hg (Kd.R_ne HO245.out BK237.out (by decide)))
              have n1_ := Aside0.mk (blk_grown (g := gb241) (o := .cells #[.bool a2, .string (⟨#[42, 42]⟩ : ByteArray), .string (⟨#[42, 42]⟩ : ByteArray), .string (⟨#[42, 42]⟩ : ByteArray)] 23 (0, 0)) (by (with_reducible repeat (first | refine blk_drewN ?_ _ | refine blk_drew ?_ | refine blk_alloc ?_ _)); exact BK241.out) hg (Kd.R_away HO245.out (fun _ hk => hk.1.2)))
              have n2_ := Aside0.mk (blk_grown (g := gb242) (o := .cells #[.bool a2, .string (⟨#[42, 42]⟩ : ByteArray), .string (⟨#[42, 42]⟩ : ByteArray), .string (⟨#[120]⟩ : ByteArray)] 23 (0, 0)) (by (with_reducible repeat (first | refine blk_drewN ?_ _ | refine blk_drew ?_ | refine blk_alloc ?_ _)); exact BK242.out) hg (Kd.R_away HO245.out (fun _ hk => hk.2)))
              have n3_ := Aside0.mk (hb)
              have n4_ := Aside0.mk (ho)
              clear BK237
              clear BK241
              clear BK242
              clear HB
              clear HO245
              have BK237 := n0_
              have BK241 := n1_
              have BK242 := n2_
              have HB := n3_
              have HO248 := n4_
              clear n0_ n1_ n2_ n3_ n4_
              clear ho hb hg hat
              obtain ⟨Ao39, co39, eo39⟩ := Kd.R_slice HO248.out
              (first | subst eo39 | (injection eo39 with f1_ f2_ f3_; have f4_ := f1_.symm; have f5_ := f3_.symm; clear f1_ f2_ f3_; subst f4_; subst f5_))
              refine hK.out _ _ ⟨(blk_cell BK241.out 0).trans rfl, (blk_cell BK241.out 1).trans rfl, (blk_cell BK241.out 2).trans rfl, (blk_cell BK241.out 3).trans rfl, (blk_cell BK237.out 0).trans rfl, (blk_cell BK237.out 1).trans rfl, (blk_cell BK237.out 2).trans rfl, (blk_cell BK237.out 3).trans rfl⟩ (fun hHeld => ?_)
              clear hK K
              refine norm_ (a' := ?_) ?_ ?_
              rotate_left
              · show Act.put _ (some 42) _ = _
                simp only [Act.put, List.setIfInBounds_toArray, List.set_cons_zero, List.set_cons_succ, i64_w, i32_w]
                rfl
              refine one_ (i := 5) (N := some 44) #[true, true, true, true, true, true, false, false, false, false, false] rfl rfl (one_of HT_.out (by kernel_rfl)) (by decide) (fun K hK => ?_)
              refine goes_ Try.func14 (by kernel_rfl) rfl #[.slice Ao39 y246.length co39, .agg #[.string a1_0, .string a1_1, .slice A1_2 l1_2.length c1_2, .slice A1_3 l1_3.length c1_3]] (by rfl) rfl rfl (by (try simp only [List.map_toArray, List.map_cons, List.map_nil]); first | done | rfl | (simp only [List.length_drop, List.length_take]; rfl)) ?_
              with_reducible refine (acl_Check.calls kj5 _ _ y246 a1_0 a1_1 _ _ l1_2 _ _ l1_3 t249 t250 _ ?side1 ?side2 ?side3 ?side4 ?side5 ?side6 A20.out).mono ?_
              (case side1 => repeat (first | exact (Kd.R_reads' HO248.out).2.2 | (with_reducible refine Kd.C_alloc ?_ _) | (with_reducible refine Kd.C_drewN ?_ _) | (with_reducible refine Kd.C_drew ?_)))
              (case side2 => exact (Kd.R_reads' HO248.out).2.1)
              (case side3 => repeat (first | exact (Kd.C_below HR1_2.out HB.out) | (with_reducible refine Kd.C_alloc ?_ _) | (with_reducible refine Kd.C_drewN ?_ _) | (with_reducible refine Kd.C_drew ?_)))
              (case side4 => exact HC1_2.out)
              (case side5 => repeat (first | exact (Kd.C_below HR1_3.out HB.out) | (with_reducible refine Kd.C_alloc ?_ _) | (with_reducible refine Kd.C_drewN ?_ _) | (with_reducible refine Kd.C_drew ?_)))
              (case side6 => exact HC1_3.out)
              rintro e w40 ⟨rfl, hb⟩
              refine ⟨_, rfl, ?_⟩
              have n0_ := Aside0.mk (Kd.R_below (by (with_reducible repeat (first | apply Kd.R_alloc | apply Kd.R_drewN | apply Kd.R_drew)); exact HO248.out) hb)
              have n1_ := Aside0.mk (blk_below (g := gb237) (o := .cells #[.string a1_0, .string a1_1, .slice A1_2 l1_2.length c1_2, .slice A1_3 l1_3.length c1_3] 38 (0, 0)) (by (with_reducible repeat (first | refine blk_drewN ?_ _ | refine blk_drew ?_ | refine blk_alloc ?_ _)); exact BK237.out) hb)
              have n2_ := Aside0.mk (blk_below (g := gb241) (o := .cells #[.bool a2, .string (⟨#[42, 42]⟩ : ByteArray), .string (⟨#[42, 42]⟩ : ByteArray), .string (⟨#[42, 42]⟩ : ByteArray)] 23 (0, 0)) (by (with_reducible repeat (first | refine blk_drewN ?_ _ | refine blk_drew ?_ | refine blk_alloc ?_ _)); exact BK241.out) hb)
              have n3_ := Aside0.mk (blk_below (g := gb242) (o := .cells #[.bool a2, .string (⟨#[42, 42]⟩ : ByteArray), .string (⟨#[42, 42]⟩ : ByteArray), .string (⟨#[120]⟩ : ByteArray)] 23 (0, 0)) (by (with_reducible repeat (first | refine blk_drewN ?_ _ | refine blk_drew ?_ | refine blk_alloc ?_ _)); exact BK242.out) hb)
              have n4_ := Aside0.mk (below_step (by repeat (first | (with_reducible first | exact HB.out | apply below_alloc | apply pw_below_drewN | apply below_drew1 | refine below_set ?_ GE237.out | refine below_set ?_ GE241.out | refine below_set ?_ GE242.out) | exact HB.out)) hb)
              clear HO248
              clear BK237
              clear BK241
              clear BK242
              clear HB
              have HO248 := n0_
              have BK237 := n1_
              have BK241 := n2_
              have BK242 := n3_
              have HB := n4_
              clear n0_ n1_ n2_ n3_ n4_
              (try clear hb)
              (try clear hb2)
              (try clear hk)
              (try clear hi)
              refine hK.out _ _ ⟨(blk_cell BK241.out 0).trans rfl, (blk_cell BK241.out 1).trans rfl, (blk_cell BK241.out 2).trans rfl, (blk_cell BK241.out 3).trans rfl, (blk_cell BK237.out 0).trans rfl, (blk_cell BK237.out 1).trans rfl, (blk_cell BK237.out 2).trans rfl, (blk_cell BK237.out 3).trans rfl⟩ (fun hHeld => ?_)
              clear hK K
              refine norm_ (a' := ?_) ?_ ?_
              rotate_left
              · show Act.put _ (some 44) _ = _
                simp only [Act.put, List.setIfInBounds_toArray, List.set_cons_zero, List.set_cons_succ, i64_w, i32_w]
                rfl
              refine pure_ (i := 6) (N := some 38) (v := ?_) (a' := ?_) #[true, true, true, true, true, true, true, false, false, false, false] rfl rfl (any_of HT_.out (by kernel_rfl)) (fun _ _ _ h => h) (Or.inl ⟨by rfl, ?_⟩) ?_ ?_
              rotate_left
              · intro w'
                (try simp only [IntKind.wrap_u8])
                go_simp
                with_reducible rfl
              rotate_left
              · simp only [Act.put, List.setIfInBounds_toArray, List.set_cons_zero, List.set_cons_succ, i64_w, i32_w]
                rfl
              refine pure_ (i := 7) (N := some 45) (v := ?_) (a' := ?_) #[true, true, true, true, true, true, true, true, false, false, false] rfl rfl (any_of HT_.out (by kernel_rfl)) (fun _ _ _ h => h) (Or.inl ⟨by rfl, ?_⟩) ?_ ?_
              rotate_left
              · intro w'
                (try simp only [IntKind.wrap_u8])
                go_simp
                with_reducible rfl
              rotate_left
              · simp only [Act.put, List.setIfInBounds_toArray, List.set_cons_zero, List.set_cons_succ, i64_w, i32_w]
                rfl
              refine pure_ (i := 8) (N := some 46) (v := ?_) (a' := ?_) #[true, true, true, true, true, true, true, true, true, false, false] rfl rfl (any_of HT_.out (by kernel_rfl)) (fun _ _ _ h => h) (Or.inl ⟨by rfl, ?_⟩) ?_ ?_
              rotate_left
              · intro w'
                (try simp only [IntKind.wrap_u8])
                go_simp
                with_reducible rfl
              rotate_left
              · simp only [Act.put, List.setIfInBounds_toArray, List.set_cons_zero, List.set_cons_succ, i64_w, i32_w]
                rfl
              refine pure_ (i := 9) (N := some 9) (v := ?_) (a' := ?_) #[true, true, true, true, true, true, true, true, true, true, false] rfl rfl (any_of HT_.out (by kernel_rfl)) (fun _ _ _ h => h) (Or.inl ⟨by rfl, ?_⟩) ?_ ?_
              rotate_left
              · intro w'
                (try simp only [IntKind.wrap_u8])
                go_simp
                with_reducible rfl
              rotate_left
              · simp only [Act.put, List.setIfInBounds_toArray, List.set_cons_zero, List.set_cons_succ, i64_w, i32_w]
                rfl
              refine pure_ (i := 10) (N := some 10) (v := ?_) (a' := ?_) #[true, true, true, true, true, true, true, true, true, true, true] rfl rfl (any_of HT_.out (by kernel_rfl)) (fun _ _ _ h => h) (Or.inl ⟨by rfl, ?_⟩) ?_ ?_
              rotate_left
              · intro w'
                (try simp only [IntKind.wrap_u8])
                go_simp
                with_reducible rfl
              rotate_left
              · simp only [Act.put, List.setIfInBounds_toArray, List.set_cons_zero, List.set_cons_succ, i64_w, i32_w]
                rfl
              refine done_ (done_of HT_.out (by kernel_rfl)) ?_
              have hcz41_0 : w40.cell? ⟨gb237, 0, none⟩ = some (.string a1_0) := (blk_cell BK237.out 0).trans rfl
              have hcz41_1 : w40.cell? ⟨gb237, 1, none⟩ = some (.string a1_1) := (blk_cell BK237.out 1).trans rfl
              have hcz41_2 : w40.cell? ⟨gb237, 2, none⟩ = some (.slice A1_2 l1_2.length c1_2) := (blk_cell BK237.out 2).trans rfl
              have hcz41_3 : w40.cell? ⟨gb237, 3, none⟩ = some (.slice A1_3 l1_3.length c1_3) := (blk_cell BK237.out 3).trans rfl
              have hfz41_0 := blk_frozen BK237.out 0
              have hfz41_1 := blk_frozen BK237.out 1
              have hfz41_2 := blk_frozen BK237.out 2
              have hfz41_3 := blk_frozen BK237.out 3
              try go_wp2_with (first | ((with_reducible refine gate_callee (f := 14) rfl ?_); refine goesL_ (some 50) rfl rfl Try.func14 (by kernel_rfl) rfl #[.slice A0 l0.length c0, .agg #[.string a1_0, .string a1_1, .slice A1_2 l1_2.length c1_2, .slice A1_3 l1_3.length c1_3]] rfl (by (try simp only [List.map_toArray, List.map_cons, List.map_nil]); first | done | rfl | (simp only [List.length_drop, List.length_take]; rfl)) ?_; (with_reducible refine (acl_Check.calls kj5 _ _ l0 a1_0 a1_1 _ _ l1_2 _ _ l1_3 t251 t252 _ ?side1 ?side2 ?side3 ?side4 ?side5 ?side6 A21.out).mono ?_); (case side1 => repeat (first | exact (Kd.C_below HR0.out HB.out) | (with_reducible refine Kd.C_alloc ?_ _) | (with_reducible refine Kd.C_drewN ?_ _) | (with_reducible refine Kd.C_drew ?_))); (case side2 => exact HC0.out); (case side3 => repeat (first | exact (Kd.C_below HR1_2.out HB.out) | (with_reducible refine Kd.C_alloc ?_ _) | (with_reducible refine Kd.C_drewN ?_ _) | (with_reducible refine Kd.C_drew ?_))); (case side4 => exact HC1_2.out); (case side5 => repeat (first | exact (Kd.C_below HR1_3.out HB.out) | (with_reducible refine Kd.C_alloc ?_ _) | (with_reducible refine Kd.C_drewN ?_ _) | (with_reducible refine Kd.C_drew ?_))); (case side6 => exact HC1_3.out); rintro e w42 ⟨rfl, hb⟩; refine ⟨_, rfl, ?_⟩; have n0_ := Aside0.mk (Kd.R_below (by (with_reducible repeat (first | apply Kd.R_alloc | apply Kd.R_drewN | apply Kd.R_drew)); exact HO248.out) hb); have n1_ := Aside0.mk (blk_below (g := gb237) (o := .cells #[.string a1_0, .string a1_1, .slice A1_2 l1_2.length c1_2, .slice A1_3 l1_3.length c1_3] 38 (0, 0)) (by (with_reducible repeat (first | refine blk_drewN ?_ _ | refine blk_drew ?_ | refine blk_alloc ?_ _)); exact BK237.out) hb); have n2_ := Aside0.mk (blk_below (g := gb241) (o := .cells #[.bool a2, .string (⟨#[42, 42]⟩ : ByteArray), .string (⟨#[42, 42]⟩ : ByteArray), .string (⟨#[42, 42]⟩ : ByteArray)] 23 (0, 0)) (by (with_reducible repeat (first | refine blk_drewN ?_ _ | refine blk_drew ?_ | refine blk_alloc ?_ _)); exact BK241.out) hb); have n3_ := Aside0.mk (blk_below (g := gb242) (o := .cells #[.bool a2, .string (⟨#[42, 42]⟩ : ByteArray), .string (⟨#[42, 42]⟩ : ByteArray), .string (⟨#[120]⟩ : ByteArray)] 23 (0, 0)) (by (with_reducible repeat (first | refine blk_drewN ?_ _ | refine blk_drew ?_ | refine blk_alloc ?_ _)); exact BK242.out) hb); have n4_ := Aside0.mk (below_step (by repeat (first | (with_reducible first | exact HB.out | apply below_alloc | apply pw_below_drewN | apply below_drew1 | refine below_set ?_ GE237.out | refine below_set ?_ GE241.out | refine below_set ?_ GE242.out) | exact HB.out)) hb); clear HO248; clear BK237; clear BK241; clear BK242; clear HB; have HO248 := n0_; have BK237 := n1_; have BK241 := n2_; have BK242 := n3_; have HB := n4_; clear n0_ n1_ n2_ n3_ n4_; (try clear hb); (try clear hb2); (try clear hk); (try clear hi)))
              have n0_ := Aside0.mk (Kd.R_drew HO248.out)
              have n1_ := Aside0.mk (blk_drew BK237.out)
              have n2_ := Aside0.mk (blk_drew BK241.out)
              have n3_ := Aside0.mk (blk_drew BK242.out)
              have n4_ := Aside0.mk (below_drew1 HB.out)
              clear HO248
              clear BK237
              clear BK241
              clear BK242
              clear HB
              have HO248 := n0_
              have BK237 := n1_
              have BK241 := n2_
              have BK242 := n3_
              have HB := n4_
              clear n0_ n1_ n2_ n3_ n4_
              refine start_ (n := 11) (S := fun w' => w'.cell? ⟨gb242, 0, none⟩ = some (.bool a2) ∧ w'.cell? ⟨gb242, 1, none⟩ = some (.string (⟨#[42, 42]⟩ : ByteArray)) ∧ w'.cell? ⟨gb242, 2, none⟩ = some (.string (⟨#[42, 42]⟩ : ByteArray)) ∧ w'.cell? ⟨gb242, 3, none⟩ = some (.string (⟨#[120]⟩ : ByteArray)) ∧ w'.cell? ⟨gb237, 0, none⟩ = some (.string a1_0) ∧ w'.cell? ⟨gb237, 1, none⟩ = some (.string a1_1) ∧ w'.cell? ⟨gb237, 2, none⟩ = some (.slice A1_2 l1_2.length c1_2) ∧ w'.cell? ⟨gb237, 3, none⟩ = some (.slice A1_3 l1_3.length c1_3)) (ds := []) #[false, false, false, false, false, false, false, false, false, false, false] (by kernel_rfl) rfl rfl ⟨(blk_cell BK242.out 0).trans rfl, (blk_cell BK242.out 1).trans rfl, (blk_cell BK242.out 2).trans rfl, (blk_cell BK242.out 3).trans rfl, (blk_cell BK237.out 0).trans rfl, (blk_cell BK237.out 1).trans rfl, (blk_cell BK237.out 2).trans rfl, (blk_cell BK237.out 3).trans rfl⟩ (fun hHeld => ?_); refine with_tabW ambrylaw26_AclFirst.tab9 ambrylaw26_AclFirst.bits9 (fun HT_ HW_ => ?_)
              generalize w42.drew = w43 at HO248 BK237 BK241 BK242 HB hHeld ⊢
              refine pure_ (i := 2) (N := some 56) (v := ?_) (a' := ?_) #[false, false, true, false, false, false, false, false, false, false, false] rfl rfl (any_of HT_.out (by kernel_rfl)) (fun _ _ _ h => h) (Or.inl ⟨by rfl, ?_⟩) ?_ ?_
              rotate_left
              · intro w'
                (try simp only [IntKind.wrap_u8])
                go_simp
                with_reducible rfl
              rotate_left
              · simp only [Act.put, List.setIfInBounds_toArray, List.set_cons_zero, List.set_cons_succ, i64_w, i32_w]
                rfl
              refine take_ (i := 0) (N := some 54) (v := ?_) (a' := ?_) #[true, false, true, false, false, false, false, false, false, false, false] rfl rfl (take_ofW HT_.out HW_.out (by kernel_rfl)) (fun _ _ _ h => h) (Or.inl ⟨by rfl, ?_⟩) hHeld ?_ ?_
              rotate_left
              · rintro w' ⟨s0, s1, s2, s3, s4, s5, s6, s7⟩
                go_simp
                with_reducible rfl
              rotate_left
              · simp only [Act.put, List.setIfInBounds_toArray, List.set_cons_zero, List.set_cons_succ, i64_w, i32_w]
                rfl
              refine take_ (i := 4) (N := some 58) (v := ?_) (a' := ?_) #[true, false, true, false, true, false, false, false, false, false, false] rfl rfl (take_ofW HT_.out HW_.out (by kernel_rfl)) (fun _ _ _ h => h) (Or.inl ⟨by rfl, ?_⟩) hHeld ?_ ?_
              rotate_left
              · rintro w' ⟨s0, s1, s2, s3, s4, s5, s6, s7⟩
                go_simp
                with_reducible rfl
              rotate_left
              · simp only [Act.put, List.setIfInBounds_toArray, List.set_cons_zero, List.set_cons_succ, i64_w, i32_w]
                rfl
              refine one_ (i := 1) (N := some 55) #[true, true, true, false, true, false, false, false, false, false, false] rfl rfl (one_of HT_.out (by kernel_rfl)) (by decide) (fun K hK => ?_)
              refine Kd.R_lit_step k23 _ 23 ?hg (N := 55) ?hd (xs := ([(⟨a2, (⟨#[42, 42]⟩ : ByteArray), (⟨#[42, 42]⟩ : ByteArray), (⟨#[120]⟩ : ByteArray)⟩ : S23)] : List (S23))) (inner := [.bool a2, .string (⟨#[42, 42]⟩ : ByteArray), .string (⟨#[42, 42]⟩ : ByteArray), .string (⟨#[120]⟩ : ByteArray)]) (ok := fun _ => True) (okp := fun _ => True) ?hr ?hp (fun _ hk => hk) trivial (Below.refl _ _) (Nat.le_refl _) (by simp) ?_; (case hd => rfl); (case hg => rfl); (case hr => first | (go_simp; done) | (go_simp; rfl)); (case hp => exact (Reps.c4 (show Kd.M k23 _ _ _ (⟨a2, (⟨#[42, 42]⟩ : ByteArray), (⟨#[42, 42]⟩ : ByteArray), (⟨#[120]⟩ : ByteArray)⟩ : S23) [.bool a2, .string (⟨#[42, 42]⟩ : ByteArray), .string (⟨#[42, 42]⟩ : ByteArray), .string (⟨#[120]⟩ : ByteArray)] from (k23_mkM _ _ _ (⟨a2, (⟨#[42, 42]⟩ : ByteArray), (⟨#[42, 42]⟩ : ByteArray), (⟨#[120]⟩ : ByteArray)⟩ : S23) )) (Reps.none _ _)))
              intro v254 w44 ho45 hb hg_ hnew_
              clear hg_ hnew_
              (first | rw [← Ny253.out] at ho45 | (simp only [Int.reduceToNat] at ho45; rw [← Ny253.out] at ho45))
              have n0_ := Aside0.mk (Kd.R_elder' (by (with_reducible repeat (first | apply Kd.R_alloc | apply Kd.R_drewN | apply Kd.R_drew)); exact HO248.out) (Kd.R_base ho45) hb)
              have n1_ := Aside0.mk (Kd.R_lower (Kd.R_newB (Kd.R_newB (Kd.R_new' ho45 (Kd.R_lt (by (with_reducible repeat (first | apply Kd.R_alloc | apply Kd.R_drewN | apply Kd.R_drew)); exact HO248.out))) (g := gb241) (o := .cells #[.bool a2, .string (⟨#[42, 42]⟩ : ByteArray), .string (⟨#[42, 42]⟩ : ByteArray), .string (⟨#[42, 42]⟩ : ByteArray)] 23 (0, 0)) (by (with_reducible repeat (first | refine blk_drewN ?_ _ | refine blk_drew ?_ | refine blk_alloc ?_ _)); exact BK241.out)) (g := gb242) (o := .cells #[.bool a2, .string (⟨#[42, 42]⟩ : ByteArray), .string (⟨#[42, 42]⟩ : ByteArray), .string (⟨#[120]⟩ : ByteArray)] 23 (0, 0)) (by (with_reducible repeat (first | refine blk_drewN ?_ _ | refine blk_drew ?_ | refine blk_alloc ?_ _)); exact BK242.out)) (below_size (by repeat (first | (with_reducible first | exact HB.out | apply below_alloc | apply pw_below_drewN | apply below_drew1 | refine below_set ?_ GE237.out | refine below_set ?_ GE241.out | refine below_set ?_ GE242.out) | exact HB.out))))
              have n2_ := Aside0.mk (blk_below (g := gb237) (o := .cells #[.string a1_0, .string a1_1, .slice A1_2 l1_2.length c1_2, .slice A1_3 l1_3.length c1_3] 38 (0, 0)) (by (with_reducible repeat (first | refine blk_drewN ?_ _ | refine blk_drew ?_ | refine blk_alloc ?_ _)); exact BK237.out) hb)
              have n3_ := Aside0.mk (blk_below (g := gb241) (o := .cells #[.bool a2, .string (⟨#[42, 42]⟩ : ByteArray), .string (⟨#[42, 42]⟩ : ByteArray), .string (⟨#[42, 42]⟩ : ByteArray)] 23 (0, 0)) (by (with_reducible repeat (first | refine blk_drewN ?_ _ | refine blk_drew ?_ | refine blk_alloc ?_ _)); exact BK241.out) hb)
              have n4_ := Aside0.mk (blk_below (g := gb242) (o := .cells #[.bool a2, .string (⟨#[42, 42]⟩ : ByteArray), .string (⟨#[42, 42]⟩ : ByteArray), .string (⟨#[120]⟩ : ByteArray)] 23 (0, 0)) (by (with_reducible repeat (first | refine blk_drewN ?_ _ | refine blk_drew ?_ | refine blk_alloc ?_ _)); exact BK242.out) hb)
              have n5_ := Aside0.mk (below_step (by repeat (first | (with_reducible first | exact HB.out | apply below_alloc | apply pw_below_drewN | apply below_drew1 | refine below_set ?_ GE237.out | refine below_set ?_ GE241.out | refine below_set ?_ GE242.out) | exact HB.out)) hb)
              clear HO248
              clear BK237
              clear BK241
              clear BK242
              clear HB
              have HO248 := n0_
              have HO255 := n1_
              have BK237 := n2_
              have BK241 := n3_
              have BK242 := n4_
              have HB := n5_
              clear n0_ n1_ n2_ n3_ n4_ n5_
              clear hb ho45
              refine hK.out _ _ ⟨(blk_cell BK242.out 0).trans rfl, (blk_cell BK242.out 1).trans rfl, (blk_cell BK242.out 2).trans rfl, (blk_cell BK242.out 3).trans rfl, (blk_cell BK237.out 0).trans rfl, (blk_cell BK237.out 1).trans rfl, (blk_cell BK237.out 2).trans rfl, (blk_cell BK237.out 3).trans rfl⟩ (fun hHeld => ?_)
              clear hK K
              refine norm_ (a' := ?_) ?_ ?_
              rotate_left
              · show Act.put _ (some 55) _ = _
                simp only [Act.put, List.setIfInBounds_toArray, List.set_cons_zero, List.set_cons_succ, i64_w, i32_w]
                rfl
              refine one_ (i := 3) (N := some 57) #[true, true, true, true, true, false, false, false, false, false, false] rfl rfl (one_of HT_.out (by kernel_rfl)) (by decide) (fun K hK => ?_)
              refine Kd.R_append_rows_step k23 (w0 := w) w.heap.size (by rfl) (.tmp 55) (.tmp 56) 26 23 (.agg #[(.bool false), (.string ⟨#[]⟩), (.string ⟨#[]⟩), (.string ⟨#[]⟩)]) 56 rfl Try.underlying26 info23 rfl (by decide) (by omega) v254 y253 l0 _ _ _ (fun k_ => some k_ ≠ (.slice Ao39 y246.length co39 : Value).ownBlock ∧ k_ ≠ gb241 ∧ k_ ≠ gb242) (fun _ => False) rfl rfl ?aO ?aR (fun _ _ h => h) (fun _ h => h.elim) ?aF ?aB ?aS ?aL ?_
              (case aR => repeat (first | exact (Kd.C_below HR0.out HB.out) | (with_reducible refine Kd.C_alloc ?_ _) | (with_reducible refine Kd.C_drewN ?_ _) | (with_reducible refine Kd.C_drew ?_)))
              (case aB => exact (by repeat (first | (with_reducible first | exact HB.out | apply below_alloc | apply pw_below_drewN | apply below_drew1 | refine below_set ?_ GE237.out | refine below_set ?_ GE241.out | refine below_set ?_ GE242.out) | exact HB.out)))
              (case aF => exact (fun k_ hk => ⟨Kd.fresh' (Kd.R_lt (by (with_reducible repeat (first | apply Kd.R_alloc | apply Kd.R_drewN | apply Kd.R_drew)); exact HO248.out)) k_ hk, Kd.freshB (g := gb241) (o := .cells #[.bool a2, .string (⟨#[42, 42]⟩ : ByteArray), .string (⟨#[42, 42]⟩ : ByteArray), .string (⟨#[42, 42]⟩ : ByteArray)] 23 (0, 0)) (by (with_reducible repeat (first | refine blk_drewN ?_ _ | refine blk_drew ?_ | refine blk_alloc ?_ _)); exact BK241.out) k_ hk, Kd.freshB (g := gb242) (o := .cells #[.bool a2, .string (⟨#[42, 42]⟩ : ByteArray), .string (⟨#[42, 42]⟩ : ByteArray), .string (⟨#[120]⟩ : ByteArray)] 23 (0, 0)) (by (with_reducible repeat (first | refine blk_drewN ?_ _ | refine blk_drew ?_ | refine blk_alloc ?_ _)); exact BK242.out) k_ hk⟩))
              (case aO => exact (by (with_reducible repeat (first | apply Kd.R_alloc | apply Kd.R_drewN | apply Kd.R_drew)); exact Kd.R_mono HO255.out (fun _ hk => ⟨hk.1.1.2, ⟨hk.1.2, hk.2⟩⟩)))
              (case aS => exact (below_size (by repeat (first | (with_reducible first | exact HB.out | apply below_alloc | apply pw_below_drewN | apply below_drew1 | refine below_set ?_ GE237.out | refine below_set ?_ GE241.out | refine below_set ?_ GE242.out) | exact HB.out))))
              (case aL => have := LMc22.out; omega)
              intro v257 w46 ho hb hg hat
              rw [← Ny256.out] at ho
              have n0_ := Aside0.mk (blk_grown (g := gb237) (o := .cells #[.string a1_0, .string a1_1, .slice A1_2 l1_2.length c1_2, .slice A1_3 l1_3.length c1_3] 38 (0, 0)) (by (with_reducible repeat (first | refine blk_drewN ?_ _ | refine blk_drew ?_ | refine blk_alloc ?_ _)); exact BK237.out) hg (Kd.R_ne HO255.out BK237.out (by decide)))
              have n1_ := Aside0.mk (blk_grown (g := gb241) (o := .cells #[.bool a2, .string (⟨#[42, 42]⟩ : ByteArray), .string (⟨#[42, 42]⟩ : ByteArray), .string (⟨#[42, 42]⟩ : ByteArray)] 23 (0, 0)) (by (with_reducible repeat (first | refine blk_drewN ?_ _ | refine blk_drew ?_ | refine blk_alloc ?_ _)); exact BK241.out) hg (Kd.R_away HO255.out (fun _ hk => hk.1.2)))
              have n2_ := Aside0.mk (blk_grown (g := gb242) (o := .cells #[.bool a2, .string (⟨#[42, 42]⟩ : ByteArray), .string (⟨#[42, 42]⟩ : ByteArray), .string (⟨#[120]⟩ : ByteArray)] 23 (0, 0)) (by (with_reducible repeat (first | refine blk_drewN ?_ _ | refine blk_drew ?_ | refine blk_alloc ?_ _)); exact BK242.out) hg (Kd.R_away HO255.out (fun _ hk => hk.2)))
              have n3_ := Aside0.mk (Kd.R_after (ok := (fun k_ => k_ ≠ gb241 ∧ k_ ≠ gb242)) (by (with_reducible repeat (first | apply Kd.R_alloc | apply Kd.R_drewN | apply Kd.R_drew)); exact HO248.out) hg hat)
              have n4_ := Aside0.mk (hb)
              have n5_ := Aside0.mk (ho)
              clear BK237
              clear BK241
              clear BK242
              clear HO248
              clear HB
              clear HO255
              have BK237 := n0_
              have BK241 := n1_
              have BK242 := n2_
              have HO248 := n3_
              have HB := n4_
              have HO258 := n5_
              clear n0_ n1_ n2_ n3_ n4_ n5_
              clear ho hb hg hat
              obtain ⟨Ao47, co47, eo47⟩ := Kd.R_slice HO258.out
              (first | subst eo47 | (injection eo47 with f1_ f2_ f3_; have f4_ := f1_.symm; have f5_ := f3_.symm; clear f1_ f2_ f3_; subst f4_; subst f5_))
              refine hK.out _ _ ⟨(blk_cell BK242.out 0).trans rfl, (blk_cell BK242.out 1).trans rfl, (blk_cell BK242.out 2).trans rfl, (blk_cell BK242.out 3).trans rfl, (blk_cell BK237.out 0).trans rfl, (blk_cell BK237.out 1).trans rfl, (blk_cell BK237.out 2).trans rfl, (blk_cell BK237.out 3).trans rfl⟩ (fun hHeld => ?_)
              clear hK K
              refine norm_ (a' := ?_) ?_ ?_
              rotate_left
              · show Act.put _ (some 57) _ = _
                simp only [Act.put, List.setIfInBounds_toArray, List.set_cons_zero, List.set_cons_succ, i64_w, i32_w]
                rfl
              refine one_ (i := 5) (N := some 59) #[true, true, true, true, true, true, false, false, false, false, false] rfl rfl (one_of HT_.out (by kernel_rfl)) (by decide) (fun K hK => ?_)
              refine goes_ Try.func14 (by kernel_rfl) rfl #[.slice Ao47 y256.length co47, .agg #[.string a1_0, .string a1_1, .slice A1_2 l1_2.length c1_2, .slice A1_3 l1_3.length c1_3]] (by rfl) rfl rfl (by (try simp only [List.map_toArray, List.map_cons, List.map_nil]); first | done | rfl | (simp only [List.length_drop, List.length_take]; rfl)) ?_
              with_reducible refine (acl_Check.calls kj5 _ _ y256 a1_0 a1_1 _ _ l1_2 _ _ l1_3 t259 t260 _ ?side1 ?side2 ?side3 ?side4 ?side5 ?side6 A23.out).mono ?_
              (case side1 => repeat (first | exact (Kd.R_reads' HO258.out).2.2 | (with_reducible refine Kd.C_alloc ?_ _) | (with_reducible refine Kd.C_drewN ?_ _) | (with_reducible refine Kd.C_drew ?_)))
              (case side2 => exact (Kd.R_reads' HO258.out).2.1)
              (case side3 => repeat (first | exact (Kd.C_below HR1_2.out HB.out) | (with_reducible refine Kd.C_alloc ?_ _) | (with_reducible refine Kd.C_drewN ?_ _) | (with_reducible refine Kd.C_drew ?_)))
              (case side4 => exact HC1_2.out)
              (case side5 => repeat (first | exact (Kd.C_below HR1_3.out HB.out) | (with_reducible refine Kd.C_alloc ?_ _) | (with_reducible refine Kd.C_drewN ?_ _) | (with_reducible refine Kd.C_drew ?_)))
              (case side6 => exact HC1_3.out)
              rintro e w48 ⟨rfl, hb⟩
              refine ⟨_, rfl, ?_⟩
              have n0_ := Aside0.mk (Kd.R_below (by (with_reducible repeat (first | apply Kd.R_alloc | apply Kd.R_drewN | apply Kd.R_drew)); exact HO248.out) hb)
              have n1_ := Aside0.mk (Kd.R_below (by (with_reducible repeat (first | apply Kd.R_alloc | apply Kd.R_drewN | apply Kd.R_drew)); exact HO258.out) hb)
              have n2_ := Aside0.mk (blk_below (g := gb237) (o := .cells #[.string a1_0, .string a1_1, .slice A1_2 l1_2.length c1_2, .slice A1_3 l1_3.length c1_3] 38 (0, 0)) (by (with_reducible repeat (first | refine blk_drewN ?_ _ | refine blk_drew ?_ | refine blk_alloc ?_ _)); exact BK237.out) hb)
              have n3_ := Aside0.mk (blk_below (g := gb241) (o := .cells #[.bool a2, .string (⟨#[42, 42]⟩ : ByteArray), .string (⟨#[42, 42]⟩ : ByteArray), .string (⟨#[42, 42]⟩ : ByteArray)] 23 (0, 0)) (by (with_reducible repeat (first | refine blk_drewN ?_ _ | refine blk_drew ?_ | refine blk_alloc ?_ _)); exact BK241.out) hb)
              have n4_ := Aside0.mk (blk_below (g := gb242) (o := .cells #[.bool a2, .string (⟨#[42, 42]⟩ : ByteArray), .string (⟨#[42, 42]⟩ : ByteArray), .string (⟨#[120]⟩ : ByteArray)] 23 (0, 0)) (by (with_reducible repeat (first | refine blk_drewN ?_ _ | refine blk_drew ?_ | refine blk_alloc ?_ _)); exact BK242.out) hb)
              have n5_ := Aside0.mk (below_step (by repeat (first | (with_reducible first | exact HB.out | apply below_alloc | apply pw_below_drewN | apply below_drew1 | refine below_set ?_ GE237.out | refine below_set ?_ GE241.out | refine below_set ?_ GE242.out) | exact HB.out)) hb)
              clear HO248
              clear HO258
              clear BK237
              clear BK241
              clear BK242
              clear HB
              have HO248 := n0_
              have HO258 := n1_
              have BK237 := n2_
              have BK241 := n3_
              have BK242 := n4_
              have HB := n5_
              clear n0_ n1_ n2_ n3_ n4_ n5_
              (try clear hb)
              (try clear hb2)
              (try clear hk)
              (try clear hi)
              refine hK.out _ _ ⟨(blk_cell BK242.out 0).trans rfl, (blk_cell BK242.out 1).trans rfl, (blk_cell BK242.out 2).trans rfl, (blk_cell BK242.out 3).trans rfl, (blk_cell BK237.out 0).trans rfl, (blk_cell BK237.out 1).trans rfl, (blk_cell BK237.out 2).trans rfl, (blk_cell BK237.out 3).trans rfl⟩ (fun hHeld => ?_)
              clear hK K
              refine norm_ (a' := ?_) ?_ ?_
              rotate_left
              · show Act.put _ (some 59) _ = _
                simp only [Act.put, List.setIfInBounds_toArray, List.set_cons_zero, List.set_cons_succ, i64_w, i32_w]
                rfl
              refine pure_ (i := 6) (N := some 53) (v := ?_) (a' := ?_) #[true, true, true, true, true, true, true, false, false, false, false] rfl rfl (any_of HT_.out (by kernel_rfl)) (fun _ _ _ h => h) (Or.inl ⟨by rfl, ?_⟩) ?_ ?_
              rotate_left
              · intro w'
                (try simp only [IntKind.wrap_u8])
                go_simp
                with_reducible rfl
              rotate_left
              · simp only [Act.put, List.setIfInBounds_toArray, List.set_cons_zero, List.set_cons_succ, i64_w, i32_w]
                rfl
              refine pure_ (i := 7) (N := some 60) (v := ?_) (a' := ?_) #[true, true, true, true, true, true, true, true, false, false, false] rfl rfl (any_of HT_.out (by kernel_rfl)) (fun _ _ _ h => h) (Or.inl ⟨by rfl, ?_⟩) ?_ ?_
              rotate_left
              · intro w'
                (try simp only [IntKind.wrap_u8])
                go_simp
                with_reducible rfl
              rotate_left
              · simp only [Act.put, List.setIfInBounds_toArray, List.set_cons_zero, List.set_cons_succ, i64_w, i32_w]
                rfl
              refine pure_ (i := 8) (N := some 61) (v := ?_) (a' := ?_) #[true, true, true, true, true, true, true, true, true, false, false] rfl rfl (any_of HT_.out (by kernel_rfl)) (fun _ _ _ h => h) (Or.inl ⟨by rfl, ?_⟩) ?_ ?_
              rotate_left
              · intro w'
                (try simp only [IntKind.wrap_u8])
                go_simp
                with_reducible rfl
              rotate_left
              · simp only [Act.put, List.setIfInBounds_toArray, List.set_cons_zero, List.set_cons_succ, i64_w, i32_w]
                rfl
              refine pure_ (i := 9) (N := some 13) (v := ?_) (a' := ?_) #[true, true, true, true, true, true, true, true, true, true, false] rfl rfl (any_of HT_.out (by kernel_rfl)) (fun _ _ _ h => h) (Or.inl ⟨by rfl, ?_⟩) ?_ ?_
              rotate_left
              · intro w'
                (try simp only [IntKind.wrap_u8])
                go_simp
                with_reducible rfl
              rotate_left
              · simp only [Act.put, List.setIfInBounds_toArray, List.set_cons_zero, List.set_cons_succ, i64_w, i32_w]
                rfl
              refine pure_ (i := 10) (N := some 14) (v := ?_) (a' := ?_) #[true, true, true, true, true, true, true, true, true, true, true] rfl rfl (any_of HT_.out (by kernel_rfl)) (fun _ _ _ h => h) (Or.inl ⟨by rfl, ?_⟩) ?_ ?_
              rotate_left
              · intro w'
                (try simp only [IntKind.wrap_u8])
                go_simp
                with_reducible rfl
              rotate_left
              · simp only [Act.put, List.setIfInBounds_toArray, List.set_cons_zero, List.set_cons_succ, i64_w, i32_w]
                rfl
              refine done_ (done_of HT_.out (by kernel_rfl)) ?_
              have hcz49_0 : w48.cell? ⟨gb237, 0, none⟩ = some (.string a1_0) := (blk_cell BK237.out 0).trans rfl
              have hcz49_1 : w48.cell? ⟨gb237, 1, none⟩ = some (.string a1_1) := (blk_cell BK237.out 1).trans rfl
              have hcz49_2 : w48.cell? ⟨gb237, 2, none⟩ = some (.slice A1_2 l1_2.length c1_2) := (blk_cell BK237.out 2).trans rfl
              have hcz49_3 : w48.cell? ⟨gb237, 3, none⟩ = some (.slice A1_3 l1_3.length c1_3) := (blk_cell BK237.out 3).trans rfl
              have hfz49_0 := blk_frozen BK237.out 0
              have hfz49_1 := blk_frozen BK237.out 1
              have hfz49_2 := blk_frozen BK237.out 2
              have hfz49_3 := blk_frozen BK237.out 3
              by_cases c25 : t261.toList = ([120] : List UInt8)
              · rw [if_pos c25] at H
                have c25b0 : (t261.toList == ([120] : List UInt8)) = true := beq_iff_eq.mpr c25
                have c25b1 : (t261.toList != ([120] : List UInt8)) = false := bne_eq_false_iff_eq.mpr c25
                clear c25
                by_cases c26 : (t249 == a2) = true
                · rw [if_pos c26] at H
                  have c26b0 : (t249 == a2) = true := c26
                  (try (have c26b1 : decide (t249 = a2) = true := by simpa using c26))
                  (try (have c26b2 : (t249 == a2) = true := by simpa using c26))
                  clear c26
                  obtain rfl := Option.some.inj H
                  try go_wp2_with (first | ((with_reducible refine gate_callee (f := 16) rfl ?_); refine goesL_ (some 65) rfl rfl Try.func16 (by kernel_rfl) rfl #[.string a1_1] rfl (by (try simp only [List.map_toArray, List.map_cons, List.map_nil]); first | done | rfl | (simp only [List.length_drop, List.length_take]; rfl)) ?_; (with_reducible refine (ambryref23_Split.calls kj5 a1_1 t261 t262 t263 _ A24.out).mono ?_); rintro e w' ⟨rfl, ⟨nd, rfl⟩⟩; refine ⟨_, rfl, ?_⟩))
                  go_ret
                  exact ⟨by first | rfl | (simp [errW_none, errW_some] <;> rfl) | (simp [*, errW_none, errW_some] <;> rfl), by repeat (first | (with_reducible first | exact HB.out | apply below_alloc | apply pw_below_drewN | apply below_drew1 | refine below_set ?_ GE237.out | refine below_set ?_ GE241.out | refine below_set ?_ GE242.out) | exact HB.out)⟩
                · rw [if_neg c26] at H
                  have c26b0 : (t249 == a2) = false := by simpa using c26
                  (try (have c26b1 : decide (t249 = a2) = false := by simpa using c26))
                  (try (have c26b2 : (t249 == a2) = false := by simpa using c26))
                  (try (have c26b3 : ¬ (t249 = a2) := by simpa using c26))
                  clear c26
                  obtain rfl := Option.some.inj H
                  try go_wp2_with (first | ((with_reducible refine gate_callee (f := 16) rfl ?_); refine goesL_ (some 65) rfl rfl Try.func16 (by kernel_rfl) rfl #[.string a1_1] rfl (by (try simp only [List.map_toArray, List.map_cons, List.map_nil]); first | done | rfl | (simp only [List.length_drop, List.length_take]; rfl)) ?_; (with_reducible refine (ambryref23_Split.calls kj5 a1_1 t261 t262 t263 _ A24.out).mono ?_); rintro e w' ⟨rfl, ⟨nd, rfl⟩⟩; refine ⟨_, rfl, ?_⟩))
                  go_ret
                  exact ⟨by first | rfl | (simp [errW_none, errW_some] <;> rfl) | (simp [*, errW_none, errW_some] <;> rfl), by repeat (first | (with_reducible first | exact HB.out | apply below_alloc | apply pw_below_drewN | apply below_drew1 | refine below_set ?_ GE237.out | refine below_set ?_ GE241.out | refine below_set ?_ GE242.out) | exact HB.out)⟩
              · rw [if_neg c25] at H
                have c25b0 : (t261.toList == ([120] : List UInt8)) = false := beq_eq_false_iff_ne.mpr c25
                have c25b1 : (t261.toList != ([120] : List UInt8)) = true := bne_iff_ne.mpr c25
                by_cases c73 : t252 ≥ 0
                · rw [if_pos c73] at H
                  have c73b0 : decide (0 ≤ t252) = true := decide_eq_true c73
                  clear c73
                  by_cases c74 : (t249 == a2) = true
                  · rw [if_pos c74] at H
                    have c74b0 : (t249 == a2) = true := c74
                    (try (have c74b1 : decide (t249 = a2) = true := by simpa using c74))
                    (try (have c74b2 : (t249 == a2) = true := by simpa using c74))
                    clear c74
                    by_cases c75 : t250 = 0
                    · rw [if_pos c75] at H
                      have c75b0 : (t250 == 0) = true := beq_iff_eq.mpr c75
                      have c75b1 : (t250 != 0) = false := bne_eq_false_iff_eq.mpr c75
                      clear c75
                      by_cases c76 : (t251 == t259) = true
                      · rw [if_pos c76] at H
                        have c76b0 : (t251 == t259) = true := c76
                        (try (have c76b1 : decide (t251 = t259) = true := by simpa using c76))
                        (try (have c76b2 : (t251 == t259) = true := by simpa using c76))
                        clear c76
                        obtain rfl := Option.some.inj H
                        try go_wp2_with (first | ((with_reducible refine gate_callee (f := 16) rfl ?_); refine goesL_ (some 65) rfl rfl Try.func16 (by kernel_rfl) rfl #[.string a1_1] rfl (by (try simp only [List.map_toArray, List.map_cons, List.map_nil]); first | done | rfl | (simp only [List.length_drop, List.length_take]; rfl)) ?_; (with_reducible refine (ambryref23_Split.calls kj5 a1_1 t261 t262 t263 _ A24.out).mono ?_); rintro e w' ⟨rfl, ⟨nd, rfl⟩⟩; refine ⟨_, rfl, ?_⟩))
                        go_ret
                        exact ⟨by first | rfl | (simp [errW_none, errW_some] <;> rfl) | (simp [*, errW_none, errW_some] <;> rfl), by repeat (first | (with_reducible first | exact HB.out | apply below_alloc | apply pw_below_drewN | apply below_drew1 | refine below_set ?_ GE237.out | refine below_set ?_ GE241.out | refine below_set ?_ GE242.out) | exact HB.out)⟩
                      · rw [if_neg c76] at H
                        have c76b0 : (t251 == t259) = false := by simpa using c76
                        (try (have c76b1 : decide (t251 = t259) = false := by simpa using c76))
                        (try (have c76b2 : (t251 == t259) = false := by simpa using c76))
                        (try (have c76b3 : ¬ (t251 = t259) := by simpa using c76))
                        clear c76
                        obtain rfl := Option.some.inj H
                        try go_wp2_with (first | ((with_reducible refine gate_callee (f := 16) rfl ?_); refine goesL_ (some 65) rfl rfl Try.func16 (by kernel_rfl) rfl #[.string a1_1] rfl (by (try simp only [List.map_toArray, List.map_cons, List.map_nil]); first | done | rfl | (simp only [List.length_drop, List.length_take]; rfl)) ?_; (with_reducible refine (ambryref23_Split.calls kj5 a1_1 t261 t262 t263 _ A24.out).mono ?_); rintro e w' ⟨rfl, ⟨nd, rfl⟩⟩; refine ⟨_, rfl, ?_⟩))
                        go_ret
                        exact ⟨by first | rfl | (simp [errW_none, errW_some] <;> rfl) | (simp [*, errW_none, errW_some] <;> rfl), by repeat (first | (with_reducible first | exact HB.out | apply below_alloc | apply pw_below_drewN | apply below_drew1 | refine below_set ?_ GE237.out | refine below_set ?_ GE241.out | refine below_set ?_ GE242.out) | exact HB.out)⟩
                    · rw [if_neg c75] at H
                      have c75b0 : (t250 == 0) = false := beq_eq_false_iff_ne.mpr c75
                      have c75b1 : (t250 != 0) = true := bne_iff_ne.mpr c75
                      obtain rfl := Option.some.inj H
                      try go_wp2_with (first | ((with_reducible refine gate_callee (f := 16) rfl ?_); refine goesL_ (some 65) rfl rfl Try.func16 (by kernel_rfl) rfl #[.string a1_1] rfl (by (try simp only [List.map_toArray, List.map_cons, List.map_nil]); first | done | rfl | (simp only [List.length_drop, List.length_take]; rfl)) ?_; (with_reducible refine (ambryref23_Split.calls kj5 a1_1 t261 t262 t263 _ A24.out).mono ?_); rintro e w' ⟨rfl, ⟨nd, rfl⟩⟩; refine ⟨_, rfl, ?_⟩))
                      go_ret
                      exact ⟨by first | rfl | (simp [errW_none, errW_some] <;> rfl) | (simp [*, errW_none, errW_some] <;> rfl), by repeat (first | (with_reducible first | exact HB.out | apply below_alloc | apply pw_below_drewN | apply below_drew1 | refine below_set ?_ GE237.out | refine below_set ?_ GE241.out | refine below_set ?_ GE242.out) | exact HB.out)⟩
                  · rw [if_neg c74] at H
                    have c74b0 : (t249 == a2) = false := by simpa using c74
                    (try (have c74b1 : decide (t249 = a2) = false := by simpa using c74))
                    (try (have c74b2 : (t249 == a2) = false := by simpa using c74))
                    (try (have c74b3 : ¬ (t249 = a2) := by simpa using c74))
                    clear c74
                    obtain rfl := Option.some.inj H
                    try go_wp2_with (first | ((with_reducible refine gate_callee (f := 16) rfl ?_); refine goesL_ (some 65) rfl rfl Try.func16 (by kernel_rfl) rfl #[.string a1_1] rfl (by (try simp only [List.map_toArray, List.map_cons, List.map_nil]); first | done | rfl | (simp only [List.length_drop, List.length_take]; rfl)) ?_; (with_reducible refine (ambryref23_Split.calls kj5 a1_1 t261 t262 t263 _ A24.out).mono ?_); rintro e w' ⟨rfl, ⟨nd, rfl⟩⟩; refine ⟨_, rfl, ?_⟩))
                    go_ret
                    exact ⟨by first | rfl | (simp [errW_none, errW_some] <;> rfl) | (simp [*, errW_none, errW_some] <;> rfl), by repeat (first | (with_reducible first | exact HB.out | apply below_alloc | apply pw_below_drewN | apply below_drew1 | refine below_set ?_ GE237.out | refine below_set ?_ GE241.out | refine below_set ?_ GE242.out) | exact HB.out)⟩
                · rw [if_neg c73] at H
                  have c73b0 : decide (0 ≤ t252) = false := decide_eq_false c73
                  clear c73
                  by_cases c169 : (t249 == a2) = true
                  · rw [if_pos c169] at H
                    have c169b0 : (t249 == a2) = true := c169
                    (try (have c169b1 : decide (t249 = a2) = true := by simpa using c169))
                    (try (have c169b2 : (t249 == a2) = true := by simpa using c169))
                    clear c169
                    by_cases c170 : t250 = 0
                    · rw [if_pos c170] at H
                      have c170b0 : (t250 == 0) = true := beq_iff_eq.mpr c170
                      have c170b1 : (t250 != 0) = false := bne_eq_false_iff_eq.mpr c170
                      clear c170
                      by_cases c171 : (t251 == t259) = true
                      · rw [if_pos c171] at H
                        have c171b0 : (t251 == t259) = true := c171
                        (try (have c171b1 : decide (t251 = t259) = true := by simpa using c171))
                        (try (have c171b2 : (t251 == t259) = true := by simpa using c171))
                        clear c171
                        obtain rfl := Option.some.inj H
                        try go_wp2_with (first | ((with_reducible refine gate_callee (f := 16) rfl ?_); refine goesL_ (some 65) rfl rfl Try.func16 (by kernel_rfl) rfl #[.string a1_1] rfl (by (try simp only [List.map_toArray, List.map_cons, List.map_nil]); first | done | rfl | (simp only [List.length_drop, List.length_take]; rfl)) ?_; (with_reducible refine (ambryref23_Split.calls kj5 a1_1 t261 t262 t263 _ A24.out).mono ?_); rintro e w' ⟨rfl, ⟨nd, rfl⟩⟩; refine ⟨_, rfl, ?_⟩))
                        go_ret
                        exact ⟨by first | rfl | (simp [errW_none, errW_some] <;> rfl) | (simp [*, errW_none, errW_some] <;> rfl), by repeat (first | (with_reducible first | exact HB.out | apply below_alloc | apply pw_below_drewN | apply below_drew1 | refine below_set ?_ GE237.out | refine below_set ?_ GE241.out | refine below_set ?_ GE242.out) | exact HB.out)⟩
                      · rw [if_neg c171] at H
                        have c171b0 : (t251 == t259) = false := by simpa using c171
                        (try (have c171b1 : decide (t251 = t259) = false := by simpa using c171))
                        (try (have c171b2 : (t251 == t259) = false := by simpa using c171))
                        (try (have c171b3 : ¬ (t251 = t259) := by simpa using c171))
                        clear c171
                        obtain rfl := Option.some.inj H
                        try go_wp2_with (first | ((with_reducible refine gate_callee (f := 16) rfl ?_); refine goesL_ (some 65) rfl rfl Try.func16 (by kernel_rfl) rfl #[.string a1_1] rfl (by (try simp only [List.map_toArray, List.map_cons, List.map_nil]); first | done | rfl | (simp only [List.length_drop, List.length_take]; rfl)) ?_; (with_reducible refine (ambryref23_Split.calls kj5 a1_1 t261 t262 t263 _ A24.out).mono ?_); rintro e w' ⟨rfl, ⟨nd, rfl⟩⟩; refine ⟨_, rfl, ?_⟩))
                        go_ret
                        exact ⟨by first | rfl | (simp [errW_none, errW_some] <;> rfl) | (simp [*, errW_none, errW_some] <;> rfl), by repeat (first | (with_reducible first | exact HB.out | apply below_alloc | apply pw_below_drewN | apply below_drew1 | refine below_set ?_ GE237.out | refine below_set ?_ GE241.out | refine below_set ?_ GE242.out) | exact HB.out)⟩
                    · rw [if_neg c170] at H
                      have c170b0 : (t250 == 0) = false := beq_eq_false_iff_ne.mpr c170
                      have c170b1 : (t250 != 0) = true := bne_iff_ne.mpr c170
                      obtain rfl := Option.some.inj H
                      try go_wp2_with (first | ((with_reducible refine gate_callee (f := 16) rfl ?_); refine goesL_ (some 65) rfl rfl Try.func16 (by kernel_rfl) rfl #[.string a1_1] rfl (by (try simp only [List.map_toArray, List.map_cons, List.map_nil]); first | done | rfl | (simp only [List.length_drop, List.length_take]; rfl)) ?_; (with_reducible refine (ambryref23_Split.calls kj5 a1_1 t261 t262 t263 _ A24.out).mono ?_); rintro e w' ⟨rfl, ⟨nd, rfl⟩⟩; refine ⟨_, rfl, ?_⟩))
                      go_ret
                      exact ⟨by first | rfl | (simp [errW_none, errW_some] <;> rfl) | (simp [*, errW_none, errW_some] <;> rfl), by repeat (first | (with_reducible first | exact HB.out | apply below_alloc | apply pw_below_drewN | apply below_drew1 | refine below_set ?_ GE237.out | refine below_set ?_ GE241.out | refine below_set ?_ GE242.out) | exact HB.out)⟩
                  · rw [if_neg c169] at H
                    have c169b0 : (t249 == a2) = false := by simpa using c169
                    (try (have c169b1 : decide (t249 = a2) = false := by simpa using c169))
                    (try (have c169b2 : (t249 == a2) = false := by simpa using c169))
                    (try (have c169b3 : ¬ (t249 = a2) := by simpa using c169))
                    clear c169
                    obtain rfl := Option.some.inj H
                    try go_wp2_with (first | ((with_reducible refine gate_callee (f := 16) rfl ?_); refine goesL_ (some 65) rfl rfl Try.func16 (by kernel_rfl) rfl #[.string a1_1] rfl (by (try simp only [List.map_toArray, List.map_cons, List.map_nil]); first | done | rfl | (simp only [List.length_drop, List.length_take]; rfl)) ?_; (with_reducible refine (ambryref23_Split.calls kj5 a1_1 t261 t262 t263 _ A24.out).mono ?_); rintro e w' ⟨rfl, ⟨nd, rfl⟩⟩; refine ⟨_, rfl, ?_⟩))
                    go_ret
                    exact ⟨by first | rfl | (simp [errW_none, errW_some] <;> rfl) | (simp [*, errW_none, errW_some] <;> rfl), by repeat (first | (with_reducible first | exact HB.out | apply below_alloc | apply pw_below_drewN | apply below_drew1 | refine below_set ?_ GE237.out | refine below_set ?_ GE241.out | refine below_set ?_ GE242.out) | exact HB.out)⟩
            · rw [if_neg c22] at H
              exact absurd H (by simp)
          · rw [if_neg c19] at H
            exact absurd H (by simp)
  · replace c5 := Bool.eq_false_iff.mpr c5
    subst c5
    have H1 : (some false) = some r := by rw [if_neg (show ¬ (false = true) by decide)] at H; exact H
    clear H
    have H := H1
    clear H1
    obtain rfl := Option.some.inj H
    go_enter Try.func5, Try.ntmps5
    go_wp2_with (first | ((with_reducible refine gate_dst (N := 4) rfl ?_); (try (refine gate_guard (by rfl) ?_; dsimp only)); refine box_event ?hg (N := 4) ?hd (cs := #[.string a1_0, .string a1_1, .slice A1_2 l1_2.length c1_2, .slice A1_3 l1_3.length c1_3]) (t := 38) ?hr ?_; (case hd => rfl); (case hg => rfl); (case hr => first | (go_simp; done) | (go_simp; rfl)); intro gb237 hg w264 hbox hb; have n0_ := Aside0.mk (below_step (by repeat (first | (with_reducible first | exact HB.out | apply below_alloc | apply pw_below_drewN | apply below_drew1) | exact HB.out)) hb); have n1_ := Aside0.mk (hbox); have n2_ := Aside0.mk ((by rw [hg]; exact (below_size (by repeat (first | (with_reducible first | exact HB.out | apply below_alloc | apply pw_below_drewN | apply below_drew1) | exact HB.out))) : w.heap.size ≤ gb237)); have n3_ := Aside0.mk ((by rw [hg]; exact (below_size (by repeat (first | (with_reducible first | exact HB.out | apply below_alloc | apply pw_below_drewN | apply below_drew1) | exact HB.out))) : w.heap.size ≤ gb237)); clear HB; have HB := n0_; have BK237 := n1_; have GW237 := n2_; have GE237 := n3_; clear n0_ n1_ n2_ n3_; clear hb hbox hg) | ((with_reducible refine gate_callee (f := 6) rfl ?_); refine goesL_ (some 18) rfl rfl Try.func6 (by kernel_rfl) rfl #[] rfl (by (try simp only [List.map_toArray, List.map_cons, List.map_nil]); first | done | rfl | (simp only [List.length_drop, List.length_take]; rfl)) ?_; (with_reducible refine (ambrylaw26_known.calls k  false _ A4.out).mono ?_); rintro e w265 ⟨rfl, hb⟩; refine ⟨_, rfl, ?_⟩; have n0_ := Aside0.mk (blk_below (g := gb237) (o := .cells #[.string a1_0, .string a1_1, .slice A1_2 l1_2.length c1_2, .slice A1_3 l1_3.length c1_3] 38 (0, 0)) (by (with_reducible repeat (first | refine blk_drewN ?_ _ | refine blk_drew ?_ | refine blk_alloc ?_ _)); exact BK237.out) hb); have n1_ := Aside0.mk (below_step (by repeat (first | (with_reducible first | exact HB.out | apply below_alloc | apply pw_below_drewN | apply below_drew1 | refine below_set ?_ GE237.out) | exact HB.out)) hb); clear BK237; clear HB; have BK237 := n0_; have HB := n1_; clear n0_ n1_; (try clear hb); (try clear hb2); (try clear hk); (try clear hi)))
    go_ret
    exact ⟨by first | rfl | (simp [errW_none, errW_some] <;> rfl) | (simp [*, errW_none, errW_some] <;> rfl), by repeat (first | (with_reducible first | exact HB.out | apply below_alloc | apply pw_below_drewN | apply below_drew1 | refine below_set ?_ GE237.out) | exact HB.out)⟩

end Go.Proofs.Ytjliebggdphmpaa.G
