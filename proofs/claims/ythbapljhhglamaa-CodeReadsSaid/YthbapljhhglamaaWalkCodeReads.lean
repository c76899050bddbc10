/- The contract of CodeReads: any bytes, read in any way, are told as the document says, up to where they can't be read, and nothing behind it. -/
import Derived.Test.YthbapljhhglamaaCodeX
import Derived.OpenShut
import Derived.Deep.DeepMust
set_option linter.unusedVariables false
set_option linter.unusedSimpArgs false
namespace Go.Proofs.Ythbapljhhglamaa.Walk
open Go.RowKit Go.Proofs.Ythbapljhhglamaa.G Go.Proofs.YthbapljhhglamaaW.PrintWords Go.Proofs.YthbapljhhglamaaW.PrintMore Go.Proofs.Ythbapljhhglamaa.Foot Go.Proofs.Ythbapljhhglamaa.CodeL Go.Proofs.Ythbapljhhglamaa.Code
set_option maxHeartbeats 4000000 in
set_option maxRecDepth 100000 in
theorem CodeReads (W : World) (A0 : Option Addr) (c0 : Nat) (l0 : List Int) (A1 : Option Addr) (c1 : Nat) (l1 : List Int) (hr0 : Kd.C (Kd.int .u8) W A0 l0.length l0) (hc0 : l0.length ≤ c0) (g0 : ∀ x ∈ l0, (Lit.int .u8 x).wf = true) (hr1 : Kd.C (Kd.int .u8) W A1 l1.length l1) (hc1 : l1.length ≤ c1) (g1 : ∀ x ∈ l1, (Lit.int .u8 x).wf = true) :
    Calls Try.prog 6 #[.slice A0 l0.length c0, .slice A1 l1.length c1] W fun e w' => e = .returned (.bool true) ∧ Below W.heap.size W w' := by
  have H8 := Lib.hid (show Bytes8 l0 from fun y hy => by
    have := bounds_u8 (g0 y hy)
    omega)
  have H81 := Lib.hid (show Bytes8 l1 from fun y hy => by
    have := bounds_u8 (g1 y hy)
    omega)
  have HR0 := Lib.hid hr0
  have HR1 := Lib.hid hr1
  clear hr0 hr1 g0 g1
  go_enter Try.func6, Try.ntmps6
  go_wp2_with fail
  refine (known_calls _).mono ?_
  rintro e w1 ⟨rfl, hB⟩
  have HO := Aside0.mk (Own.of_below hB)
  clear hB
  by_cases hl0 : l0.length ≤ 1000
  case neg =>
    go_wp2
    go_ret
    exact ⟨rfl, HO.out.below⟩
  by_cases hl1 : l1.length ≤ 50
  case neg =>
    go_wp2
    go_ret
    exact ⟨rfl, HO.out.below⟩
  have hd0 : decide (1000 < (l0.length : Int)) = false := by simp; omega
  have hd1 : decide (50 < (l1.length : Int)) = false := by simp; omega
  go_wp2_with fail
  refine (NewReader_own A0 c0 l0 HO.out (Kd.C_below HR0.out HO.out.below) H8.out (by omega)).mono ?_
  rintro e w2 ⟨q1, rfl, hB2, ho⟩
  have hq2 := blk_new w2 (.cells #[.slice A0 l0.length c0, .bool false] 46)
  have HO := Aside0.mk (ho.add (Q := Rf W w2.heap.size (some l0)) (G := fun k => k = w2.heap.size) (below_alloc (Below.refl _ _) (.cells #[.slice A0 l0.length c0, .bool false] 46)) ⟨rfl, A0, c0, hq2, hc0, HR0.out, H8.out⟩ (fun k hk => by omega))
  clear ho hq2 hB2
  go_wp2
  generalize w2.heap.size = q2 at HO ⊢
  go_loopw [7] (fun v7 wr => ∃ (i : Nat) (st : Option (List Int)), v7 = .int .i64 (i : Int) ∧ i ≤ l1.length ∧ Aside0 (∀ xs, st = some xs → xs.length ≤ 1000) ∧ Aside0 (Own W wr (star (Rf W q2 st) (star (Rd q1 st) emp)))) (fun v7 _ => l1.length - (intOf v7).toNat)
  case atStart => exact ⟨0, some l0, rfl, Nat.zero_le _, ⟨fun xs h => by injection h with h; subst h; exact hl0⟩, HO⟩
  case round =>
    clear HO
    obtain ⟨i, st, rfl, hi, HL, HO⟩ := hrel
    have HL9 := Lib.hid (show ∀ xs, st = some xs → xs.length ≤ 1000000000 from fun xs h => Nat.le_trans (HL.out xs h) (by decide))
    by_cases hlt : i < l1.length
    · obtain ⟨ad, rfl, hx⟩ := byte_at (Kd.C_below HR1.out HO.out.below) i hlt
      have hm := H81.out _ (List.getElem_mem (l := l1) hlt)
      have hg : l1.getD i 0 = l1[i] := by rw [List.getD_eq_getElem?_getD, List.getElem?_eq_getElem hlt]; rfl
      rw [← hg] at hm
      generalize l1.getD i 0 = x at hx hm hg
      clear hg
      by_cases h3 : x % 3 = 0
      · have h30 : (x % 3 == 0) = true := beq_iff_eq.2 h3
        have HS := Lib.hid (show numS st = ((numS st).1, (numS st).2) from rfl)
        have HLN := Lib.hid (numS_len2 HL.out)
        generalize (numS st).1 = n at HS
        generalize (numS st).2 = s at HS HLN
        have hnn : ((n : Int) != (n : Int)) = false := bne_self_eq_false _
        clear h3
        go_wp2_with fail
        refine (Num_own HO.out.swap HS.out).mono ?_
        rintro e w3 ⟨rfl, ho⟩
        have HO := Aside0.mk ho.swap
        clear ho
        go_wp2_with fail
        refine (refnum_own HO.out HS.out).mono ?_
        rintro e w4 ⟨rfl, ho⟩
        have HO := Aside0.mk ho
        clear ho
        go_wp2
        go_roundw
        case rel => exact ⟨i + 1, s, by go_num, by omega, ⟨HLN.out⟩, HO⟩
        case measure => simp [intOf]; omega
      · have h30 : (x % 3 == 0) = false := beq_eq_false_iff_ne.2 h3
        by_cases h4 : x % 3 = 1
        · have h40 : (x % 3 == 1) = true := beq_iff_eq.2 h4
          have HS := Lib.hid (show textS st = ((textS st).1, (textS st).2) from rfl)
          have HLN := Lib.hid (textS_len HL.out)
          generalize (textS st).1 = b at HS
          generalize (textS st).2 = s at HS HLN
          clear h3 h4
          go_wp2_with fail
          refine (Text_own HO.out.swap HS.out HL9.out).mono ?_
          rintro e w3 ⟨A3, c3, rfl, hl3, hC3, ho⟩
          have HO := Aside0.mk ho.assoc'.swap
          clear ho hC3
          go_wp2_with fail
          refine (reftext_own HO.out HS.out HL9.out).mono ?_
          rintro e w4 ⟨A4, c4, rfl, hl4, hC4, ho⟩
          obtain ⟨A5, c5, he5, hl5, hC5⟩ := ho.rest.rest.assoc.reads
          injection he5 with he1 he2 he3
          subst he1 he3
          have HO := Aside0.mk (ho.rest.swap.assoc.rest.swap)
          have HC4 := Lib.hid hC4
          have HC5 := Lib.hid hC5
          clear ho hC4 hC5 he2
          go_wp2_with fail
          refine (ambryhelp_Bytes.calls A3 c3 b A4 c4 b true _ HC5.out hl5 HC4.out hl4 (by unfold ambryhelp_Bytes.f; rw [beq_self_eq_true])).mono ?_
          rintro e w8 ⟨rfl, hd⟩
          have HO := Aside0.mk (HO.out.drawn hd)
          clear hd
          go_wp2
          go_roundw
          case rel => exact ⟨i + 1, s, by go_num, by omega, ⟨HLN.out⟩, HO⟩
          case measure => simp [intOf]; omega
        · have h40 : (x % 3 == 1) = false := beq_eq_false_iff_ne.2 h4
          have HS := Lib.hid (show fieldsS st = ((fieldsS st).1, (fieldsS st).2) from rfl)
          have HLN := Lib.hid (fieldsS_len2 HL.out)
          generalize (fieldsS st).1 = b at HS HLN
          generalize (fieldsS st).2 = s at HS HLN
          obtain ⟨kf, hkf⟩ := (fields_eq b (Nat.le_trans HLN.out.1 (by decide))).rounds
          have HKF := Lib.hid hkf
          clear h3 h4 hkf
          go_wp2_with fail
          refine (Fields_own HO.out.swap HS.out HL9.out).mono ?_
          rintro e w3 ⟨A3, c3, rfl, hl3, hC3, ho⟩
          have HO := Aside0.mk ho.assoc'.swap
          clear ho hC3
          go_wp2_with fail
          refine (reffields_own HO.out HS.out HL9.out).mono ?_
          rintro e w4 ⟨A4, c4, rfl, hl4, hC4, ho⟩
          obtain ⟨A5, c5, he5, hl5, hC5⟩ := ho.rest.rest.assoc.reads
          injection he5 with he1 he2 he3
          subst he1 he3
          have HO := Aside0.mk (ho.rest.swap.assoc.rest.swap)
          have HC4 := Lib.hid hC4
          have HC5 := Lib.hid hC5
          clear ho hC4 hC5 he2
          go_wp2_with fail
          refine (ambryhelp_Fields.calls kf A3 c3 b A4 c4 b true _ HC5.out hl5 HC4.out hl4 HKF.out).mono ?_
          rintro e w8 ⟨rfl, hd⟩
          have HO := Aside0.mk (HO.out.drawn hd)
          clear hd
          go_wp2
          go_roundw
          case rel => exact ⟨i + 1, s, by go_num, by omega, ⟨HLN.out.2⟩, HO⟩
          case measure => simp [intOf]; omega
    · cases st with
      | none =>
        have hb : ∃ A n c, wr.heap[q2]? = some (.cells #[.slice A n c, .bool true] 46 (0, 0)) := HO.out.look fun F hp hF => hp.out.1
        obtain ⟨A, n, c, hb⟩ := hb
        have hb1 := blk_cell hb 1
        have HDN := Lib.hid (fun n => Done_own (HO.out.rest.drewN n))
        have hds : doneS none = 20 := rfl
        clear hb
        go_wp2
        go_quiet ((go_at_call 16; exact Calls.quiet_of_same (HDN.out _)))
        go_wp2
        go_ret
        exact ⟨rfl, (HO.out.drewN _).below⟩
      | some xs =>
        have hb : ∃ A c, wr.heap[q2]? = some (.cells #[.slice A xs.length c, .bool false] 46 (0, 0)) := HO.out.look fun F hp hF => by obtain ⟨A, c, h, _⟩ := hp.out.1; exact ⟨A, c, h⟩
        obtain ⟨A, c, hb⟩ := hb
        have hb1 := blk_cell hb 1
        have hb0 := blk_cell hb 0
        have HDN := Lib.hid (fun n => Done_own (HO.out.rest.drewN n))
        clear hb
        cases xs with
        | nil =>
          have hds : doneS (some []) = 0 := rfl
          go_wp2
          go_quiet ((go_at_call 16; exact Calls.quiet_of_same (HDN.out _)))
          go_wp2
          go_ret
          exact ⟨rfl, (HO.out.drewN _).below⟩
        | cons y r =>
          have hds : doneS (some (y :: r)) = 20 := rfl
          go_wp2
          go_quiet ((go_at_call 16; exact Calls.quiet_of_same (HDN.out _)))
          go_wp2
          go_ret
          exact ⟨rfl, (HO.out.drewN _).below⟩
end Go.Proofs.Ythbapljhhglamaa.Walk
