/- The contract of CodeCuts: what is written, cut off anywhere, is told up to there, and fails then, for good. -/
import Derived.Test.YthbapljhhglamaaCodeK
import Derived.Test.YthbapljhhglamaaCodeM
import Derived.Test.YthbapljhhglamaaFoot2
import Derived.OpenShut
import Derived.Deep.DeepMust
set_option linter.unusedVariables false
set_option linter.unusedSimpArgs false
namespace Go.Proofs.Ythbapljhhglamaa.Walk
open Go.RowKit Go.Proofs.Ythbapljhhglamaa.G Go.Proofs.YthbapljhhglamaaW.PrintWords Go.Proofs.YthbapljhhglamaaW.PrintMore Go.Proofs.Ythbapljhhglamaa.Foot Go.Proofs.Ythbapljhhglamaa.CodeL Go.Proofs.Ythbapljhhglamaa.Code
theorem info_int : (Try.prog.info? 3).map (fun i => (i.zero, i.size, i.bytes)) = some (some (.int .i64 0), 1, 8) := by kernel_rfl
theorem place (a : Int) (n : Nat) (hn : 0 < n) (hm : n ≤ 1000000) : ∃ k : Nat, k < n ∧ ambryhelp_Place.f a (n : Int) = some (k : Int) := by
  unfold ambryhelp_Place.f
  have h0 : ¬ (n : Int) = 0 := by omega
  have hlt : Int.tmod a n < n := Int.tmod_lt_of_pos a (by omega)
  have hgt : -(n : Int) < Int.tmod a n := Int.lt_tmod_of_pos a (by omega)
  rw [if_neg h0]
  by_cases h : Int.tmod a n < 0
  · refine ⟨(Int.tmod a n + n).toNat, by omega, ?_⟩
    rw [if_pos h]
    unfold wrap64
    congr 1
    omega
  · refine ⟨(Int.tmod a n).toNat, by omega, ?_⟩
    rw [if_neg h]
    congr 1
    omega
set_option maxHeartbeats 4000000 in
set_option maxRecDepth 100000 in
theorem CodeCuts (W : World) (A0 : Option Addr) (c0 : Nat) (l0 : List (List Int)) (a1 : Int) (hr0 : Kd.C (Kd.slice 5 (Kd.int .u8)) W A0 l0.length l0) (hc0 : l0.length ≤ c0) (g0 : ∀ x ∈ l0, (∀ y ∈ x, (Lit.int .u8 y).wf = true) ∧ x.length ≤ 9223372036854775807) (w1 : (Lit.int .i64 a1).wf = true) :
    Calls Try.prog 5 #[.slice A0 l0.length c0, .int .i64 a1] W fun e w' => e = .returned (.bool true) ∧ Below W.heap.size W w' := by
  have H8 := Lib.hid (show ∀ x ∈ l0, Bytes8 x from fun x hx y hy => by
    have := bounds_u8 ((g0 x hx).1 y hy)
    omega)
  have HX := Lib.hid (show ∀ i, i < l0.length → (l0.getD i []).length ≤ 9223372036854775807 from fun i hi => (g0 _ (List.mem_of_getElem? (getD_at l0 hi))).2)
  have HR := Lib.hid hr0
  clear hr0 g0 w1
  go_enter Try.func5, Try.ntmps5
  go_wp2_with fail
  refine (known_calls _).mono ?_
  rintro e w1 ⟨rfl, hB⟩
  have HO := Aside0.mk (Own.of_below hB)
  clear hB
  by_cases hl : 1 ≤ l0.length ∧ l0.length ≤ 10
  case neg =>
    by_cases h0 : l0.length = 0
    · have h00 : ((l0.length : Int) == 0) = true := beq_iff_eq.2 (by omega)
      clear h0
      go_wp2
      go_ret
      exact ⟨rfl, HO.out.below⟩
    · have h00 : ((l0.length : Int) == 0) = false := beq_eq_false_iff_ne.2 (by omega)
      have hgt : 10 < l0.length := by omega
      clear h0 hl
      go_wp2
      go_ret
      exact ⟨rfl, HO.out.below⟩
  obtain ⟨hl1, hl10⟩ := hl
  have h00 : ((l0.length : Int) == 0) = false := beq_eq_false_iff_ne.2 (by omega)
  go_wp2_with fail
  refine (NewWriter_own HO.out).mono ?_
  rintro e w2 ⟨rfl, ho⟩
  have HO := Aside0.mk (ho.nil (Kd.int .i64) 3)
  clear ho
  go_wp2
  generalize w1.heap.size = p at HO ⊢
  go_loopw [6, 7] (fun v6 v7 wr => ∃ (i : Nat) (A6 : Option Addr) (c6 : Nat), v7 = .int .i64 (i : Int) ∧ v6 = .slice A6 i c6 ∧ i ≤ l0.length ∧ Aside0 (∀ j, j < i → (l0.getD j []).length ≤ 200) ∧ Aside0 (Own W wr (star (row (Kd.int .i64) 3 (.slice A6 i c6) (endsL l0 i)) (star (Wr p (flatT (l0.take i))) emp)))) (fun _ v7 _ => l0.length - (intOf v7).toNat)
  case atStart => exact ⟨0, none, 0, rfl, rfl, Nat.zero_le _, ⟨fun j hj => absurd hj (Nat.not_lt_zero _)⟩, HO⟩
  case round =>
    clear HO
    obtain ⟨i, A6, c6, rfl, rfl, hi, H2, HO⟩ := hrel
    by_cases hlt : i < l0.length
    · obtain ⟨ad, Ax, cx, rfl, hx, hxc, hxC⟩ := at_L4 HR.out (i : Int) (by omega) (by omega)
      have hrd : rd_L4 l0 (i : Int) = l0.getD i [] := by unfold rd_L4; rw [Int.toNat_natCast]
      rw [hrd] at hx hxc hxC
      rw [Int.toNat_natCast] at hx
      have hxw := pw_cell_below HO.out.below hx
      have HXW := Lib.hid hx
      have HXC := Lib.hid hxC
      have hx9 := HX.out i hlt
      have HS := Lib.hid (flatT_succ l0 hlt)
      have HE := Lib.hid (endsL_succ l0 i)
      have het : endT l0 (i + 1) = (flatT (l0.take (i + 1))).length := rfl
      have HET := Lib.hid het
      clear het
      have hel := endT_le l0 i hi H2.out
      generalize hxe : l0.getD i [] = x at hx9 hxw hxc HXC HS HXW hxC hx
      have HXE := Lib.hid hxe
      clear hxC hrd hx hxe
      by_cases h200 : x.length ≤ 200
      · go_wp2_with fail
        have hel2 : (flatT (l0.take i)).length ≤ 900000000 := by have h := hel; unfold endT at h; omega
        obtain ⟨q, hq⟩ : ∃ q, flatT (l0.take (i + 1)) = q := ⟨_, rfl⟩
        rw [hq] at HS HET
        have hql : q.length ≤ 3000 := by
          have h1 := HS.out
          have h2 := (encT_len (b := x) (by omega)).2
          rw [h1, List.length_append]
          have h := hel
          unfold endT at h
          omega
        have HQ := Lib.hid hq
        clear hq
        refine (wtext_own (flatT (l0.take i)) Ax cx x HO.out.swap HXC.out (by omega) hel2).mono ?_
        rintro e w3 ⟨rfl, ho⟩
        rw [← HS.out] at ho
        have HO3 := Aside0.mk ho
        clear ho hel2 hel
        go_wp2_with fail
        refine (wbytes_own q HO3.out (by omega)).mono ?_
        rintro e w4 ⟨A4, c4, rfl, hl4, hC4, ho⟩
        obtain ⟨ok4, hR4, hfr4, hbk4⟩ := ho.rest.swap.open_row
        have HR4 := Lib.hid hR4
        have HF4 := Lib.hid hfr4
        have HB4 := Lib.hid hbk4
        have HEL := Lib.hid (endsL_len l0 i)
        clear ho hC4 hR4 hfr4 hbk4 HO HO3
        go_wp2_with (first
          | ((with_reducible refine gate_builtin (b := .append) (xs := #[.tmp 42, .tmp 46]) rfl ?_); at_builtin; go_must (refine Kd.R_append (Kd.int .i64) (w0 := w4) 0 rfl (.tmp 42) (.tmp 46) 39 3 (.int .i64 0) 8 rfl Try.underlying39 info_int rfl (by decide) (by decide) (.slice A6 i c6) (endsL l0 i) _ [.int .i64 _] ok4 (fun _ => False) rfl rfl rfl (fun _ hk => hk.elim) HF4.out HR4.out (Below.refl _ _) (Nat.zero_le _) ?aL ?_); (case aL => rw [HEL.out]; omega); intro v5 w5 hR5 hB5 hg5 _; have ho5 := HB4.out _ _ _ hR5 hg5; obtain ⟨A5, c5, he5⟩ := Kd.R_slice hR5; rw [List.length_append, HEL.out] at he5; subst he5; have HO5 := Aside0.mk ho5; clear ho5 hR5 hB5 hg5)
          | fail)
        go_roundw
        case rel => exact ⟨i + 1, A5, c5, by go_num, rfl, by omega, ⟨fun j hj => by
          by_cases e : j = i
          · subst e; rw [HXE.out]; exact h200
          · exact H2.out j (by omega)⟩, ⟨by rw [HQ.out, HE.out, HET.out]; exact HO5.out⟩⟩
        case measure => simp [intOf]; omega
      · go_wp2
        go_ret
        exact ⟨rfl, HO.out.below⟩
    · have hin : i = l0.length := by omega
      subst hin
      have h2 := H2.out
      have hel := endT_le l0 l0.length (Nat.le_refl _) h2
      have hel1 : 1 ≤ (flatT l0).length := by
        have h1 := flatT_drop l0 (i := 0) (by omega)
        have h3 := (encT_len (b := l0.getD 0 []) (by have := h2 0 (by omega); omega)).1
        rw [List.drop_zero] at h1
        rw [h1, List.length_append]
        omega
      have hel2 : (flatT l0).length ≤ 2100 := by
        unfold endT at hel
        rw [List.take_length] at hel
        omega
      have ho := HO.out
      rw [List.take_length] at ho
      have HB8 := Lib.hid (flatT_byte H8.out)
      have HCE := Lib.hid (fun k hk => cutS_end l0 k hk)
      have HCZ := Lib.hid (cutS_zero l0)
      obtain ⟨q, hq⟩ : ∃ q, flatT l0 = q := ⟨_, rfl⟩
      rw [hq] at ho hel1 hel2 HB8 HCE HCZ
      have HO := Aside0.mk ho
      have hq0 : ((q.length : Int) == 0) = false := beq_eq_false_iff_ne.2 (by omega)
      have HEL := Lib.hid (endsL_len l0 l0.length)
      have HEA := Lib.hid (fun i (h : i < l0.length) => endsL_at l0 h)
      clear ho hq hel h2
      go_wp2_with fail
      refine (wbytes_own q HO.out.swap (by omega)).mono ?_
      rintro e w4 ⟨A4, c4, rfl, hl4, hC4, ho⟩
      have HO := Aside0.mk ho
      have HC4 := Lib.hid hC4
      clear ho hC4
      obtain ⟨k, hkq, hpl⟩ := place a1 q.length (by omega) (by omega)
      have HPL := Lib.hid hpl
      clear hpl
      go_wp2_with fail
      refine (ambryhelp_Place.calls a1 q.length k _ HPL.out).mono ?_
      rintro e w5 ⟨rfl, hd⟩
      have HO := Aside0.mk (HO.out.drawn hd)
      have HC5 := Lib.hid (Kd.C_below HC4.out hd.below)
      clear hd
      have hsl := cut_to (P := Try.prog) 22 5 .i64 Try.underlying22 infoU8.1 A4 q.length c4 (k : Int) (by omega) (by omega) hl4
      rw [Int.toNat_natCast] at hsl
      have hkl : (q.take k).length = k := by rw [List.length_take]; omega
      have hnr := NewReader_own A4 c4 (q.take k) HO.out (Kd.C_take HC5.out (by omega)) (fun x hx => HB8.out x (List.mem_of_mem_take hx)) (by omega)
      rw [hkl] at hnr
      have HNR := Lib.hid hnr
      have HCS := Lib.hid (HCZ.out k)
      clear hnr hkl
      go_wp2_with fail
      refine HNR.out.mono ?_
      rintro e w6 ⟨q6, rfl, hB6, ho⟩
      rw [← HCS.out] at ho
      have ho := ho.drop2.drop2
      obtain ⟨g, c7, he7, _⟩ := ho.rest.form (by rw [HEL.out]; omega)
      rw [HEL.out] at he7
      injection he7 with he1 _ he3
      subst he1 he3
      have HO := Aside0.mk ho
      clear ho HPL hsl HC5 HC4
      go_wp2
      go_loopw [11, 12] (fun v11 v12 wr2 => ∃ i : Nat, v11 = .int .i64 (i : Int) ∧ i ≤ l0.length ∧ Aside0 (Own W wr2 (star (Rd q6 (cutS l0 k i)) (star (row (Kd.int .i64) 3 (.slice (some ⟨g, 0, none⟩) l0.length c6) (endsL l0 l0.length)) emp)))) (fun v11 _ _ => l0.length - (intOf v11).toNat)
      case atStart => exact ⟨0, rfl, Nat.zero_le _, HO⟩
      case round =>
        clear HO
        obtain ⟨i, rfl, hi, HO⟩ := hrel
        by_cases hlt : i < l0.length
        · obtain ⟨ad, Ax, cx, rfl, hx, hxc, hxC⟩ := at_L4 HR.out (i : Int) (by omega) (by omega)
          have hrd : rd_L4 l0 (i : Int) = l0.getD i [] := by unfold rd_L4; rw [Int.toNat_natCast]
          rw [hrd] at hx hxc hxC
          rw [Int.toNat_natCast] at hx
          have hst := cutS_step l0 k hlt (H2.out i hlt)
          have hea := HEA.out i hlt
          have HST := Lib.hid hst
          have HXW := Lib.hid hx
          have HXC := Lib.hid hxC
          have hcl : ∀ xs, cutS l0 k i = some xs → xs.length ≤ 1000000000 := fun xs h => by have := cutS_len h; omega
          have HCL := Lib.hid hcl
          generalize l0.getD i [] = x at hxc HXC HXW HST hxC hx hst
          clear hxC hrd hx hst hcl
          by_cases hek : endT l0 (i + 1) ≤ k
          · rw [if_pos hek] at HST
            go_wp2_with fail
            refine (Text_own HO.out HST.out HCL.out).mono ?_
            rintro e w7 ⟨A7, c7, rfl, hl7, hC7, ho⟩
            have hat := ho.rest.rest.at_ i hlt
            rw [hea] at hat
            obtain ⟨hat, _⟩ := hat
            have hxw := pw_cell_below ho.below HXW.out
            have HXC7 := Lib.hid (Kd.C_below HXC.out ho.below)
            have HO := Aside0.mk ho.rest
            have HC7 := Lib.hid hC7
            clear ho hC7
            go_wp2_with fail
            refine (ambryhelp_Bytes.calls A7 c7 x Ax cx x true _ HC7.out hl7 HXC7.out hxc (by unfold ambryhelp_Bytes.f; rw [beq_self_eq_true])).mono ?_
            rintro e w8 ⟨rfl, hd⟩
            have HO := Aside0.mk (HO.out.drawn hd)
            clear hd
            go_wp2
            go_roundw
            case rel => exact ⟨i + 1, by go_num, by omega, HO⟩
            case measure => simp [intOf]; omega
          · rw [if_neg hek] at HST
            go_wp2_with fail
            refine (Text_own HO.out HST.out HCL.out).mono ?_
            rintro e w7 ⟨A7, c7, rfl, hl7, hC7, ho⟩
            have hat := ho.rest.rest.at_ i hlt
            rw [hea] at hat
            obtain ⟨hat, _⟩ := hat
            have HO := Aside0.mk ho.rest
            clear ho hC7
            go_wp2
            go_roundw
            case rel => exact ⟨i + 1, by go_num, by omega, HO⟩
            case measure => simp [intOf]; omega
        · have hin : i = l0.length := by omega
          subst hin
          have ho := HO.out
          rw [HCE.out k hkq] at ho
          have HO := Aside0.mk ho
          clear ho
          go_wp2_with fail
          refine (Done_own HO.out).mono ?_
          rintro e w8 ⟨rfl, rfl⟩
          have hd1 : doneS none = 20 := rfl
          go_wp2_with fail
          refine (Text_own (b := []) (st' := none) HO.out rfl (fun xs h => by cases h)).mono ?_
          rintro e w9 ⟨A9, c9, rfl, hl9, hC9, ho⟩
          have HO := Aside0.mk ho.rest
          clear ho hC9
          go_wp2_with fail
          refine (Num_own (n := 0) (st' := none) HO.out rfl).mono ?_
          rintro e w10 ⟨rfl, ho⟩
          have HB := Lib.hid ho.below
          clear ho
          go_wp2
          go_ret
          exact ⟨rfl, HB.out⟩
end Go.Proofs.Ythbapljhhglamaa.Walk
