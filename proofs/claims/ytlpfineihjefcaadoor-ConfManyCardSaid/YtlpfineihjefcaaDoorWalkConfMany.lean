/- The contract of ConfMany: just how many rules, and lines of a log, there may be. -/
import Derived.Test.YtlpfineihjefcaaDoorConfM
import Derived.Test.YtlpfineihjefcaaDoorConfK
import Derived.Test.YtlpfineihjefcaaDoorFoot2
import Derived.OpenShut
set_option linter.unusedVariables false
set_option linter.unusedSimpArgs false
namespace Go.Proofs.YtlpfineihjefcaaDoor.Walk
open Go.RowKit Go.Proofs.YtlpfineihjefcaaDoor.G Go.Proofs.YtlpfineihjefcaaDoorW.PrintWords Go.Proofs.YtlpfineihjefcaaDoorW.PrintMore Go.Proofs.YtlpfineihjefcaaDoor.Plain Go.Proofs.YtlpfineihjefcaaDoor.Foot Go.Proofs.YtlpfineihjefcaaDoor.Conf
set_option maxHeartbeats 4000000 in
set_option maxRecDepth 100000 in
theorem ConfMany (W : World) (a0 a1 : Int) (a2 : Bool) (w0 : (Lit.int .u16 a0).wf = true) (w1 : (Lit.int .u16 a1).wf = true) :
    Calls Tryd.prog 3 #[.int .u16 a0, .int .u16 a1, .bool a2] W fun e w' => e = .returned (.bool true) ∧ Below W.heap.size W w' := by
  obtain ⟨hp0, hp1⟩ := bounds_u16 w0
  obtain ⟨hq0, hq1⟩ := bounds_u16 w1
  obtain ⟨K, hK⟩ : ∃ K : Nat, a0 % 60 = (K : Int) := ⟨(a0 % 60).toNat, by omega⟩
  obtain ⟨N, hN⟩ : ∃ N : Nat, a1 % 300 = (N : Int) := ⟨(a1 % 300).toNat, by omega⟩
  have hK6 : K < 60 := by omega
  have hN3 : N < 300 := by omega
  clear w0 w1
  go_enter Tryd.func3, Tryd.ntmps3
  go_wp2_with fail
  refine (known_calls _).mono ?_
  rintro e w1 ⟨rfl, hB⟩
  have HB := Aside0.mk hB
  clear hB
  go_wp2_with fail
  refine (ambrylaw29_digits.calls 9 (N : Int) _ _ (dg_f hN3)).mono ?_
  rintro e w2 ⟨rfl, hd⟩
  have HB := Aside0.mk (HB.out.trans (hd.below.mono HB.out.size))
  have hz := dg_size N hN3
  have f1 : (9223372036854775807 < 4 + (dg N).size) = False := eq_false (by omega)
  have f2 : (9223372036854775807 < 4 + (dg N).size + 1) = False := eq_false (by omega)
  clear hd hz
  go_wp2
  go_loopw [8, 9] (fun v8 v9 wr => ∃ i : Nat, i ≤ K ∧ v9 = .int .i64 (i : Int) ∧ v8 = .string (txt a2 N i) ∧ Aside0 (Below W.heap.size W wr)) (fun _ v9 _ => K - (intOf v9).toNat)
  case atStart => exact ⟨0, Nat.zero_le _, rfl, congrArg Value.string (txt_zero a2 N).symm, HB⟩
  case round =>
    clear HB
    obtain ⟨i, hi, rfl, rfl, HB⟩ := hrel
    have HZ := Lib.hid (txt_size a2 N i hN3 (by omega))
    have HS := Lib.hid (txt_succ a2 N i)
    by_cases hlt : i < K
    · have hz := dg_size i (by omega)
      have hz2 := HZ.out
      have f1 : (9223372036854775807 < (txt a2 N i).size + 9) = False := eq_false (by omega)
      have f2 : (9223372036854775807 < (txt a2 N i).size + 9 + (dg i).size) = False := eq_false (by omega)
      have f3 : (9223372036854775807 < (txt a2 N i).size + 9 + (dg i).size + 3) = False := eq_false (by omega)
      have f4 : (9223372036854775807 < (txt a2 N i).size + 9 + (dg i).size + 3 + 1) = False := eq_false (by omega)
      have f5 : (9223372036854775807 < (txt a2 N i).size + 9 + (dg i).size + 3 + 1 + 1) = False := eq_false (by omega)
      have hi1 : (i : Int) < (K : Int) := by omega
      have hi6 : i < 60 := by omega
      clear hz hz2
      go_wp2_with fail
      refine (ambrylaw29_digits.calls 9 (i : Int) _ _ (dg_f (by omega))).mono ?_
      rintro e w2 ⟨rfl, hd⟩
      have HB := Aside0.mk (HB.out.trans (hd.below.mono HB.out.size))
      clear hd
      cases a2 with
      | true =>
        go_wp2
        go_roundw
        case rel => exact ⟨i + 1, by omega, by go_num, congrArg Value.string (by rw [HS.out]; unfold rl rC; rw [if_pos rfl]; apply bytes_inj; simp only [bytes_append, List.append_assoc]; rfl), HB⟩
        case measure => simp [intOf]; omega
      | false =>
        go_wp2
        go_roundw
        case rel => exact ⟨i + 1, by omega, by go_num, congrArg Value.string (by rw [HS.out]; unfold rl rC; rw [if_neg (by decide)]; apply bytes_inj; simp only [bytes_append, List.append_assoc]; rfl), HB⟩
        case measure => simp [intOf]; omega
    · have hik : i = K := by omega
      rw [hik] at HZ ⊢
      have hlt' : ¬ (K : Int) < (K : Int) := by omega
      clear hik hi hlt HS
      have hzz := HZ.out
      obtain ⟨r1, r2, r3⟩ := txt_run a2 N K hN3 hK6
      have hlen : (linesOf (txt a2 N K)).length ≤ 100000 := by
        rw [txt_lines a2 N K hN3 hK6]
        simp [txtL]
        omega
      have hpc := fun res m hr => parse_calls (txt a2 N K) res m wr (by omega) hr hlen
      have HPC := Lib.hid hpc
      have R1 := Lib.hid r1
      have R2 := Lib.hid r2
      have R3 := Lib.hid r3
      clear r1 r2 r3 hlen hpc hzz
      by_cases h2 : 200 < N
      · have HQ := Lib.hid (HPC.out none 1 (R1.out h2))
        clear HPC R1 R2 R3 HZ
        generalize txt a2 N K = s at HQ
        have h2' : (200 : Int) < (N : Int) := by omega
        go_wp2_with fail
        (with_reducible refine HQ.out.mono ?_)
        rintro e w3 ⟨hB, rfl⟩
        have HB := Aside0.mk (HB.out.trans (hB.mono HB.out.size))
        clear hB HQ
        go_wp2
        go_ret
        exact ⟨rfl, below_alloc HB.out _⟩
      · have h2' : decide ((200 : Int) < (N : Int)) = false := by simp; omega
        by_cases h5 : 50 < K
        · have HQ := Lib.hid (HPC.out none 52 (R2.out (by omega) h5))
          clear HPC R1 R2 R3 HZ
          generalize txt a2 N K = s at HQ
          have h5' : (50 : Int) < (K : Int) := by omega
          go_wp2_with fail
          (with_reducible refine HQ.out.mono ?_)
          rintro e w3 ⟨hB, rfl⟩
          have HB := Aside0.mk (HB.out.trans (hB.mono HB.out.size))
          clear hB HQ
          go_wp2
          go_ret
          exact ⟨rfl, below_alloc HB.out _⟩
        · obtain ⟨c, e1, e2, e3⟩ := R3.out (by omega) (by omega)
          have HQ := Lib.hid (HPC.out (some c) 0 e3)
          clear HPC R1 R2 R3 HZ e3
          generalize txt a2 N K = s at HQ
          have h5' : decide ((50 : Int) < (K : Int)) = false := by simp; omega
          go_wp2_with fail
          (with_reducible refine HQ.out.mono ?_)
          rintro e w3 ⟨hB, v, rfl, ok, hR⟩
          obtain ⟨A1, c1, rfl⟩ := Kd.R_slice hR
          rw [e1, e2]
          have HB := Aside0.mk (HB.out.trans (hB.mono HB.out.size))
          clear hB HQ hR e1 e2
          go_wp2
          go_ret
          exact ⟨rfl, below_alloc HB.out _⟩
end Go.Proofs.YtlpfineihjefcaaDoor.Walk
