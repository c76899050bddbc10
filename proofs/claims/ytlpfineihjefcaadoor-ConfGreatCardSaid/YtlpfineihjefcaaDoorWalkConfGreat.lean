/- The contract of ConfGreat: just how long settings may be. -/
import Derived.Test.YtlpfineihjefcaaDoorConfG
import Derived.Test.YtlpfineihjefcaaDoorFoot2
import Derived.OpenShut
set_option linter.unusedVariables false
set_option linter.unusedSimpArgs false
namespace Go.Proofs.YtlpfineihjefcaaDoor.Walk
open Go.RowKit Go.Proofs.YtlpfineihjefcaaDoor.G Go.Proofs.YtlpfineihjefcaaDoorW.PrintWords Go.Proofs.YtlpfineihjefcaaDoorW.PrintMore Go.Proofs.YtlpfineihjefcaaDoor.Plain Go.Proofs.YtlpfineihjefcaaDoor.Foot Go.Proofs.YtlpfineihjefcaaDoor.Conf
theorem infoU8 : (Tryd.prog.info? 5).map (fun i => (i.zero, i.size, i.bytes)) = some (some (.int .u8 0), 1, 1) := by kernel_rfl
def part (N i : Nat) : List Int := List.replicate i 35 ++ List.replicate (N - i) 0
theorem part_next {N i : Nat} (h : i < N) : (part N i).set i 35 = part N (i + 1) := by
  unfold part
  apply List.ext_getElem?
  intro j
  by_cases hj : i = j
  · subst hj
    rw [List.getElem?_set_self (by simp; omega), List.getElem?_append_left (by simp), List.getElem?_replicate, if_pos (by omega)]
  · rw [List.getElem?_set_ne hj]
    rcases Nat.lt_or_ge j i with h1 | h1
    · rw [List.getElem?_append_left (by simp; omega), List.getElem?_append_left (by simp; omega), List.getElem?_replicate, List.getElem?_replicate, if_pos (by omega), if_pos (by omega)]
    · rw [List.getElem?_append_right (by simp; omega), List.getElem?_append_right (by simp; omega), List.getElem?_replicate, List.getElem?_replicate]
      simp only [List.length_replicate]
      by_cases h2 : j < N
      · rw [if_pos (by omega), if_pos (by omega)]
      · rw [if_neg (by omega), if_neg (by omega)]
theorem part_len {N i : Nat} (h : i ≤ N) : (part N i).length = N := by simp [part]; omega
theorem part_zero (N : Nat) : part N 0 = List.replicate N 0 := by simp [part]
theorem part_all (N : Nat) : part N N = List.replicate N 35 := by simp [part]
set_option maxHeartbeats 4000000 in
set_option maxRecDepth 100000 in
theorem ConfGreat (W : World) (a0 : Int) (w0 : (Lit.int .u8 a0).wf = true) :
    Calls Tryd.prog 4 #[.int .u8 a0] W fun e w' => e = .returned (.bool true) ∧ Below W.heap.size W w' := by
  obtain ⟨hp0, hp1⟩ := bounds_u8 w0
  obtain ⟨r, hr⟩ : ∃ r : Nat, a0 % 5 = (r : Int) := ⟨(a0 % 5).toNat, by omega⟩
  have hr4 : r ≤ 4 := by omega
  obtain ⟨N, hN⟩ : ∃ N : Nat, 32766 + r = N := ⟨_, rfl⟩
  have hNi : (32766 : Int) + (r : Int) = (N : Int) := by omega
  have hN0 : 0 < N := by omega
  have hN1 : N ≤ 32770 := by omega
  clear w0 hN
  go_enter Tryd.func4, Tryd.ntmps4
  go_wp2_with fail
  refine (known_calls _).mono ?_
  rintro e w1 ⟨rfl, hB⟩
  have HB := Aside0.mk hB
  clear hB
  go_wp2_with (first
    | (refine Kd.R_make (Kd.int .u8) (w0 := w1) w1.heap.size 5 rfl (N := 14) rfl 32 _ _ rfl (N : Int) rfl rfl Tryd.underlying32 (.int .u8 0) 1 infoU8 rfl (by decide) (by omega) (0 : Int) (ok := fun _ => True) (okp := fun _ => True) rfl (fun _ hk => hk) trivial (by omega) (by omega) (Below.refl _ _) (Nat.le_refl _) ?_; intro v w2 hR hB2 _ _)
    | fail)
  rw [Int.toNat_natCast, ← part_zero] at hR
  have HO := Aside0.mk ((Own.of_below HB.out).row hR hB2)
  obtain ⟨g, cap, hv, _⟩ := HO.out.form (by rw [part_len (Nat.zero_le _)]; exact hN0)
  rw [part_len (Nat.zero_le _)] at hv
  subst hv
  clear hR hB2 hr hNi hr4
  go_loopw [4] (fun v4 wr => ∃ i : Nat, v4 = .int .i64 (i : Int) ∧ i ≤ N ∧ Aside0 (Own W wr (star (Foot.row (Kd.int .u8) 5 (.slice (some ⟨g, 0, none⟩) N cap) (part N i)) emp))) (fun v4 _ => N - (intOf v4).toNat)
  case atStart => exact ⟨0, rfl, Nat.zero_le _, HO⟩
  case round =>
    clear HO
    obtain ⟨i, rfl, hi, HO⟩ := hrel
    by_cases hlt : i < N
    · have hi0 : (0 : Int) ≤ (i : Int) := by omega
      have hi1 : (i : Int) < (N : Int) := by omega
      obtain ⟨hc, hz⟩ := HO.out.at_ i hlt
      have HO2 := Aside0.mk (HO.out.put i 35)
      rw [part_next hlt] at HO2
      go_wp2
      go_roundw
      case rel => exact ⟨i + 1, by go_num, by omega, HO2⟩
      case measure => simp [intOf]; omega
    · have hin : i = N := by omega
      have hic : ((i : Nat) : Int) = (N : Int) := by omega
      rw [hin] at HO
      rw [hic]
      clear hin hic hi hlt
      have hcv : ∀ cap' : Nat, (convert 32 9 (.slice (some ⟨g, 0, none⟩) N cap)).run Tryd.prog wr = .ok (.string (hash N)) wr := fun _ => by
        have := run_convert_bytes_arg (P := Tryd.prog) wr 32 5 Tryd.underlying32 Tryd.underlying5 g 0 N cap (part N N) (part_len (Nat.le_refl _)) (fun j hj => by rw [Nat.zero_add]; exact (HO.out.at_ j hj).1) 9 Tryd.underlying9
        rw [part_all] at this
        exact this
      have hcv := hcv 0
      have HZ := Lib.hid (hash_size N)
      by_cases hle : N ≤ 32768
      · have hrun := hash_run (n := N) hN0 (by omega)
        have hpc := parse_calls (hash N) (some cfD) 0 wr (by rw [hash_size]; exact hle) hrun (by rw [hash_lines]; exact (by decide : 1 ≤ 100000))
        have HPC := Lib.hid hpc
        clear hrun hpc
        generalize Conf.hash N = s at hcv HPC HZ
        go_wp2_with fail
        (with_reducible refine HPC.out.mono ?_)
        rintro e w3 ⟨hB, v, rfl, ok, hR⟩
        obtain ⟨A1, c1, rfl⟩ := Kd.R_slice hR
        have HO3 := Aside0.mk (HO.out.below.trans (hB.mono HO.out.below.size))
        have hle' : (N : Int) ≤ 32768 := by omega
        clear hB hR hcv
        go_wp2
        go_ret
        exact ⟨rfl, below_alloc HO3.out _⟩
      · have hpc := parse_long (hash N) wr (by rw [hash_size]; omega)
        have HPC := Lib.hid hpc
        clear hpc
        generalize Conf.hash N = s at hcv HPC HZ
        go_wp2_with fail
        (with_reducible refine HPC.out.mono ?_)
        rintro e w3 ⟨rfl, hB⟩
        have HO3 := Aside0.mk (HO.out.below.trans (hB.mono HO.out.below.size))
        have hle' : decide ((N : Int) ≤ 32768) = false := by simp; omega
        clear hB hcv
        go_wp2
        go_ret
        exact ⟨rfl, below_alloc HO3.out _⟩
end Go.Proofs.YtlpfineihjefcaaDoor.Walk
