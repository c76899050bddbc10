/- A bucket takes just so many entries. -/
import Derived.Test.YtafpaomcmjccaaaDirKn
import Derived.Test.YtafpaomcmjccaaaDirF
import Derived.OpenShut
set_option linter.unusedVariables false
set_option linter.unusedSimpArgs false
namespace Go.Proofs.Ytafpaomcmjccaaa.Walk
open Go.RowKit Go.Proofs.Ytafpaomcmjccaaa.G Go.Proofs.YtafpaomcmjccaaaW.PrintWords Go.Proofs.YtafpaomcmjccaaaW.PrintMore Go.Proofs.Ytafpaomcmjccaaa.Foot Go.Proofs.Ytafpaomcmjccaaa.Dir
attribute [local go_sem] max2_int min2_int max_two min_two

set_option maxHeartbeats 4000000 in
set_option maxRecDepth 100000 in
theorem DirFull (W : World) (a0 a1 a2 : Int) (w0 : (Lit.int .u8 a0).wf = true) (w1 : (Lit.int .u8 a1).wf = true) (w2 : (Lit.int .u16 a2).wf = true) :
    Calls Try.prog 4 #[.int .u8 a0, .int .u8 a1, .int .u16 a2] W fun e w' => e = .returned (.bool true) ∧ Below W.heap.size W w' := by
  have b0 := bounds_u8 w0
  have b1 := bounds_u8 w1
  have b2 := bounds_u16 w2
  clear w0 w1 w2
  obtain ⟨s, hs⟩ : ∃ s : Int, a0 % 20 = s := ⟨_, rfl⟩
  obtain ⟨n, hn⟩ : ∃ n : Nat, a1 % 24 = (n : Int) := ⟨(a1 % 24).toNat, by omega⟩
  have hn24 : n < 24 := by omega
  have hS := clamp_rng s 16 (by decide)
  obtain ⟨S, hSS⟩ : ∃ S, clamp s 16 = S := ⟨_, rfl⟩
  have HF := Lib.hid (full_new S s a2 (by omega) (by omega) hSS)
  have HK2 := Lib.hid (show 0 ≤ (a2 + 1) % 65536 ∧ (a2 + 1) % 65536 < 65536 by omega)
  rw [hSS] at hS
  have HSS := Lib.hid hSS
  clear hSS
  go_enter Try.func4, Try.ntmps4
  go_wp2_with fail
  with_reducible refine (known_calls W).mono ?_
  rintro e w1 ⟨rfl, hB⟩
  have HO := Aside0.mk ((Foot.Own.start W).step hB)
  clear hB
  go_wp2_with fail
  with_reducible refine (New_own HO.out 7 s).mono ?_
  rintro e w2 ⟨p, rfl, ho⟩
  have HO := Aside0.mk ho
  clear ho
  go_upto_region 4 with (fail)
  go_cut [8] (fun v8 wc => v8 = .int .i64 (S : Int) ∧ Aside0 (w2 = wc))
  case first =>
    go_wp2_with fail
    all_goals
      go_meet
      have hS' := HSS.out
      unfold clamp at hS'
      refine ⟨?_, ⟨rfl⟩⟩
      congr 1
      split at hS' <;> (try split at hS') <;> omega
  case rest =>
  obtain ⟨rfl, ⟨rfl⟩⟩ := hcut
  clear HSS
  go_wp2_with fail
  go_loopw [9] (fun v9 wr => ∃ (i : Nat) (D : Di), v9 = .int .i64 (i : Int) ∧ i ≤ n ∧ Aside0 (FullD S (Dir.keyOf a2) (Dir.keyOf ((a2 + 1) % 65536)) i D) ∧ Aside0 (Foot.Own W wr (star (DirH p D) emp))) (fun v9 _ => n - (intOf v9).toNat)
  case atStart => exact ⟨0, _, rfl, Nat.zero_le _, Aside0.mk HF.out, HO⟩
  case round =>
    clear HO HF
    obtain ⟨i, D, rfl, hi, HF, HO⟩ := hrel
    by_cases hlt : i < n
    · have hi1 : (i : Int) < (n : Int) := by omega
      go_wp2_with fail
      with_reducible refine (key_calls a2 wr (by omega) (by omega)).mono ?_
      rintro e w3 ⟨rfl, hB⟩
      have HO2 := Aside0.mk (HO.out.step hB)
      clear hB HO
      go_wp2_with fail
      with_reducible refine (Insert_own HO2.out (i : Int) 1 1 (okE _ _ _ _ (Dir.keyOf a2).tag_rng (by omega) (by omega) (by omega))).mono ?_
      rintro e w4 ⟨rfl, ho⟩
      obtain ⟨he, hF⟩ := HF.out.step (by omega) (dirH_ok ho)
      rw [he]
      have HO := Aside0.mk ho
      have HF := Aside0.mk hF
      generalize ((D.ins (Dir.keyOf a2) ⟨(Dir.keyOf a2).tag, (i : Int), 1, 1⟩).2) = D2 at HO HF
      clear ho hF he HO2
      by_cases hiS : i < S
      · have hiS1 : (i : Int) < (S : Int) := by omega
        rw [if_pos hiS]
        go_wp2_with fail
        go_roundw
        case rel => exact ⟨i + 1, D2, by rw [show ((i + 1 : Nat) : Int) = (i : Int) + 1 by omega], by omega, HF, HO⟩
        case measure => simp only [intOf]; omega
      · have hiS1 : decide ((i : Int) < (S : Int)) = false := decide_eq_false (by omega)
        rw [if_neg hiS]
        go_wp2_with fail
        go_roundw
        case rel => exact ⟨i + 1, D2, by rw [show ((i + 1 : Nat) : Int) = (i : Int) + 1 by omega], by omega, HF, HO⟩
        case measure => simp only [intOf]; omega
    · obtain rfl : i = n := by omega
      go_wp2_with fail
      rw [show IntKind.u16.wrap (a2 + 1) = (a2 + 1) % 65536 by rw [IntKind.wrap_u16]]
      with_reducible refine (key_calls ((a2 + 1) % 65536) wr HK2.out.1 HK2.out.2).mono ?_
      rintro e w3 ⟨rfl, hB⟩
      have HO2 := Aside0.mk (HO.out.step hB)
      clear hB HO
      go_wp2_with fail
      with_reducible refine (Insert_own HO2.out 99 1 1 (okE _ _ _ _ (Dir.keyOf ((a2 + 1) % 65536)).tag_rng (by omega) (by omega) (by omega))).mono ?_
      rintro e w4 ⟨rfl, ho⟩
      obtain ⟨he, hF⟩ := HF.out.other (dirH_ok ho)
      rw [he]
      have HO := Aside0.mk ho
      have HF := Aside0.mk hF
      generalize ((D.ins (Dir.keyOf ((a2 + 1) % 65536)) ⟨(Dir.keyOf ((a2 + 1) % 65536)).tag, 99, 1, 1⟩).2) = D2 at HO HF
      clear ho hF he HO2
      by_cases hge : S ≤ i
      · have hge1 : (S : Int) ≤ (i : Int) := by omega
        obtain ⟨D3, hd3, hD3⟩ := HF.out.gone hge
        have HD3 := Lib.hid hD3
        clear hD3
        go_wp2_with fail
        with_reducible refine (key_calls a2 w4 (by omega) (by omega)).mono ?_
        rintro e w5 ⟨rfl, hB⟩
        have HO2 := Aside0.mk (HO.out.step hB)
        clear hB HO
        go_wp2_with fail
        with_reducible refine (Delete_own HO2.out 0).mono ?_
        rintro e w6 ⟨rfl, ho⟩
        rw [hd3] at ho ⊢
        have HO := Aside0.mk ho
        clear ho HO2 hd3
        go_wp2_with fail
        with_reducible refine (key_calls a2 w6 (by omega) (by omega)).mono ?_
        rintro e w7 ⟨rfl, hB⟩
        have HO2 := Aside0.mk (HO.out.step hB)
        clear hB HO
        go_wp2_with fail
        with_reducible refine (Insert_own HO2.out 77 1 1 (okE _ _ _ _ (Dir.keyOf a2).tag_rng (by omega) (by omega) (by omega))).mono ?_
        rintro e w8 ⟨rfl, ho⟩
        obtain ⟨he, hl⟩ := HD3.out (dirH_ok HO2.out)
        rw [he]
        have HO := Aside0.mk ho
        have HL := Lib.hid hl
        clear ho he HO2 hl
        go_wp2_with fail
        with_reducible refine (Len_own HO.out).mono ?_
        rintro e w9 ⟨rfl, ho⟩
        rw [HL.out]
        have HO2 := Aside0.mk ho
        clear ho HO
        have hmin : decide ((S : Int) < (i : Int)) = decide ((S : Int) < (i : Int)) := rfl
        go_wp2_with fail
        all_goals
          go_ret
          exact ⟨by first | rfl | (congr 1; exact decide_eq_true (by omega)) | (simp; omega), HO2.out.below⟩
      · have hge1 : decide ((S : Int) ≤ (i : Int)) = false := decide_eq_false (by omega)
        have hl : D2.all.length = i + 1 := by have := HF.out.all; omega
        have HL := Lib.hid hl
        clear hl
        go_wp2_with fail
        with_reducible refine (Len_own HO.out).mono ?_
        rintro e w9 ⟨rfl, ho⟩
        rw [HL.out]
        have HO2 := Aside0.mk ho
        clear ho HO
        go_wp2_with fail
        all_goals
          go_ret
          exact ⟨by first | rfl | (congr 1; exact decide_eq_true (by omega)) | (simp; omega), HO2.out.below⟩
end Go.Proofs.Ytafpaomcmjccaaa.Walk
