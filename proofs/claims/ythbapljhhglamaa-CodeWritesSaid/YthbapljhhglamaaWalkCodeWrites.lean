/- The contract of CodeWrites: any parts are written as the document's bytes, and read back one by one. -/
import Derived.Test.YthbapljhhglamaaCodeO
import Derived.OpenShut
import Derived.Deep.DeepMust
set_option linter.unusedVariables false
set_option linter.unusedSimpArgs false
namespace Go.Proofs.Ythbapljhhglamaa.Walk
open Go.RowKit Go.Proofs.Ythbapljhhglamaa.G Go.Proofs.YthbapljhhglamaaW.PrintWords Go.Proofs.YthbapljhhglamaaW.PrintMore Go.Proofs.Ythbapljhhglamaa.Foot Go.Proofs.Ythbapljhhglamaa.CodeL Go.Proofs.Ythbapljhhglamaa.Code
set_option maxHeartbeats 4000000 in
set_option maxRecDepth 100000 in
theorem CodeWrites (W : World) (A0 : Option Addr) (c0 : Nat) (l0 : List S53) (hr0 : Kd.C k53 W A0 l0.length l0) (hc0 : l0.length ≤ c0)
    (g0 : ∀ x ∈ l0, (Lit.int .u8 x.f0).wf = true ∧ (Lit.int .u64 x.f1).wf = true ∧ ((∀ y ∈ x.f2, (Lit.int .u8 y).wf = true) ∧ x.f2.length ≤ 9223372036854775807) ∧ ((∀ y ∈ x.f3, y.f0.size ≤ 9223372036854775807 ∧ y.f1.size ≤ 9223372036854775807) ∧ x.f3.length ≤ 9223372036854775807)) :
    Calls Try.prog 7 #[.slice A0 l0.length c0] W fun e w' => e = .returned (.bool true) ∧ Below W.heap.size W w' := by
  have HG := Lib.hid (show ∀ x ∈ l0, Fits x → PartOk x from fun x hx hf => by
    obtain ⟨h0, h1, h2, _⟩ := g0 x hx
    exact ⟨bounds_u8 h0, bounds_u64 h1, fun y hy => by have := bounds_u8 (h2.1 y hy); omega, hf⟩)
  have HR0 := Lib.hid hr0
  clear hr0 g0
  go_enter Try.func7, Try.ntmps7
  go_wp2_with fail
  refine (known_calls _).mono ?_
  rintro e w1 ⟨rfl, hB⟩
  have HO := Aside0.mk (Own.of_below hB)
  clear hB
  rcases law_light l0 with ⟨hev, hl20, hfit⟩ | hev
  case inr =>
    obtain ⟨kl, hkl⟩ := hev.rounds
    have HKL := Lib.hid hkl
    clear hkl hev
    go_wp2_with fail
    refine (ambrylaw2_light.calls kl A0 c0 l0 false _ (Kd.C_below HR0.out HO.out.below) hc0 HKL.out).mono ?_
    rintro e w2 ⟨rfl, hd⟩
    have HO := Aside0.mk (HO.out.drawn hd)
    clear hd
    go_wp2
    go_ret
    exact ⟨rfl, HO.out.below⟩
  obtain ⟨kl, hkl⟩ := hev.rounds
  have HKL := Lib.hid hkl
  have HG := Lib.hid (show ∀ x ∈ l0, PartOk x from fun x hx => HG.out x hx (hfit x hx))
  clear hkl hev hfit
  go_wp2_with fail
  refine (ambrylaw2_light.calls kl A0 c0 l0 true _ (Kd.C_below HR0.out HO.out.below) hc0 HKL.out).mono ?_
  rintro e w2 ⟨rfl, hd⟩
  have HO := Aside0.mk (HO.out.drawn hd)
  clear hd HKL
  go_wp2_with fail
  refine (NewWriter_own HO.out).mono ?_
  rintro e w3 ⟨rfl, ho⟩
  generalize w2.heap.size = p at ho ⊢
  have HO := Aside0.mk (Own.nil (Kd.int .u8) 5 ho).swap
  clear ho
  go_wp2
  go_loopw [4, 5] (fun v4 v5 wr => ∃ (i : Nat) (acc : List Int), v5 = .int .i64 (i : Int) ∧ i ≤ l0.length ∧ Aside0 (acc ++ encL (l0.drop i) = encL l0) ∧ Aside0 (acc.length ≤ 4000 * i) ∧ Aside0 (Own W wr (star (Wr p acc) (star (row (Kd.int .u8) 5 v4 acc) emp)))) (fun _ v5 _ => l0.length - (intOf v5).toNat)
  case atStart => exact ⟨0, [], rfl, Nat.zero_le _, ⟨rfl⟩, ⟨Nat.le_refl _⟩, HO⟩
  case round =>
    clear HO
    obtain ⟨i, acc, rfl, hi, HE, HL, HO⟩ := hrel
    by_cases hlt : i < l0.length
    · obtain ⟨ad, f0, m, f2, f3, A2, c2, A3, c3, rfl, hd, hx, hat, hc2, hC2, hc3, hC3⟩ := part_at HR0.out HG.out i hlt
      have HX := Lib.hid hx
      have HAT := Lib.hid hat
      have HC2 := Lib.hid hC2
      have HC3 := Lib.hid hC3
      have HE2 := Lib.hid (show (acc ++ encPart ⟨f0, (m : Int), f2, f3⟩) ++ encL (l0.drop (i + 1)) = encL l0 by
        rw [← HE.out, hd, List.append_assoc]
        rfl)
      have HL2 := Lib.hid (show (acc ++ encPart ⟨f0, (m : Int), f2, f3⟩).length ≤ 4000 * (i + 1) by
        have := hx.len
        have := HL.out
        rw [List.length_append]
        omega)
      have hl9 : acc.length ≤ 1000000 := by have := HL.out; omega
      have hf0 : 0 ≤ f0 := hx.what.1
      have hf1 : f0 ≤ 255 := hx.what.2
      have hm64 : m < 18446744073709551616 := by have := hx.num.2; simp only at this; omega
      have hi0 : (0 : Int) ≤ (i : Int) := by omega
      have hi1 : (i : Int) < (l0.length : Int) := by omega
      obtain ⟨hx0, hx1, hx2, hx3⟩ := hat _ HO.out.below
      clear hd hx hat hC2 hC3 HE HL
      by_cases h3 : f0 % 3 = 0
      · have h30 : (f0 % 3 == 0) = true := beq_iff_eq.2 h3
        have HP := Lib.hid (show encPart ⟨f0, (m : Int), f2, f3⟩ = enc m by unfold encPart; rw [if_pos h3]; rfl)
        clear h3
        go_wp2_with fail
        refine (wnum_own acc m HO.out hm64 (by omega)).mono ?_
        rintro e w4 ⟨rfl, ho⟩
        have HO := Aside0.mk ho.swap
        obtain ⟨hx0, hx1, hx2, hx3⟩ := HAT.out _ HO.out.below
        clear ho
        go_wp2_with fail
        refine (rnum_own m HO.out hm64 (by omega)).mono ?_
        rintro e w5 ⟨v5, rfl, ho⟩
        have HO := Aside0.mk ho.swap
        clear ho
        go_wp2
        go_roundw
        case rel => exact ⟨i + 1, _, by go_num, by omega, ⟨HE2.out⟩, ⟨HL2.out⟩, ⟨by rw [HP.out]; exact HO.out⟩⟩
        case measure => simp [intOf]; omega
      · have h30 : (f0 % 3 == 0) = false := beq_eq_false_iff_ne.2 h3
        by_cases h4 : f0 % 3 = 1
        · have h40 : (f0 % 3 == 1) = true := beq_iff_eq.2 h4
          have HP := Lib.hid (show encPart ⟨f0, (m : Int), f2, f3⟩ = encT f2 by unfold encPart; rw [if_neg h3, if_pos h4])
          have hf2 : f2.length ≤ 200 := HX.out.fits.1
          clear h3 h4
          go_wp2_with fail
          refine (wtext_own acc A2 c2 f2 HO.out HC2.out (by omega) (by omega)).mono ?_
          rintro e w4 ⟨rfl, ho⟩
          have HO := Aside0.mk ho.swap
          obtain ⟨hx0, hx1, hx2, hx3⟩ := HAT.out _ HO.out.below
          clear ho
          go_wp2_with fail
          refine (rtext_own A2 c2 f2 HO.out HC2.out hc2 (by omega) (by omega)).mono ?_
          rintro e w5 ⟨v5, rfl, ho⟩
          have HO := Aside0.mk ho.swap
          clear ho
          go_wp2
          go_roundw
          case rel => exact ⟨i + 1, _, by go_num, by omega, ⟨HE2.out⟩, ⟨HL2.out⟩, ⟨by rw [HP.out]; exact HO.out⟩⟩
          case measure => simp [intOf]; omega
        · have h40 : (f0 % 3 == 1) = false := beq_eq_false_iff_ne.2 h4
          have HP := Lib.hid (show encPart ⟨f0, (m : Int), f2, f3⟩ = encS f3 by unfold encPart; rw [if_neg h3, if_neg h4])
          have hf3 : f3.length ≤ 6 := HX.out.fits.2.1
          have HS := Lib.hid (show ∀ x ∈ f3, x.f0.size ≤ 10000 ∧ x.f1.size ≤ 10000 from fun x hx => by have := HX.out.fits.2.2 x hx; omega)
          clear h3 h4
          go_wp2_with fail
          refine (wfields_own acc A3 c3 f3 HO.out HC3.out (by omega) HS.out (by omega)).mono ?_
          rintro e w4 ⟨rfl, ho⟩
          have HO := Aside0.mk ho.swap
          obtain ⟨hx0, hx1, hx2, hx3⟩ := HAT.out _ HO.out.below
          clear ho
          go_wp2_with fail
          refine (rfields_own A3 c3 f3 HO.out HC3.out (by omega) HS.out (by omega)).mono ?_
          rintro e w5 ⟨v5, rfl, ho⟩
          have HO := Aside0.mk ho.swap
          clear ho
          go_wp2
          go_roundw
          case rel => exact ⟨i + 1, _, by go_num, by omega, ⟨HE2.out⟩, ⟨HL2.out⟩, ⟨by rw [HP.out]; exact HO.out⟩⟩
          case measure => simp [intOf]; omega
    · have HEQ := Lib.hid (show acc = encL l0 by
        have := HE.out
        rw [List.drop_of_length_le (by omega)] at this
        rw [← this]
        show acc = acc ++ []
        rw [List.append_nil])
      have HLE := Lib.hid (show acc.length ≤ 1000000 by have := HL.out; omega)
      clear HE HL
      go_wp2_with fail
      refine (wbytes_own acc HO.out (by have := HLE.out; omega)).mono ?_
      rintro e w4 ⟨A4, c4, rfl, hl4, hC4, ho⟩
      obtain ⟨A5, c5, rfl, hl5, hC5⟩ := ho.rest.rest.reads
      have HO := Aside0.mk ho
      have HC4 := Lib.hid hC4
      have HC5 := Lib.hid hC5
      clear ho hC4 hC5
      go_wp2_with fail
      refine (ambryhelp_Bytes.calls A4 c4 acc A5 c5 acc true _ HC4.out hl4 HC5.out hl5 (by unfold ambryhelp_Bytes.f; rw [beq_self_eq_true])).mono ?_
      rintro e w6 ⟨rfl, hd⟩
      have HC5 := Lib.hid (Kd.C_below HC5.out hd.below)
      have HO := Aside0.mk (HO.out.drawn hd)
      clear hd HC4
      go_wp2_with fail
      refine (NewReader_own A5 c5 acc HO.out HC5.out (by rw [HEQ.out]; exact encL_8 HG.out) (by have := HLE.out; omega)).mono ?_
      rintro e w7 ⟨q, rfl, hB7, ho⟩
      have HO := Aside0.mk (show Own W w7 (star (Rd q (some (encL l0))) emp) by rw [← HEQ.out]; exact ho.swap.rest.swap.rest.swap.rest)
      clear ho hB7 HC5 HEQ
      go_wp2
      go_loopw [7] (fun v7 wr => ∃ (i : Nat), v7 = .int .i64 (i : Int) ∧ i ≤ l0.length ∧ Aside0 (Own W wr (star (Rd q (some (encL (l0.drop i)))) emp))) (fun v7 _ => l0.length - (intOf v7).toNat)
      case atStart => exact ⟨0, rfl, Nat.zero_le _, HO⟩
      case round =>
        clear HO hi hlt
        obtain ⟨i, rfl, hi, HO⟩ := hrel
        by_cases hlt : i < l0.length
        · obtain ⟨ad, f0, m, f2, f3, A2, c2, A3, c3, rfl, hd, hx, hat, hc2, hC2, hc3, hC3⟩ := part_at HR0.out HG.out i hlt
          have HX := Lib.hid hx
          have HAT := Lib.hid hat
          have HC2 := Lib.hid hC2
          have HC3 := Lib.hid hC3
          have HO := Aside0.mk (show Own W wr (star (Rd q (some (encPart ⟨f0, (m : Int), f2, f3⟩ ++ encL (l0.drop (i + 1))))) emp) by
            have := HO.out
            rw [hd] at this
            exact this)
          have hf0 : 0 ≤ f0 := hx.what.1
          have hf1 : f0 ≤ 255 := hx.what.2
          have hm64 : m < 18446744073709551616 := by have := hx.num.2; simp only at this; omega
          have hi0 : (0 : Int) ≤ (i : Int) := by omega
          have hi1 : (i : Int) < (l0.length : Int) := by omega
          have HLR := Lib.hid (show ∀ xs, some (encPart ⟨f0, (m : Int), f2, f3⟩ ++ encL (l0.drop (i + 1))) = some xs → xs.length ≤ 1000000000 from fun xs h => by
            injection h with h
            rw [← h, List.length_append]
            have := hx.len
            have := encL_len (l0.drop (i + 1)) (fun x hx => HG.out x (List.mem_of_mem_drop hx))
            rw [List.length_drop] at this
            omega)
          obtain ⟨hx0, hx1, hx2, hx3⟩ := hat _ HO.out.below
          clear hd hx hat hC2 hC3
          obtain ⟨r, hrq⟩ : ∃ r, encL (l0.drop (i + 1)) = r := ⟨_, rfl⟩
          rw [hrq] at HO HLR
          have HRQ := Lib.hid hrq
          clear hrq
          by_cases h3 : f0 % 3 = 0
          · have h30 : (f0 % 3 == 0) = true := beq_iff_eq.2 h3
            have hp : encPart ⟨f0, (m : Int), f2, f3⟩ = enc m := by unfold encPart; rw [if_pos h3]; rfl
            rw [hp] at HO HLR
            have HS := Lib.hid (numS_enc (n := m) hm64 r)
            have hnn : ((m : Int) != (m : Int)) = false := bne_self_eq_false _
            clear h3 hp
            go_wp2_with fail
            go_region_held3 (fun w' => w'.cell? ⟨(ad.add (i * 4)).block, (ad.add (i * 4)).off + 1, none⟩ = some (.int .u64 (m : Int))) (first
              | exact (HAT.out _ HO.out.drew.below).2.1
              | exact (HAT.out _ HO3.out.below).2.1) (first
              | (go_at_call 15; refine (Num_own HO.out.drew HS.out).mono ?_; rintro e w3 ⟨rfl, ho⟩; have HO3 := Aside0.mk ho; clear ho)
              | fail)
            all_goals
              go_wp2
              go_roundw
              case rel => exact ⟨i + 1, by go_num, by omega, ⟨by rw [HRQ.out]; exact HO3.out⟩⟩
              case measure => simp [intOf]; omega
          · have h30 : (f0 % 3 == 0) = false := beq_eq_false_iff_ne.2 h3
            by_cases h4 : f0 % 3 = 1
            · have h40 : (f0 % 3 == 1) = true := beq_iff_eq.2 h4
              have hp : encPart ⟨f0, (m : Int), f2, f3⟩ = encT f2 := by unfold encPart; rw [if_neg h3, if_pos h4]
              rw [hp] at HO HLR
              have hf2 : f2.length ≤ 200 := HX.out.fits.1
              have HS := Lib.hid (textS_enc (b := f2) (by omega) r)
              have T1 : True := trivial
              clear h3 h4 hp
              go_wp2_with fail
              go_region_held3 (fun w' => w'.cell? ⟨(ad.add (i * 4)).block, (ad.add (i * 4)).off + 2, none⟩ = some (.slice A2 f2.length c2)) (first
                | exact (HAT.out _ HO.out.drew.below).2.2.1
                | exact (HAT.out _ HO3.out.below).2.2.1) (first
                | (clear T1; go_at_call 19; refine (Text_own HO.out.drew HS.out HLR.out).mono ?_; rintro e w3 ⟨A3, c3, rfl, hl3, hC3, ho⟩; have HO3 := Aside0.mk ho.rest; have HCA := Lib.hid hC3; clear ho hC3)
                | (go_at_call 20; refine (ambryhelp_Bytes.calls _ _ f2 A2 c2 f2 true _ HCA.out (by assumption) (Kd.C_below HC2.out HO3.out.below) hc2 (by unfold ambryhelp_Bytes.f; rw [beq_self_eq_true])).mono ?_; rintro e w8 ⟨rfl, hd⟩; have HO3 := Aside0.mk (HO3.out.drawn hd); clear hd)
                | fail)
              all_goals
                go_wp2
                go_roundw
                case rel => exact ⟨i + 1, by go_num, by omega, ⟨by rw [HRQ.out]; exact HO3.out⟩⟩
                case measure => simp [intOf]; omega
            · have h40 : (f0 % 3 == 1) = false := beq_eq_false_iff_ne.2 h4
              have hp : encPart ⟨f0, (m : Int), f2, f3⟩ = encS f3 := by unfold encPart; rw [if_neg h3, if_neg h4]
              rw [hp] at HO HLR
              have hf3 : f3.length ≤ 6 := HX.out.fits.2.1
              have HS := Lib.hid (fieldsS_enc (fs := f3) (by omega) HX.out.fits.2.2 r)
              obtain ⟨kf, hkf⟩ := (fields_eq f3 (by omega)).rounds
              have HKF := Lib.hid hkf
              have T1 : True := trivial
              clear h3 h4 hp hkf
              go_wp2_with fail
              go_region_held3 (fun w' => w'.cell? ⟨(ad.add (i * 4)).block, (ad.add (i * 4)).off + 3, none⟩ = some (.slice A3 f3.length c3)) (first
                | exact (HAT.out _ HO.out.drew.below).2.2.2
                | exact (HAT.out _ HO3.out.below).2.2.2) (first
                | (clear T1; go_at_call 24; refine (Fields_own HO.out.drew HS.out HLR.out).mono ?_; rintro e w3 ⟨A9, c9, rfl, hl3, hC9, ho⟩; have HO3 := Aside0.mk ho.rest; have HCA := Lib.hid hC9; clear ho hC9)
                | (go_at_call 23; refine (ambryhelp_Fields.calls kf _ _ f3 A3 c3 f3 true _ HCA.out (by assumption) (Kd.C_below HC3.out HO3.out.below) hc3 HKF.out).mono ?_; rintro e w8 ⟨rfl, hd⟩; have HO3 := Aside0.mk (HO3.out.drawn hd); clear hd)
                | fail)
              all_goals
                go_wp2
                go_roundw
                case rel => exact ⟨i + 1, by go_num, by omega, ⟨by rw [HRQ.out]; exact HO3.out⟩⟩
                case measure => simp [intOf]; omega
        · have HO := Aside0.mk (show Own W wr (star (Rd q (some [])) emp) by
            have := HO.out
            rw [List.drop_of_length_le (by omega)] at this
            exact this)
          have hds : doneS (some []) = 0 := rfl
          go_wp2_with fail
          refine (Done_own HO.out).mono ?_
          rintro e w9 ⟨rfl, rfl⟩
          go_wp2
          go_ret
          exact ⟨rfl, HO.out.below⟩
end Go.Proofs.Ythbapljhhglamaa.Walk
