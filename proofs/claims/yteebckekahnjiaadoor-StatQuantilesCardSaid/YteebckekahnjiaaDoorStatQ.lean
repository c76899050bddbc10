/- Counters: below which size so many were, as the document says. -/
import Derived.Test.YteebckekahnjiaaDoorStatR
set_option linter.unusedVariables false
set_option linter.unusedSimpArgs false
namespace Go.Proofs.YteebckekahnjiaaDoor.Stat
open Go.RowKit Go.Proofs.YteebckekahnjiaaDoor.G Go.Proofs.YteebckekahnjiaaDoorW.PrintWords Go.Proofs.YteebckekahnjiaaDoorW.PrintMore Go.Proofs.YteebckekahnjiaaDoor.Foot Go.Proofs.YteebckekahnjiaaDoor.StatL
set_option maxHeartbeats 4000000 in
set_option maxRecDepth 100000 in
theorem rquant_calls (p n : Nat) (per : Int) (l : List Int) (w : World) (h : w.heap[p]? = some (OR l)) (hb : Bd n l) (hn : n ≤ 1000) :
    Calls Tryd.prog 12 #[.pointer (some ⟨p, 0, none⟩), .int .i64 per] w fun e w' => e = .returned (.int .i64 (quant l per)) ∧ w = w' := by
  have H := Lib.hid h
  have HB := Lib.hid hb
  have HL := Lib.hid hb.len
  have HS := Lib.hid (sizes_bd hb)
  have hlen := sizes_length hb.len
  have hnt := fun i (hi : i < 32) => sizes_nth (l := l) i hi
  obtain ⟨xs, hxs⟩ : ∃ xs, sizes l = xs := ⟨_, rfl⟩
  rw [hxs] at HS hlen hnt
  have HQ0 := Lib.hid (fun hz => show quant l per = 0 from quant_nought hb (by rw [hxs]; exact hz) per)
  have HQ1 := Lib.hid (show quant l per = quantGo xs 0 (want (sm xs) per) by rw [← hxs]; rfl)
  have HNT := Lib.hid hnt
  have HN := Lib.hid hlen
  obtain ⟨c, hc⟩ : ∃ c, clamp per = c := ⟨_, rfl⟩
  have hc01 : 0 ≤ c ∧ c ≤ 100 := by rw [← hc]; unfold clamp; omega
  obtain ⟨hc0, hc1⟩ := hc01
  have HC := Lib.hid hc
  clear h hb hc hxs hnt hlen
  go_enter Tryd.func12, Tryd.ntmps12
  go_wp2
  go_loop [5, 6] (fun v5 v6 => ∃ i : Nat, v6 = .int .i64 (i : Int) ∧ i ≤ 32 ∧ v5 = .int .i64 (sm (xs.take i))) (fun _ v6 => 32 - (intOf v6).toNat)
  case atStart => exact ⟨0, rfl, Nat.zero_le _, rfl⟩
  case round =>
    obtain ⟨i, rfl, hi, rfl⟩ := hrel
    have hsb := sm_bd (n := n) (xs.take i) (fun x hx => HS.out x (List.mem_of_mem_take hx))
    have hsl : (((xs.take i).length : Nat) : Int) * n ≤ 32 * n := Int.mul_le_mul_of_nonneg_right (by rw [List.length_take]; omega) (by omega)
    have hs0 := hsb.1
    have hs1 : sm (xs.take i) ≤ 32000 := by have := hsb.2; omega
    clear hsb hsl
    by_cases hlt : i < 32
    · have hi0 : (0 : Int) ≤ (i : Int) := by omega
      have hi1 : (i : Int) < 32 := by omega
      have hcell := en_at H.out (12 + i) (by rw [HL.out]; omega)
      rw [← HNT.out i hlt] at hcell
      have hnb := nth_bd HS.out i (by rw [HN.out]; exact hlt)
      obtain ⟨hn0, hn1⟩ := hnb
      have HT := Lib.hid (sm_take xs i (by rw [HN.out]; exact hlt))
      go_wp2
      go_round
      case rel => exact ⟨i + 1, by go_num, by omega, by rw [HT.out]⟩
      case measure => simp [intOf]; omega
    · have hi32 : i = 32 := by omega
      have hic : ((i : Nat) : Int) = 32 := by omega
      rw [hic]
      have HE := Lib.hid (show xs.take i = xs from List.take_of_length_le (by rw [HN.out]; omega))
      rw [HE.out] at hs0 hs1 ⊢
      clear hic hi hlt hi32 HE
      obtain ⟨t, ht⟩ : ∃ t, sm xs = t := ⟨_, rfl⟩
      rw [ht] at hs0 hs1 HQ0 HQ1 ⊢
      clear ht
      by_cases ht0 : t = 0
      · have HE := Lib.hid (HQ0.out ht0)
        have ht0b : (t == 0) = true := beq_iff_eq.2 ht0
        clear ht0
        go_wp2
        go_ret
        exact ⟨by rw [HE.out]; rfl, rfl⟩
      · have ht0b : (t == 0) = false := beq_eq_false_iff_ne.2 ht0
        clear ht0
        have hm0 : 0 ≤ c * t := Int.mul_nonneg hc0 hs0
        have hm1 : c * t ≤ 3200000 := by
          have h1 : c * t ≤ 100 * t := Int.mul_le_mul_of_nonneg_right hc1 hs0
          omega
        go_upto_region 8 with (fail)
        go_cut [1] (fun v1 wc => v1 = .int .i64 c ∧ Aside0 (w = wc))
        case first =>
          go_wp2_with fail
          all_goals
            go_meet
            exact ⟨by rw [← HC.out]; unfold clamp; first | rfl | (congr 1; omega), ⟨rfl⟩⟩
        case rest =>
          obtain ⟨rfl, ⟨rfl⟩⟩ := hcut
          go_upto_region 9 with (fail)
          go_cut [7] (fun v7 wc => v7 = .int .i64 (want t per) ∧ Aside0 (w = wc))
          case first =>
            have HW := Lib.hid (show want t per = max ((c * t + 99) / 100) 1 by unfold want; rw [HC.out, Int.mul_comm])
            obtain ⟨m, hm⟩ : ∃ m, c * t = m := ⟨_, rfl⟩
            rw [hm] at HW hm0 hm1
            go_wp2_with fail
            all_goals
              go_meet
              exact ⟨by rw [HW.out]; try (first | rfl | (congr 1; omega)), ⟨rfl⟩⟩
          case rest =>
            obtain ⟨rfl, ⟨rfl⟩⟩ := hcut
            obtain ⟨wt, hwt⟩ : ∃ wt, want t per = wt := ⟨_, rfl⟩
            have hwb : 0 ≤ wt ∧ wt ≤ 40000 := by rw [← hwt]; unfold want; rw [HC.out, Int.mul_comm]; omega
            obtain ⟨hw0, hw1⟩ := hwb
            rw [hwt] at HQ1 ⊢
            clear hwt hm0 hm1 hs0 hs1
            go_wp2
            go_loop [8, 9] (fun v8 v9 => ∃ (i : Nat) (z : Int), v9 = .int .i64 (i : Int) ∧ i ≤ 32 ∧ v8 = .int .i64 z ∧ 0 ≤ z ∧ z ≤ 32 * 1000 ∧ Aside0 (z ≤ i * 1000) ∧ Aside0 (quantGo (xs.drop i) i (wt - z) = quant l per)) (fun _ v9 => 32 - (intOf v9).toNat)
            case atStart => exact ⟨0, 0, rfl, Nat.zero_le _, rfl, by omega, by omega, ⟨by omega⟩, ⟨by rw [HQ1.out, Int.sub_zero, List.drop_zero]⟩⟩
            case round =>
              obtain ⟨i, z, rfl, hi, rfl, hz0, hz1, HZ, HG⟩ := hrel
              by_cases hlt : i < 32
              · have hi0 : (0 : Int) ≤ (i : Int) := by omega
                have hi1 : (i : Int) < 32 := by omega
                have hcell := en_at H.out (12 + i) (by rw [HL.out]; omega)
                rw [← HNT.out i hlt] at hcell
                have hnb := nth_bd HS.out i (by rw [HN.out]; exact hlt)
                obtain ⟨hn0, hn1⟩ := hnb
                have hgd := quantGo_drop xs i (wt - z) (by rw [HN.out]; exact hlt)
                generalize nth xs i = x at hcell hn0 hn1 hgd
                have HGD := Lib.hid (HG.out.symm.trans hgd)
                have hpw := pow31 i hlt
                obtain ⟨hp0, hp1⟩ := hpw
                have hzx : z + x ≤ 32 * 1000 ∧ z + x ≤ (i + 1 : Nat) * 1000 := by have := HZ.out; omega
                obtain ⟨hzx0, hzx1⟩ := hzx
                have HZX := Lib.hid hzx1
                clear hgd HG hzx1
                by_cases hle : wt ≤ z + x
                · have HV := Lib.hid (show quant l per = 2 ^ i - 1 by rw [HGD.out, if_pos (by omega)])
                  go_wp2
                  go_ret
                  exact ⟨by rw [HV.out]; rfl, rfl⟩
                · have HV := Lib.hid (show quantGo (xs.drop (i + 1)) (i + 1) (wt - (z + x)) = quant l per by rw [HGD.out, if_neg (by omega)]; congr 1; omega)
                  go_wp2
                  go_round
                  case rel => exact ⟨i + 1, z + x, by go_num, by omega, rfl, by omega, by omega, ⟨HZX.out⟩, ⟨HV.out⟩⟩
                  case measure => simp [intOf]; omega
              · have hi32 : i = 32 := by omega
                subst hi32
                have HE := Lib.hid (show quant l per = 0 by rw [← HG.out, List.drop_eq_nil_of_le (by rw [HN.out]; exact Nat.le_refl _)]; rfl)
                go_wp2
                go_ret
                exact ⟨by rw [HE.out]; rfl, rfl⟩
end Go.Proofs.YteebckekahnjiaaDoor.Stat
