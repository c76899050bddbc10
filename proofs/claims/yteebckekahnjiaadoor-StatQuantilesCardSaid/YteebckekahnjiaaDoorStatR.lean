/- Counters: the document's calls. -/
import Derived.Test.YteebckekahnjiaaDoorStatM
import Derived.Test.YteebckekahnjiaaDoorGx1
set_option linter.unusedVariables false
set_option linter.unusedSimpArgs false
namespace Go.Proofs.YteebckekahnjiaaDoor.Stat
open Go.RowKit Go.Proofs.YteebckekahnjiaaDoor.G Go.Proofs.YteebckekahnjiaaDoorW.PrintWords Go.Proofs.YteebckekahnjiaaDoorW.PrintMore Go.Proofs.YteebckekahnjiaaDoor.Foot Go.Proofs.YteebckekahnjiaaDoor.StatL

set_option maxHeartbeats 2000000 in
set_option maxRecDepth 100000 in
theorem bucket_calls (n : Nat) (w : World) (hn : n ≤ 1073741824) :
    Calls Tryd.prog 22 #[.int .i64 (n : Int)] w fun e w' => e = .returned (.int .i64 (bl n : Int)) ∧ w = w' := by
  have hb := bl_le31 hn
  have HE := Lib.hid (rfl : bl n = bl n)
  go_enter Tryd.func22, Tryd.ntmps22
  go_wp2
  go_loop [0, 3] (fun v0 v3 => ∃ (m k : Nat), v0 = .int .i64 (m : Int) ∧ v3 = .int .i64 (k : Int) ∧ m ≤ 1073741824 ∧ k ≤ 31 ∧ Aside0 (k + bl m = bl n)) (fun v0 _ => (intOf v0).toNat)
  case atStart => exact ⟨n, 0, rfl, rfl, hn, by omega, ⟨Nat.zero_add _⟩⟩
  case round =>
    obtain ⟨m, k, rfl, rfl, hm, hk, HK⟩ := hrel
    by_cases h0 : 0 < m
    · have hx := Lib.hid (bl_pos h0)
      have hk2 : k + 1 ≤ 31 := by have := HK.out; rw [hx.out] at this; omega
      have hm0 : (0 : Int) < (m : Int) := by omega
      go_wp2
      go_round
      case rel => exact ⟨m / 2, k + 1, by go_num, by go_num, by omega, hk2, ⟨by rw [← HK.out, hx.out]; omega⟩⟩
      case measure => simp [intOf]; omega
    · have hm0 : m = 0 := by omega
      subst hm0
      have hx := Lib.hid (show k = bl n by have := HK.out; rw [bl_zero] at this; omega)
      go_wp2
      go_ret
      exact ⟨by rw [← hx.out]; rfl, rfl⟩
theorem bump_put {w : World} {p T : Nat} {l : List Int} (h : w.heap[p]? = some (.cells (En l) T (0, 0))) (i : Nat) (y z : Int) (hz : z = nth l i + y) : (w.setCell ⟨p, i, none⟩ (.int .i64 z)).heap[p]? = some (.cells (En (bump l i y)) T (0, 0)) := by
  rw [hz]; exact en_put h i _
set_option maxHeartbeats 4000000 in
set_option maxRecDepth 100000 in
theorem radd_calls (p n : Nat) (how status size : Int) (l : List Int) (w : World) (h : w.heap[p]? = some (OR l)) (hb : Bd n l) (hn : n ≤ 1000)
    (h1 : -9223372036854775808 ≤ status ∧ status ≤ 9223372036854775807) (h2 : -9223372036854775808 ≤ size ∧ size ≤ 9223372036854775807) :
    Calls Tryd.prog 9 #[.pointer (some ⟨p, 0, none⟩), .int .i64 how, .int .i64 status, .int .i64 size] w fun e w' => e = .returned (.tuple #[]) ∧ w'.heap[p]? = some (OR (add l how status size)) ∧ Keeps (fun k => k = p) w w' := by
  have H := Lib.hid h
  have HB := Lib.hid hb
  clear h hb
  have hsz := siz_bd size
  obtain ⟨z, hz⟩ : ∃ z, siz size = z := ⟨_, rfl⟩
  rw [hz] at hsz
  have HZ := Lib.hid hz
  obtain ⟨hz0, hz1⟩ := hsz
  obtain ⟨hs0, hs1⟩ := h1
  clear hz
  go_enter Tryd.func9, Tryd.ntmps9
  go_upto_region 0 with (fail)
  go_cut [14] (fun v14 wc => ∃ b : Bool, v14 = .bool b ∧ Aside0 (b = decide (0 ≤ how ∧ how < 6)) ∧ Aside0 (w = wc))
  case first =>
    by_cases hh0 : 0 ≤ how <;> by_cases hh6 : how < 6
    all_goals
      go_wp2_with fail
      go_meet
      exact ⟨_, rfl, ⟨by simp [hh0, hh6]⟩, ⟨rfl⟩⟩
  case rest =>
    obtain ⟨b, rfl, HD, ⟨rfl⟩⟩ := hcut
    go_upto_if 14 with (fail)
    go_cut [] (fun wc => Aside0 (wc.heap[p]? = some (OR (add1 l how))) ∧ Aside0 (Keeps (fun k => k = p) w wc))
    case first =>
      cases b with
      | true =>
        have hh : 0 ≤ how ∧ how < 6 := of_decide_eq_true HD.out.symm
        have HE := Lib.hid (show add1 l how = bump l how.toNat 1 by unfold add1; rw [if_pos hh])
        obtain ⟨hh0, hh6⟩ := hh
        obtain ⟨i, rfl⟩ : ∃ i : Nat, how = (i : Int) := ⟨how.toNat, by omega⟩
        rw [Int.toNat_natCast] at HE
        have hlo := HB.out.lo i (by omega)
        have hlen := HB.out.len
        have H2 := Aside0.mk (show w.drew.heap[p]? = _ from H.out)
        have K2 := Aside0.mk (Keeps.refl (fun k => k = p) w).drew
        have hc := en_at H2.out i (by omega)
        have hz := en_free H2.out i
        have hx0 : 0 ≤ nth l i := hlo.1
        have hx1 : nth l i ≤ n := hlo.2
        generalize hx : nth l i = x at hc hx0 hx1
        have HX := Lib.hid hx
        clear hx hlo
        go_wp2_with fail
        go_still_tail 10, (by kernel_rfl)
        change wpList _ _ _ _ _ w.drew
        generalize w.drew = w4 at H2 K2 hc hz ⊢
        go_wp2
        go_meet
        refine ⟨⟨?_⟩, ⟨K2.out.setCell (.inl rfl) _⟩⟩
        rw [HE.out]
        exact bump_put H2.out _ _ _ (by rw [HX.out])
      | false =>
        have HE := Lib.hid (show add1 l how = l by unfold add1; rw [if_neg (of_decide_eq_false HD.out.symm)])
        go_wp2_with fail
        go_meet
        exact ⟨⟨by rw [HE.out]; exact H.out⟩, ⟨Keeps.refl _ _⟩⟩
    case rest =>
      obtain ⟨H1, K1⟩ := hcut
      clear HD
      rename World => w1
      obtain ⟨c, hc⟩ : ∃ c, status.tdiv 100 = c := ⟨_, rfl⟩
      have hcb : -92233720368547759 ≤ c ∧ c ≤ 92233720368547759 := by rw [← hc]; exact tdiv_bd hs0 hs1
      have HC := Lib.hid hc
      obtain ⟨hc0, hc1⟩ := hcb
      have HB1 := Lib.hid (add1_at l how 44 HB.out.len)
      go_upto_region 3 with (fail)
      clear hc
      go_cut [8, 32] (fun v8 v32 wc => ∃ b : Bool, v8 = .int .i64 c ∧ v32 = .bool b ∧ Aside0 (b = decide (1 ≤ c ∧ c ≤ 5)) ∧ Aside0 (w1 = wc))
      case first =>
        by_cases hh0 : 1 ≤ c <;> by_cases hh6 : c ≤ 5
        all_goals
          go_wp2_with fail
          go_meet
          exact ⟨_, rfl, rfl, ⟨by simp [hh0, hh6]⟩, ⟨rfl⟩⟩
      case rest =>
        obtain ⟨b, rfl, rfl, HD, ⟨rfl⟩⟩ := hcut
        go_upto_if 32 with (fail)
        go_cut [] (fun wc => Aside0 (wc.heap[p]? = some (OR (add2 (add1 l how) status))) ∧ Aside0 (Keeps (fun k => k = p) w wc))
        case first =>
          cases b with
          | true =>
            have hh : 1 ≤ c ∧ c ≤ 5 := of_decide_eq_true HD.out.symm
            have HE := Lib.hid (show add2 (add1 l how) status = bump (add1 l how) (6 + c.toNat) 1 by unfold add2; rw [HC.out, if_pos hh])
            obtain ⟨hh0, hh6⟩ := hh
            obtain ⟨i, rfl⟩ : ∃ i : Nat, c = (i : Int) := ⟨c.toNat, by omega⟩
            rw [Int.toNat_natCast] at HE
            have hq0 : (0 : Int) ≤ (i : Int) := by omega
            have hq1 : (i : Int) < 6 := by omega
            have hlo := HB.out.lo (6 + i) (by omega)
            have hat := (add1_at l how (6 + i) HB.out.len).2
            have H2 := Aside0.mk (show w1.drew.heap[p]? = _ from H1.out)
            have K2 := Aside0.mk K1.out.drew
            have hc := en_at H2.out (6 + i) (by rw [HB1.out.1]; omega)
            have hz := en_free H2.out (6 + i)
            have hx01 : 0 ≤ nth (add1 l how) (6 + i) ∧ nth (add1 l how) (6 + i) ≤ n + 1 := by unfold nth; omega
            obtain ⟨hx0, hx1⟩ := hx01
            generalize hx : nth (add1 l how) (6 + i) = x at hc hx0 hx1
            have HX := Lib.hid hx
            clear hx hlo hat
            go_wp2_with fail
            go_still_tail 10, (by kernel_rfl)
            change wpList _ _ _ _ _ w1.drew
            generalize w1.drew = w4 at H2 K2 hc hz ⊢
            go_wp2
            go_meet
            refine ⟨⟨?_⟩, ⟨K2.out.setCell (.inl rfl) _⟩⟩
            rw [HE.out]
            exact bump_put H2.out _ _ _ (by rw [HX.out])
          | false =>
            have HE := Lib.hid (show add2 (add1 l how) status = add1 l how by unfold add2; rw [HC.out, if_neg (of_decide_eq_false HD.out.symm)])
            go_wp2_with fail
            go_meet
            exact ⟨⟨by rw [HE.out]; exact H1.out⟩, K1⟩
        case rest =>
          obtain ⟨H2, K2⟩ := hcut
          clear HD H1 K1 HC hc0 hc1
          rename World => w2
          have HL2 := Lib.hid (add2_at (add1 l how) status 44 HB1.out.1)
          have h44 : 0 ≤ nth (add2 (add1 l how) status) 44 ∧ nth (add2 (add1 l how) status) 44 ≤ 1000 * 1073741824 := by
            have h1 := HB1.out.2
            have h2 := HL2.out.2
            have h3 := HB.out.all
            unfold nth
            omega
          have HX := Lib.hid (show add l how status size = bump (bump (add2 (add1 l how) status) 44 z) (12 + bl z.toNat) 1 by unfold add add3; rw [HZ.out])
          have HY := Lib.hid (fun j (hj : j < 44) => show 0 ≤ nth (add2 (add1 l how) status) j ∧ nth (add2 (add1 l how) status) j ≤ 1001 by
            have h1 := (add1_at l how j HB.out.len).2
            have h2 := (add2_at (add1 l how) status j HB1.out.1).2
            have h3 := HB.out.lo j hj
            unfold nth
            omega)
          go_upto_region 5 with (fail)
          go_cut [3] (fun v3 wc => v3 = .int .i64 z ∧ Aside0 (w2 = wc))
          case first =>
            go_wp2_with fail
            all_goals
              go_meet
              exact ⟨by rw [← HZ.out]; unfold siz; first | rfl | (congr 1; omega), ⟨rfl⟩⟩
          case rest =>
            obtain ⟨rfl, ⟨rfl⟩⟩ := hcut
            have hc := en_at H2.out 44 (by rw [HL2.out.1]; omega)
            have hz := en_free H2.out 44
            obtain ⟨hx0, hx1⟩ := h44
            have HL3 := Lib.hid (show (bump (add2 (add1 l how) status) 44 z).length = 45 by rw [bump_length, HL2.out.1])
            generalize hx : nth (add2 (add1 l how) status) 44 = x at hc hx0 hx1
            have HXX := Lib.hid hx
            clear hx
            go_wp2_with fail
            have H3 := Aside0.mk (bump_put H2.out 44 z (x + z) (by rw [HXX.out]))
            have K3 := Aside0.mk (K2.out.setCell (p := ⟨p, 44, none⟩) (.inl rfl) (.int .i64 (x + z)))
            generalize w2.setCell ⟨p, 44, none⟩ (.int .i64 (x + z)) = w3 at H3 K3 ⊢
            clear hc hz H2 K2
            obtain ⟨m, rfl⟩ : ∃ m : Nat, z = (m : Int) := ⟨z.toNat, by omega⟩
            have h31 : bl m ≤ 31 := bl_le31 (by omega)
            have hlc := fun w => bucket_calls m w (by omega)
            rw [Int.toNat_natCast] at HX
            have hx3 : 0 ≤ nth (bump (add2 (add1 l how) status) 44 (m : Int)) (12 + bl m) ∧ nth (bump (add2 (add1 l how) status) 44 (m : Int)) (12 + bl m) ≤ 1001 := by
              have h1 := HY.out (12 + bl m) (by omega)
              have h2 := getD_bump (add2 (add1 l how) status) 44 (m : Int) (12 + bl m) (by rw [HL2.out.1]; omega)
              rw [if_neg (by omega)] at h2
              unfold nth at h1 ⊢
              omega
            generalize bl m = bz at h31 hlc HX hx3
            obtain ⟨hy0, hy1⟩ := hx3
            have hb0 : (0 : Int) ≤ (bz : Int) := by omega
            have hb1 : (bz : Int) < 32 := by omega
            have H4 := Aside0.mk (show w3.drew.heap[p]? = _ from H3.out)
            have K4 := Aside0.mk K3.out.drew
            have hc := en_at H4.out (12 + bz) (by rw [HL3.out]; omega)
            have hz := en_free H4.out (12 + bz)
            generalize hx : nth (bump (add2 (add1 l how) status) 44 (m : Int)) (12 + bz) = y at hc hy0 hy1
            have HXY := Lib.hid hx
            clear hx
            go_still_tail 11, (by kernel_rfl)
            still_call ((hlc _).mono fun e w' ⟨he, hw⟩ => ⟨he, hw.symm⟩)
            repeat still_step
            refine wpStill_nil ?_
            change wpList _ _ _ _ _ w3.drew
            generalize w3.drew = w4 at H4 K4 hc hz ⊢
            go_wp2
            go_end0
            refine ⟨rfl, ?_, K4.out.setCell (.inl rfl) _⟩
            rw [HX.out]
            exact bump_put H4.out _ _ _ (by rw [HXY.out])
end Go.Proofs.YteebckekahnjiaaDoor.Stat
