/- Counters: the sizes, told in a row; below which size so many were. -/
import Derived.Test.YteebckekahnjiaaDoorStatW
import Derived.Test.YteebckekahnjiaaDoorPlainA
set_option linter.unusedVariables false
set_option linter.unusedSimpArgs false
namespace Go.Proofs.YteebckekahnjiaaDoor.Stat
open Go.RowKit Go.Proofs.YteebckekahnjiaaDoor.G Go.Proofs.YteebckekahnjiaaDoorW.PrintWords Go.Proofs.YteebckekahnjiaaDoorW.PrintMore Go.Proofs.YteebckekahnjiaaDoor.Foot Go.Proofs.YteebckekahnjiaaDoor.StatL

theorem infoI64 : (Tryd.prog.info? 2).map (fun i => (i.zero, i.size, i.bytes)) = some (some (.int .i64 0), 1, 8) := by kernel_rfl
theorem take_next (l : List Int) (i : Nat) (hi : i < l.length) : l.take (i + 1) = l.take i ++ [nth l i] := by
  rw [List.take_succ_eq_append_getElem hi]
  unfold nth
  rw [List.getD_eq_getElem?_getD, List.getElem?_eq_getElem hi]
  rfl
theorem sizes_nth {l : List Int} (i : Nat) (hi : i < 32) : nth (sizes l) i = nth l (12 + i) := sizes_at i hi
set_option maxHeartbeats 2000000 in
set_option maxRecDepth 100000 in
theorem sizes_calls (p : Nat) (l : List Int) (w : World) (h : w.heap[p]? = some (OS l)) (hl : l.length = 45) :
    Calls Tryd.prog 15 #[.pointer (some ⟨p, 0, none⟩)] w fun e w' => ∃ v, e = .returned v ∧ Kd.R (Kd.int .i64) 2 w' w.heap.size (fun _ => True) v (sizes l) ∧ Below w.heap.size w w' := by
  have H := Lib.hid h
  have HL := Lib.hid hl
  have hp := blk_lt h
  clear h hl
  go_enter Tryd.func15, Tryd.ntmps15
  go_wp2
  go_loopw [3, 5] (fun v3 v5 wr => ∃ i : Nat, v5 = .int .i64 (i : Int) ∧ i ≤ 32 ∧ Aside0 (Kd.R (Kd.int .i64) 2 wr w.heap.size (fun _ => True) v3 ((sizes l).take i)) ∧ Aside0 (Below w.heap.size w wr)) (fun _ v5 _ => 32 - (intOf v5).toNat)
  case atStart => exact ⟨0, rfl, Nat.zero_le _, ⟨Kd.R_nil _ _ _ _ _⟩, ⟨Below.refl _ _⟩⟩
  case round =>
    obtain ⟨i, rfl, hi, HR, HB⟩ := hrel
    by_cases hlt : i < 32
    · have hi0 : (0 : Int) ≤ (i : Int) := by omega
      have hi1 : (i : Int) < 32 := by omega
      have HH := Lib.hid ((HB.out.block p hp).trans H.out)
      have HT := Lib.hid (show (sizes l).take (i + 1) = (sizes l).take i ++ [nth l (12 + i)] by rw [take_next _ _ (by rw [sizes_length HL.out]; exact hlt), sizes_nth _ hlt])
      have HN := Lib.hid (show ((sizes l).take i).length ≤ 32 by rw [List.length_take]; omega)
      obtain ⟨q, hq⟩ : ∃ q, (sizes l).take i = q := ⟨_, rfl⟩
      rw [hq] at HR HT HN
      clear hq
      obtain ⟨A3, c3, rfl⟩ := Kd.R_slice HR.out
      go_wp2_with fail
      refine (loadAt p _ _ l _ HH.out (by rw [HL.out]; omega)).mono ?_
      rintro e w1 ⟨rfl, rfl⟩
      go_wp2_with (first
        | ((with_reducible refine gate_builtin (b := .append) (xs := #[.tmp 8, .tmp 15]) rfl ?_); at_builtin; go_must (refine Kd.R_append (Kd.int .i64) (w0 := w) w.heap.size rfl (.tmp 8) (.tmp 15) 43 2 (.int .i64 0) 8 rfl Tryd.underlying43 infoI64 rfl (by decide) (by decide) (.slice A3 q.length c3) q _ [.int .i64 _] (fun _ => True) (fun _ => False) rfl rfl rfl (fun _ hk => hk.elim) (fun _ _ => trivial) HR.out HB.out HB.out.size ?aL ?_); (case aL => have := HN.out; omega); intro v' w3 ho hb hg hat; have HR3 := Aside0.mk ho; have HB3 := Aside0.mk hb; clear ho hb hg hat)
        | fail)
      go_roundw
      case rel => exact ⟨i + 1, by go_num, by omega, ⟨by rw [HT.out]; exact HR3.out⟩, HB3⟩
      case measure => simp [intOf]; omega
    · have hi32 : i = 32 := by omega
      subst hi32
      have HE := Lib.hid (show (sizes l).take 32 = sizes l from List.take_of_length_le (by rw [sizes_length HL.out]; exact Nat.le_refl _))
      rw [HE.out] at HR
      obtain ⟨A3, c3, rfl⟩ := Kd.R_slice HR.out
      go_wp2
      go_ret
      exact ⟨_, rfl, HR.out, HB.out⟩
def qrel (w w' : World) (e : Ending) (x : Int) : Prop := e = .returned (.int .i64 x) ∧ Below w.heap.size w w'
theorem sm_take (l : List Int) (i : Nat) (hi : i < l.length) : sm (l.take (i + 1)) = sm (l.take i) + nth l i := by
  rw [take_next _ _ hi, sm_append]; simp [sm]
theorem nth_bd {n : Nat} {l : List Int} (h : ∀ x ∈ l, 0 ≤ x ∧ x ≤ n) (i : Nat) (hi : i < l.length) : 0 ≤ nth l i ∧ nth l i ≤ n := by
  unfold nth
  rw [List.getD_eq_getElem?_getD, List.getElem?_eq_getElem hi]
  exact h _ (List.getElem_mem hi)
theorem quantGo_drop (l : List Int) (i : Nat) (w : Int) (hi : i < l.length) : quantGo (l.drop i) i w = if w - nth l i ≤ 0 then 2 ^ i - 1 else quantGo (l.drop (i + 1)) (i + 1) (w - nth l i) := by
  rw [List.drop_eq_getElem_cons hi, quantGo]
  unfold nth
  rw [List.getD_eq_getElem?_getD, List.getElem?_eq_getElem hi]
  rfl
theorem pow31 (i : Nat) (hi : i < 32) : (1 : Int) ≤ 2 ^ i ∧ (2 : Int) ^ i ≤ 2147483648 := by
  have h1 := pow_le (i := 0) (j := i) (by omega)
  have h2 := pow_le (i := i) (j := 31) (by omega)
  simpa using ⟨h1, h2⟩
theorem rd_nth (l : List Int) (i : Nat) : rd l (i : Int) = nth l i := rfl
set_option maxHeartbeats 4000000 in
set_option maxRecDepth 100000 in
theorem quant_calls (p n : Nat) (per : Int) (l : List Int) (w : World) (h : w.heap[p]? = some (OS l)) (hb : Bd n l) (hn : n ≤ 1000) :
    Calls Tryd.prog 11 #[.pointer (some ⟨p, 0, none⟩), .int .i64 per] w fun e w' => qrel w w' e (quant l per) := by
  have H := Lib.hid h
  have HB := Lib.hid hb
  have HL := Lib.hid hb.len
  have hp := blk_lt h
  obtain ⟨c, hc⟩ : ∃ c, clamp per = c := ⟨_, rfl⟩
  have hc01 : 0 ≤ c ∧ c ≤ 100 := by rw [← hc]; unfold clamp; omega
  obtain ⟨hc0, hc1⟩ := hc01
  have HC := Lib.hid hc
  clear h hb hc
  go_enter Tryd.func11, Tryd.ntmps11
  go_upto_region 1 with (fail)
  go_cut [1] (fun v1 wc => v1 = .int .i64 c ∧ Aside0 (w = wc))
  case first =>
    go_wp2_with fail
    all_goals
      go_meet
      exact ⟨by rw [← HC.out]; unfold clamp; first | rfl | (congr 1; omega), ⟨rfl⟩⟩
  case rest =>
    obtain ⟨rfl, ⟨rfl⟩⟩ := hcut
    go_wp2_with fail
    refine (sizes_calls p l _ H.out HL.out).mono ?_
    rintro e w1 ⟨v, rfl, hR, hB⟩
    obtain ⟨A, cp, rfl, hlc, hC⟩ := Kd.R_reads hR
    have HS := Lib.hid (sizes_bd HB.out)
    have hlen := sizes_length HL.out
    obtain ⟨xs, hxs⟩ : ∃ xs, sizes l = xs := ⟨_, rfl⟩
    rw [hxs] at hR hC HS hlen hlc ⊢
    have HX := Lib.hid hxs
    have HC1 := Lib.hid hC
    have HB1 := Lib.hid hB
    have HN := Lib.hid hlen
    rw [hlen]
    clear hxs hC hB hR hlen
    go_wp2
    go_loop [6, 19] (fun v6 v19 => ∃ i : Nat, v19 = .int .i64 (i : Int) ∧ i ≤ 32 ∧ v6 = .int .i64 (sm (xs.take i))) (fun _ v19 => 32 - (intOf v19).toNat)
    case atStart => exact ⟨0, rfl, Nat.zero_le _, rfl⟩
    case round =>
      obtain ⟨i, rfl, hi, rfl⟩ := hrel
      have hsb := sm_bd (n := n) (xs.take i) (fun x hx => HS.out x (List.mem_of_mem_take hx))
      have hsl : (((xs.take i).length : Nat) : Int) * n ≤ 32 * n := Int.mul_le_mul_of_nonneg_right (by rw [List.length_take]; omega) (by omega)
      have hs0 := hsb.1
      have hs1 : sm (xs.take i) ≤ 32000 := by have := hsb.2; omega
      clear hsb hsl
      by_cases hlt : i < 32
      · have hi0 : (0 : Int) ≤ (i : Int) := by omega
        have hi1 : (i : Int) < 32 := by omega
        obtain ⟨ad, hA, hcell⟩ := Kd.at_int HC1.out (i : Int) hi0 (by rw [HN.out]; omega)
        rw [rd_nth, Int.toNat_natCast] at hcell
        have hnb := nth_bd HS.out i (by rw [HN.out]; exact hlt)
        obtain ⟨hn0, hn1⟩ := hnb
        have HT := Lib.hid (sm_take xs i (by rw [HN.out]; exact hlt))
        subst hA
        go_wp2
        go_round
        case rel => exact ⟨i + 1, by go_num, by omega, by rw [HT.out]⟩
        case measure => simp [intOf]; omega
      · have hi32 : i = 32 := by omega
        subst hi32
        have HE := Lib.hid (show xs.take 32 = xs from List.take_of_length_le (by rw [HN.out]; exact Nat.le_refl _))
        rw [HE.out] at hs0 hs1 ⊢
        obtain ⟨t, ht⟩ : ∃ t, sm xs = t := ⟨_, rfl⟩
        have HQ := Lib.hid (show quant l per = quantGo xs 0 (want t per) by rw [← ht, ← HX.out]; rfl)
        rw [ht] at hs0 hs1 ⊢
        clear ht HE
        have hm0 : 0 ≤ t * c := Int.mul_nonneg hs0 hc0
        have hm1 : t * c ≤ 3200000 := by
          have h1 : t * c ≤ t * 100 := Int.mul_le_mul_of_nonneg_left hc1 hs0
          omega
        go_upto_region 8 with (fail)
        go_cut [9] (fun v9 wc => v9 = .int .i64 (want t per) ∧ Aside0 (w1 = wc))
        case first =>
          have HW := Lib.hid (show want t per = max ((t * c + 99) / 100) 1 by unfold want; rw [HC.out])
          obtain ⟨m, hm⟩ : ∃ m, t * c = m := ⟨_, rfl⟩
          rw [hm] at HW hm0 hm1
          go_wp2_with fail
          all_goals
            go_meet
            exact ⟨by rw [HW.out]; first | rfl | (congr 1; omega), ⟨rfl⟩⟩
        case rest =>
          obtain ⟨rfl, ⟨rfl⟩⟩ := hcut
          obtain ⟨wt, hwt⟩ : ∃ wt, want t per = wt := ⟨_, rfl⟩
          have hwb : 0 ≤ wt ∧ wt ≤ 40000 := by rw [← hwt]; unfold want; rw [HC.out]; omega
          obtain ⟨hw0, hw1⟩ := hwb
          rw [hwt] at HQ ⊢
          clear hwt hm0 hm1 hs0 hs1
          go_wp2
          go_loop [9, 36] (fun v9 v36 => ∃ (i : Nat) (z : Int), v36 = .int .i64 (i : Int) ∧ i ≤ 32 ∧ v9 = .int .i64 z ∧ -1000 ≤ z ∧ z ≤ 40000 ∧ Aside0 (quantGo (xs.drop i) i z = quant l per)) (fun _ v36 => 32 - (intOf v36).toNat)
          case atStart => exact ⟨0, wt, rfl, Nat.zero_le _, rfl, by omega, by omega, ⟨HQ.out.symm⟩⟩
          case round =>
            obtain ⟨i, z, rfl, hi, rfl, hz0, hz1, HG⟩ := hrel
            by_cases hlt : i < 32
            · have hi0 : (0 : Int) ≤ (i : Int) := by omega
              have hi1 : (i : Int) < 32 := by omega
              obtain ⟨ad, hA, hcell⟩ := Kd.at_int HC1.out (i : Int) hi0 (by rw [HN.out]; omega)
              rw [rd_nth, Int.toNat_natCast] at hcell
              have hnb := nth_bd HS.out i (by rw [HN.out]; exact hlt)
              obtain ⟨hn0, hn1⟩ := hnb
              have hgd := quantGo_drop xs i z (by rw [HN.out]; exact hlt)
              generalize nth xs i = x at hcell hn0 hn1 hgd
              have HGD := Lib.hid (HG.out.symm.trans hgd)
              have hpw := pow31 i hlt
              obtain ⟨hp0, hp1⟩ := hpw
              subst hA
              clear hgd HG
              by_cases hle : z - x ≤ 0
              · have HV := Lib.hid (show quant l per = 2 ^ i - 1 by rw [HGD.out, if_pos hle])
                go_wp2
                go_ret
                exact ⟨by rw [HV.out]; rfl, HB1.out⟩
              · have HV := Lib.hid (show quantGo (xs.drop (i + 1)) (i + 1) (z - x) = quant l per by rw [HGD.out, if_neg hle])
                go_wp2
                go_round
                case rel => exact ⟨i + 1, z - x, by go_num, by omega, rfl, by omega, by omega, ⟨HV.out⟩⟩
                case measure => simp [intOf]; omega
            · have hi32 : i = 32 := by omega
              subst hi32
              have HE := Lib.hid (show quant l per = 0 by rw [← HG.out, List.drop_eq_nil_of_le (by rw [HN.out]; exact Nat.le_refl _)]; rfl)
              go_wp2
              go_ret
              exact ⟨by rw [HE.out]; rfl, HB1.out⟩
end Go.Proofs.YteebckekahnjiaaDoor.Stat
