/- The contract of CtrlCase: capitals say nothing. -/
import Derived.Test.YtdgimhaghhjdcaaDoorCtrlCF
import Derived.Test.YtdgimhaghhjdcaaDoorOrdE
import Derived.Deep.DeepMust
set_option linter.unusedVariables false
set_option linter.unusedSimpArgs false
namespace Go.Proofs.YtdgimhaghhjdcaaDoor.Walk
open Go.RowKit Go.Proofs.YtdgimhaghhjdcaaDoor.G Go.Proofs.YtdgimhaghhjdcaaDoorW.PrintWords Go.Proofs.YtdgimhaghhjdcaaDoorW.PrintMore Go.Proofs.YtdgimhaghhjdcaaDoor.Foot Go.Proofs.YtdgimhaghhjdcaaDoor.Ctrl
theorem byte_at {w : World} {A : Option Addr} {n : Nat} {xs : List Int} (h : Kd.C (Kd.int .u8) w A n xs) (i : Nat) (hi : i < n) : ∃ ad, A = some ad ∧ w.cell? (ad.add i) = some (.int .u8 (xs.getD i 0)) := by
  obtain ⟨ad, c, e, _, hK, hc⟩ := Kd.C_get h 0 (i : Int) (by omega) (by omega)
  have hk : c = [.int .u8 (xs.getD (i : Int).toNat 0)] := hK
  subst hk
  refine ⟨ad, e, ?_⟩
  have := hc 0 _ rfl
  simpa [Kd.int, Kd.scalar] using this
/-- One bit, eight bits, all bytes. -/
theorem pragma_field (w : World) : (Instr.field 23 (.agg #[.bool false, .bool true, .bool false, .bool false, .bool false, .bool false, .bool false, .bool false, .int .i64 (-1), .int .i64 (-1), .int .i64 (-1), .int .i64 (-1)]) 1).run Tryd.prog w = .ok (.bool true) w := by kernel_rfl
abbrev Flds (v : Value) (l : List S29) : HP := Foot.row k29 29 v l
set_option maxHeartbeats 4000000 in
set_option maxRecDepth 100000 in
theorem CtrlCase (W : World) (htab : Lib.TabIs Tryd.prog W "internal/strconv.uint64pow10" .u64 Lib.pow10Tab) (A0 : Option Addr) (c0 : Nat) (l0 : List S29) (A1 : Option Addr) (c1 : Nat) (l1 : List Int) (a2 : Bool)
    (hr0 : Kd.C k29 W A0 l0.length l0) (hc0 : l0.length ≤ c0) (g0 : ∀ x ∈ l0, x.f0.size ≤ 9223372036854775807 ∧ x.f1.size ≤ 9223372036854775807) (hr1 : Kd.C (Kd.int .u8) W A1 l1.length l1) (hc1 : l1.length ≤ c1) (g1 : ∀ x ∈ l1, (Lit.int .u8 x).wf = true) :
    Calls Tryd.prog 5 #[.slice A0 l0.length c0, .slice A1 l1.length c1, .bool a2] W fun e w' => e = .returned (.bool true) ∧ Below W.heap.size W w' := by
  have HT := Lib.hid htab
  have HR0 := Lib.hid hr0
  have HR1 := Lib.hid hr1
  have H81 := Lib.hid (show ∀ x ∈ l1, 0 ≤ x ∧ x ≤ 255 from fun y hy => bounds_u8 (g1 y hy))
  clear htab hr0 hr1 g0 g1
  go_enter Tryd.func5, Tryd.ntmps5
  go_wp2_with fail
  refine (known_calls _ HT.out).mono ?_
  rintro e w1 ⟨rfl, hB⟩
  have HO := Lib.hid (Own.of_below hB)
  clear hB
  rcases light_ev 10 (by decide) l0 with ⟨hev, hl10, hsz⟩ | hev
  case inr =>
    obtain ⟨kl, hkl⟩ := hev.rounds
    have HKL := Lib.hid hkl
    clear hkl hev
    go_wp2_with fail
    refine (ambryhelp_Light.calls kl A0 c0 l0 10 false _ (Kd.C_below HR0.out HO.out.below) hc0 HKL.out).mono ?_
    rintro e w2 ⟨rfl, hd⟩
    have HO := Lib.hid (HO.out.drawn hd)
    clear hd
    go_wp2
    go_ret
    exact ⟨rfl, HO.out.below⟩
  obtain ⟨kl, hkl⟩ := hev.rounds
  have HKL := Lib.hid hkl
  have HSZ := Lib.hid hsz
  clear hkl hev hsz
  go_wp2_with fail
  refine (ambryhelp_Light.calls kl A0 c0 l0 10 true _ (Kd.C_below HR0.out HO.out.below) hc0 HKL.out).mono ?_
  rintro e w2 ⟨rfl, hd⟩
  have HO := Lib.hid (HO.out.drawn hd)
  clear hd HKL
  by_cases hl1 : 100 < l1.length
  · have hl1' : decide (100 < (l1.length : Int)) = true := by simp; omega
    go_wp2
    go_ret
    exact ⟨rfl, HO.out.below⟩
  have hl1' : decide (100 < (l1.length : Int)) = false := by simp; omega
  have HO := Lib.hid (Own.nil k29 29 (Own.nil k29 29 HO.out))
  go_wp2
  go_loopw [7, 8, 9] (fun v7 v8 v9 wr => ∃ (i : Nat) (B : List S29), v9 = .int .i64 (i : Int) ∧ i ≤ l0.length ∧ Aside0 (Caps (l0.map aOf) i B) ∧ Aside0 (Own W wr (star (Flds v7 ((l0.map aOf).take i)) (star (Flds v8 B) emp)))) (fun _ _ v9 _ => l0.length - (intOf v9).toNat)
  case atStart => exact ⟨0, [], rfl, Nat.zero_le _, ⟨rfl, (fun x h => by cases h), rfl⟩, ⟨HO.out⟩⟩
  case round =>
    clear HO
    obtain ⟨i, B, rfl, hi, HC, HO⟩ := hrel
    by_cases hlt : i < l0.length
    · obtain ⟨ad, rfl, hx0, hx1⟩ := at_T29 (Kd.C_below HR0.out HO.out.below) (i : Int) (by omega) (by omega)
      have hxs := HSZ.out _ (List.getElem_mem (l := l0) hlt)
      have hxx : rd_T29 l0 (i : Int) = l0[i] := by rw [rdF, List.getD_eq_getElem?_getD, List.getElem?_eq_getElem hlt]; rfl
      rw [hxx, Int.toNat_natCast] at hx0 hx1
      have HAL := Lib.hid (show (l0.map aOf)[i]? = some (aOf l0[i]) by rw [List.getElem?_map, List.getElem?_eq_getElem hlt]; rfl)
      generalize l0[i] = x at hx0 hx1 hxs HAL
      obtain ⟨f0, f1⟩ := x
      have hs1 : f1.size ≤ 300 := hxs.2
      have hi0 : (0 : Int) ≤ (i : Int) := by omega
      have hi1 : (i : Int) < (l0.length : Int) := by omega
      clear hxx hxs
      go_wp2_with fail
      refine (ambryref10_Low.calls f1 (lowS f1) _ (lowS_eq f1 hs1)).mono ?_
      rintro e w3 ⟨rfl, hB⟩
      have hss : (lowS f1).size ≤ 300 := by rw [lowS_size]; exact hs1
      have HL := Lib.hid (show aOf ⟨f0, f1⟩ = ⟨CC, lowS f1⟩ from rfl)
      have HLL := Lib.hid (show lowB (lowS f1) = lowB (aOf ⟨f0, f1⟩).f1 from rfl)
      have HO := Lib.hid ((HO.out.step hB).new_br 5 (lowS f1))
      clear hB hx0 hx1
      generalize lowS f1 = s at hss HL HLL HO ⊢
      have kb := fun W => print_bytes (P := Tryd.prog) 9 38 5 Tryd.underlying9 Tryd.underlying38 Tryd.underlying5 s W
      have ks := fun cap => HO.out.br.to_string (P := Tryd.prog) 38 9 cap Tryd.underlying38 Tryd.underlying5 Tryd.underlying9
      rw [Ctrl.strOf_bytes] at ks
      obtain ⟨L, hL⟩ : ∃ L, (l0.map aOf).take i = L := ⟨_, rfl⟩
      have HTL := Lib.hid (show L.length = i by rw [← hL, List.length_take, List.length_map]; omega)
      have HTK := Lib.hid (show (l0.map aOf).take (i + 1) = L ++ [⟨CC, s⟩] by rw [List.take_add_one, HAL.out, HL.out, hL]; rfl)
      rw [hL] at HO
      clear hL
      obtain ⟨A7, c7, rfl, hl7, _⟩ := HO.out.swap.reads
      obtain ⟨ok, hR, hok, hback⟩ := HO.out.swap.open_row
      have HRW := Lib.hid hR
      have HOK := Lib.hid hok
      have HBK := Lib.hid hback
      clear hR hok hback
      go_wp2_with (first
        | ((with_reducible refine gate_builtin (b := .append) (xs := #[.tmp 37, .tmp 41]) rfl ?_); at_builtin; go_must (refine Kd.R_append k29 (w0 := Lib.bytesWorld w3 5 s) 0 rfl (.tmp 37) (.tmp 41) 30 29 (.agg #[(.string ⟨#[]⟩), (.string ⟨#[]⟩)]) 32 rfl Tryd.underlying30 info29 rfl (by decide) (by decide) (.slice A7 L.length c7) L ⟨CC, s⟩ [.string CC, .string s] ok (fun _ => False) rfl rfl (k29_mkM _ _ _ _) (fun _ hk => hk.elim) ?aF HRW.out (Below.refl _ _) (Nat.zero_le _) ?aL ?_); (case aF => exact HOK.out); (case aL => have := HTL.out; omega); intro v6 w6 hR6 hB6 hg6 _; have HO := Lib.hid (HBK.out _ _ _ hR6 hg6); clear hR6 hB6 hg6)
        | fail)
      clear HRW HOK HBK ks kb
      generalize w3.heap.size = g at HO ⊢
      generalize grownCap w3 s.size 0 5 = cap
      rw [← HTK.out] at HO
      go_loopw [11] (fun v11 wk => ∃ (k : Nat) (ys : List Int), v11 = .int .i64 (k : Int) ∧ k ≤ s.size ∧ Aside0 (Turned s ys) ∧ Aside0 (Own W wk (star (Flds v6 ((l0.map aOf).take (i + 1))) (star (Br 5 g s.size ys) (star (Flds u8 B) emp))))) (fun v11 _ => s.size - (intOf v11).toNat)
      case atStart => exact ⟨0, bytesOf s, rfl, Nat.zero_le _, ⟨Turned.start s⟩, ⟨HO.out⟩⟩
      case round =>
        clear HO
        obtain ⟨k, ys, rfl, hk, HTU, HO⟩ := hrel
        by_cases hkl : k < s.size
        · have hcell := HO.out.swap.br.cell k hkl
          have hfree := HO.out.swap.br.free k hkl
          obtain ⟨c, hcc⟩ : ∃ c, ys.getD k 0 = c := ⟨_, rfl⟩
          have HCC := Lib.hid hcc
          have hc255 : 0 ≤ c ∧ c ≤ 255 := by
            rw [← hcc, List.getD_eq_getElem?_getD, List.getElem?_eq_getElem (by rw [HTU.out.1]; exact hkl)]
            exact HTU.out.2.1 _ (List.getElem_mem _)
          rw [hcc] at hcell
          obtain ⟨hc0', hc255'⟩ := hc255
          have hk0 : (0 : Int) ≤ (k : Int) := by omega
          have hk1 : (k : Int) < (s.size : Int) := by omega
          clear hcc
          by_cases h1 : 97 ≤ c
          case neg =>
            go_wp2
            go_roundw
            case rel => exact ⟨k + 1, ys, by go_num, by omega, HTU, HO⟩
            case measure => simp [intOf]; omega
          by_cases h2 : c ≤ 122
          case neg =>
            go_wp2
            go_roundw
            case rel => exact ⟨k + 1, ys, by go_num, by omega, HTU, HO⟩
            case measure => simp [intOf]; omega
          by_cases h3 : k < l1.length
          case neg =>
            have h3' : decide ((k : Int) < (l1.length : Int)) = false := by simp; omega
            have h3'' : decide (k < l1.length) = false := by simp; omega
            go_wp2
            go_roundw
            case rel => exact ⟨k + 1, ys, by go_num, by omega, HTU, HO⟩
            case measure => simp [intOf]; omega
          obtain ⟨ad1, hA1, ht⟩ := byte_at (Kd.C_below HR1.out HO.out.below) k h3
          have htr : 0 ≤ l1.getD k 0 ∧ l1.getD k 0 ≤ 255 := by
            rw [List.getD_eq_getElem?_getD, List.getElem?_eq_getElem h3]
            exact H81.out _ (List.getElem_mem _)
          generalize l1.getD k 0 = t at ht htr
          obtain ⟨ht0, ht255⟩ := htr
          have hk2 : (k : Int) < (l1.length : Int) := by omega
          by_cases h4 : t % 2 = 1
          case neg =>
            have h4' : (t % 2 == 1) = false := beq_eq_false_iff_ne.2 h4
            subst hA1
            clear h4
            go_wp2
            go_roundw
            case rel => exact ⟨k + 1, ys, by go_num, by omega, HTU, HO⟩
            case measure => simp [intOf]; omega
          have h4' : (t % 2 == 1) = true := beq_iff_eq.2 h4
          subst hA1
          clear h4
          have hw : (c - 32) % 256 = c - 32 := by omega
          go_wp2
          go_roundw
          case rel => exact ⟨k + 1, ys.set k (c - 32), by go_num, by omega, ⟨by have := HTU.out.set hkl (by rw [HCC.out]; exact h1) (by rw [HCC.out]; exact h2); rw [HCC.out] at this; exact this⟩, ⟨(HO.out.swap.br_set k hkl (c - 32)).swap⟩⟩
          case measure => simp [intOf]; omega
        · have ks := fun cap => HO.out.swap.br.to_string (P := Tryd.prog) 38 9 cap Tryd.underlying38 Tryd.underlying5 Tryd.underlying9
          obtain ⟨htd, htz⟩ := HTU.out.done
          generalize strOfNums ys = t at ks htd htz
          have HTD := Lib.hid (htd.trans HLL.out)
          have htz3 : t.size ≤ 300 := by omega
          have HO2 := Lib.hid HO.out.drop2.swap
          obtain ⟨A8, c8, rfl, hl8, _⟩ := HO2.out.reads
          obtain ⟨ok, hR, hok, hback⟩ := HO2.out.open_row
          have HRW := Lib.hid hR
          have HOK := Lib.hid hok
          have HBK := Lib.hid hback
          have HBL := Lib.hid HC.out.1
          clear hR hok hback htd htz HO
          go_wp2_with (first
            | ((with_reducible refine gate_builtin (b := .append) (xs := #[.tmp 81, .tmp 85]) rfl ?_); at_builtin; go_must (refine Kd.R_append k29 (w0 := wr) 0 rfl (.tmp 81) (.tmp 85) 30 29 (.agg #[(.string ⟨#[]⟩), (.string ⟨#[]⟩)]) 32 rfl Tryd.underlying30 info29 rfl (by decide) (by decide) (.slice A8 B.length c8) B ⟨CU, t⟩ [.string CU, .string t] ok (fun _ => False) rfl rfl (k29_mkM _ _ _ _) (fun _ hk => hk.elim) ?aF HRW.out (Below.refl _ _) (Nat.zero_le _) ?aL ?_); (case aF => exact HOK.out); (case aL => have := HBL.out; omega); intro v9' w9 hR9 hB9 hg9 _; have HO := Lib.hid (HBK.out _ _ _ hR9 hg9); clear hR9 hB9 hg9)
            | fail)
          go_roundw
          case rel => exact ⟨i + 1, B ++ [⟨CU, t⟩], by go_num, by omega, ⟨HC.out.step HAL.out HTD.out htz3⟩, ⟨HO.out.swap⟩⟩
          case measure => simp [intOf]; omega
    · have hin : i = l0.length := by omega
      subst hin
      rw [show (l0.map aOf).take l0.length = l0.map aOf from List.take_of_length_le (by rw [List.length_map]; exact Nat.le_refl _)] at HO
      have hC := HC.out
      unfold Caps at hC
      rw [show (l0.map aOf).take l0.length = l0.map aOf from List.take_of_length_le (by rw [List.length_map]; exact Nat.le_refl _)] at hC
      obtain ⟨hB1, hB2, hB3⟩ := hC
      obtain ⟨al, hal⟩ : ∃ al, l0.map aOf = al := ⟨_, rfl⟩
      have hall : al.length = l0.length := by rw [← hal, List.length_map]
      have halT : Tiny al := ⟨by omega, fun x hx => by
        rw [← hal] at hx
        obtain ⟨y, hy, rfl⟩ := List.mem_map.1 hx
        exact ⟨by show CC.size ≤ 300; decide, by show (lowS y.f1).size ≤ 300; rw [lowS_size]; exact (HSZ.out y hy).2⟩⟩
      have haln : ∀ x ∈ al, x.f0 = CC := fun x hx => by
        rw [← hal] at hx
        obtain ⟨y, hy, rfl⟩ := List.mem_map.1 hx
        rfl
      have hBT : Tiny B := ⟨by omega, fun x hx => ⟨by rw [(hB2 x hx).1]; decide, (hB2 x hx).2⟩⟩
      rw [hal] at HO hB3
      have hev := parse_one_name al CC halT haln cc_same
      have hevB := parse_one_name B CU hBT (fun x hx => (hB2 x hx).1) cu_same
      have hevP := parse_more al halT (by omega)
      rw [says_low (X := B.map fun x => x.f1) (Y := al.map fun x => x.f1) (by rw [List.map_map, List.map_map]; exact hB3)] at hevB
      generalize saysOf (al.map fun x => x.f1) = ct at hev hevB hevP
      obtain ⟨b0, b1, b2, b3, b4, b5, b6, b7, n8, n9, n10, n11⟩ := ct
      obtain ⟨ka, hka⟩ := hev.rounds
      obtain ⟨kb, hkb⟩ := hevB.rounds
      have HKA := Lib.hid hka
      have HKB := Lib.hid hkb
      have HEP := Lib.hid hevP
      have HAN := Lib.hid haln
      have HAL := Lib.hid hall
      clear hka hkb hev hevB hevP haln halT hBT hB1 hB2 hB3 hal hall HC
      obtain ⟨A7, c7, rfl, hl7, _⟩ := HO.out.reads
      obtain ⟨A8, c8, rfl, hl8, _⟩ := HO.out.rest.reads
      have HO := Lib.hid (HO.out.new_ob (.cells #[.string ⟨#[80, 82, 65, 71, 77, 65]⟩, .string ⟨#[120, 44, 32, 78, 111, 45, 67, 97, 99, 104, 101]⟩] 29))
      have HCA := Lib.hid HO.out.rest.reads
      obtain ⟨A7', c7', he7, _, hC7⟩ := HO.out.rest.reads
      injection he7 with he1 he2 he3
      subst he1 he3
      have HC7 := Lib.hid hC7
      clear hC7 he2 HCA
      go_wp2_with fail
      refine (ctrl_Parse.calls ka A7 c7 al b0 b1 b2 b3 b4 b5 b6 b7 n8 n9 n10 n11 _ HC7.out hl7 HKA.out).mono ?_
      rintro e w2 ⟨rfl, hB⟩
      generalize hp12 : wr.heap.size = p12 at HO ⊢
      have HO := Lib.hid ((HO.out.step hB).new_ob (.cells #[.bool b0, .bool b1, .bool b2, .bool b3, .bool b4, .bool b5, .bool b6, .bool b7, .int .i64 n8, .int .i64 n9, .int .i64 n10, .int .i64 n11] 23))
      clear hB hp12 HC7
      generalize hp13 : w2.heap.size = p13 at HO
      have HP13 := Lib.hid hp13
      have HO := Lib.hid HO.out.assoc'.comm.assoc
      have HKEEP := Lib.hid (show ∀ (w' : World) (v : Value) (L : List S29) (B' : HP), Own W w' (star (Flds v L) (star B' (star (Ob p13 (.cells #[.bool b0, .bool b1, .bool b2, .bool b3, .bool b4, .bool b5, .bool b6, .bool b7, .int .i64 n8, .int .i64 n9, .int .i64 n10, .int .i64 n11] 23 (0, 0))) (Ob p12 (.cells #[.string ⟨#[80, 82, 65, 71, 77, 65]⟩, .string ⟨#[120, 44, 32, 78, 111, 45, 67, 97, 99, 104, 101]⟩] 29 (0, 0)))))) → (w'.cell? ⟨p13, 0, none⟩ = some (.bool b0) ∧ w'.cell? ⟨p13, 1, none⟩ = some (.bool b1) ∧ w'.cell? ⟨p13, 2, none⟩ = some (.bool b2) ∧ w'.cell? ⟨p13, 3, none⟩ = some (.bool b3) ∧ w'.cell? ⟨p13, 4, none⟩ = some (.bool b4) ∧ w'.cell? ⟨p13, 5, none⟩ = some (.bool b5) ∧ w'.cell? ⟨p13, 6, none⟩ = some (.bool b6) ∧ w'.cell? ⟨p13, 7, none⟩ = some (.bool b7) ∧ w'.cell? ⟨p13, 8, none⟩ = some (.int .i64 n8) ∧ w'.cell? ⟨p13, 9, none⟩ = some (.int .i64 n9) ∧ w'.cell? ⟨p13, 10, none⟩ = some (.int .i64 n10) ∧ w'.cell? ⟨p13, 11, none⟩ = some (.int .i64 n11) ∧ w'.cell? ⟨p12, 0, none⟩ = some (.string ⟨#[80, 82, 65, 71, 77, 65]⟩) ∧ w'.cell? ⟨p12, 1, none⟩ = some (.string ⟨#[120, 44, 32, 78, 111, 45, 67, 97, 99, 104, 101]⟩)) from fun w' v L B' ho => by
        have ha := ho.rest.rest.ob
        have hb := ho.rest.rest.comm.ob
        exact ⟨blk_cell ha 0, blk_cell ha 1, blk_cell ha 2, blk_cell ha 3, blk_cell ha 4, blk_cell ha 5, blk_cell ha 6, blk_cell ha 7, blk_cell ha 8, blk_cell ha 9, blk_cell ha 10, blk_cell ha 11, blk_cell hb 0, blk_cell hb 1⟩)
      by_cases hp : a2 = true ∧ 0 < l0.length
      · obtain ⟨rfl, hpos⟩ := hp
        have hne : al ≠ [] := fun h => by have := HAL.out; rw [h, List.length_nil] at this; omega
        obtain ⟨kp, hkp⟩ := (HEP.out hne HAN.out).rounds
        obtain ⟨alp, halp⟩ : ∃ alp, al ++ [PR] = alp := ⟨_, rfl⟩
        rw [halp] at hkp
        have HKP := Lib.hid hkp
        have HALP := Lib.hid halp
        clear halp
        have hpos' : decide ((0 : Int) < (l0.length : Int)) = true := by simp; omega
        clear hkp hne HEP
        go_wp2_with fail
        clear HP13 hp13
        generalize w2.alloc (.cells #[.bool b0, .bool b1, .bool b2, .bool b3, .bool b4, .bool b5, .bool b6, .bool b7, .int .i64 n8, .int .i64 n9, .int .i64 n10, .int .i64 n11] 23) = w3 at HO ⊢
        have HSM := Lib.hid (show al.length ≤ 10 by have := HAL.out; omega)
        refine OrdE.beginS (fun w' => w'.cell? ⟨p13, 0, none⟩ = some (.bool b0) ∧ w'.cell? ⟨p13, 1, none⟩ = some (.bool b1) ∧ w'.cell? ⟨p13, 2, none⟩ = some (.bool b2) ∧ w'.cell? ⟨p13, 3, none⟩ = some (.bool b3) ∧ w'.cell? ⟨p13, 4, none⟩ = some (.bool b4) ∧ w'.cell? ⟨p13, 5, none⟩ = some (.bool b5) ∧ w'.cell? ⟨p13, 6, none⟩ = some (.bool b6) ∧ w'.cell? ⟨p13, 7, none⟩ = some (.bool b7) ∧ w'.cell? ⟨p13, 8, none⟩ = some (.int .i64 n8) ∧ w'.cell? ⟨p13, 9, none⟩ = some (.int .i64 n9) ∧ w'.cell? ⟨p13, 10, none⟩ = some (.int .i64 n10) ∧ w'.cell? ⟨p13, 11, none⟩ = some (.int .i64 n11) ∧ w'.cell? ⟨p12, 0, none⟩ = some (.string ⟨#[80, 82, 65, 71, 77, 65]⟩) ∧ w'.cell? ⟨p12, 1, none⟩ = some (.string ⟨#[120, 44, 32, 78, 111, 45, 67, 97, 99, 104, 101]⟩)) (fun _ => true) (by kernel_rfl) ?_
        have HOD := Lib.hid HO.out.drew
        clear HO
        generalize w3.drew = w4 at HOD ⊢
        obtain ⟨ok, hR, hok, hback⟩ := HOD.out.open_row
        have HRW := Lib.hid hR
        have HOK := Lib.hid hok
        have HBK := Lib.hid hback
        clear hR hok hback
        refine OrdE.takeK (i := 0) (oi := { dst := some 96, op := Go.Op.move (Go.Operand.tmp 7), type := 30, pos := "more.go:32", after := #[], guard := none }) (v := .slice A7 al.length c7) rfl (by kernel_rfl) (by kernel_rfl) (by kernel_rfl) (by kernel_rfl) (fun _ _ _ h => h) (by rfl) ?_ (HKEEP.out _ _ _ _ HOD.out) ?_
        · intro w hS; obtain ⟨z0, z1, z2, z3, z4, z5, z6, z7, z8, z9, z10, z11, z12, z13⟩ := hS; go_simp
        try simp only [Act.put, List.setIfInBounds_toArray, List.set_cons_zero, List.set_cons_succ]
        refine OrdE.takeK (i := 1) (oi := { dst := some 97, op := Go.Op.load 29 (Go.Operand.tmp 12), type := 29, pos := "more.go:32", after := #[], guard := none }) (v := .agg #[.string ⟨#[80, 82, 65, 71, 77, 65]⟩, .string ⟨#[120, 44, 32, 78, 111, 45, 67, 97, 99, 104, 101]⟩]) rfl (by kernel_rfl) (by kernel_rfl) (by kernel_rfl) (by kernel_rfl) (fun _ _ _ h => h) (by rfl) ?_ (HKEEP.out _ _ _ _ HOD.out) ?_
        · intro w hS; obtain ⟨z0, z1, z2, z3, z4, z5, z6, z7, z8, z9, z10, z11, z12, z13⟩ := hS; go_simp
        try simp only [Act.put, List.setIfInBounds_toArray, List.set_cons_zero, List.set_cons_succ]
        refine OrdE.takeK (i := 5) (oi := { dst := some 101, op := Go.Op.load 23 (Go.Operand.tmp 13), type := 23, pos := "more.go:32", after := #[], guard := none }) (v := .agg #[.bool b0, .bool b1, .bool b2, .bool b3, .bool b4, .bool b5, .bool b6, .bool b7, .int .i64 n8, .int .i64 n9, .int .i64 n10, .int .i64 n11]) rfl (by kernel_rfl) (by kernel_rfl) (by kernel_rfl) (by kernel_rfl) (fun _ _ _ h => h) (by rfl) ?_ (HKEEP.out _ _ _ _ HOD.out) ?_
        · intro w hS; obtain ⟨z0, z1, z2, z3, z4, z5, z6, z7, z8, z9, z10, z11, z12, z13⟩ := hS; go_simp
        try simp only [Act.put, List.setIfInBounds_toArray, List.set_cons_zero, List.set_cons_succ]
        refine OrdE.oneE (i := 2) (o := { dst := some 98, op := Go.Op.buildSlice 30 1 #[(0, Go.Operand.tmp 97)], type := 30, pos := "more.go:32", after := #[{ on := 1, ground := Go.Ground.data }], guard := none }) (by kernel_rfl) rfl (fun K hK => ?_)
        go_simp
        refine hK.out _ _ (fun _ => HKEEP.out _ _ _ _ (HOD.out.alloc _)) ?_
        clear hK K
        try simp only [Act.put, List.setIfInBounds_toArray, List.set_cons_zero, List.set_cons_succ]
        refine OrdE.oneE (i := 3) (o := { dst := some 99, op := Go.Op.call { callee := Go.Callee.builtin Go.Builtin.append, args := #[Go.Operand.tmp 96, Go.Operand.tmp 98], argTypes := #[30, 30] }, type := 30, pos := "more.go:32", after := #[{ on := 0, ground := Go.Ground.data }, { on := 2, ground := Go.Ground.data }], guard := none }) (by kernel_rfl) rfl (fun K hK => ?_)
        refine Kd.R_append_step k29 (w0 := w4) 0 (by rfl) (.tmp 96) (.tmp 98) 30 29 (.agg #[(.string ⟨#[]⟩), (.string ⟨#[]⟩)]) 32 (by rfl) Tryd.underlying30 info29 rfl (by decide) (by decide) (.slice A7 al.length c7) al PR [.string PR.f0, .string PR.f1] ok (fun _ => False) (by rfl) (by rfl) (k29_mkM _ _ _ _) (fun _ h => h.elim) HOK.out HRW.out (Below.refl _ _) (Nat.zero_le _) (by have := HSM.out; omega) ?_
        intro v9 w9 hR9 hB9 hg9 _
        have HO9 := Lib.hid (HBK.out _ _ _ hR9 hg9)
        rw [HALP.out] at HO9
        obtain ⟨A9, c9, rfl, hl9, hC9⟩ := HO9.out.reads
        have HC9 := Lib.hid hC9
        clear hR9 hB9 hg9 hC9
        refine hK.out _ _ (fun _ => HKEEP.out _ _ _ _ HO9.out) ?_
        clear hK K
        try simp only [Act.put, List.setIfInBounds_toArray, List.set_cons_zero, List.set_cons_succ]
        refine OrdE.oneE (i := 4) (o := { dst := some 100, op := Go.Op.call { callee := Go.Callee.value (Go.Operand.func 9), args := #[Go.Operand.tmp 99], argTypes := #[30] }, type := 23, pos := "more.go:32", after := #[{ on := 3, ground := Go.Ground.data }, { on := 3, ground := Go.Ground.chain }], guard := none }) (by kernel_rfl) rfl (fun K hK => ?_)
        go_simp
        refine (ctrl_Parse.calls kp A9 c9 alp b0 b1 b2 b3 b4 b5 b6 b7 n8 n9 n10 n11 _ HC9.out hl9 HKP.out).mono ?_
        rintro e w10 ⟨rfl, hb⟩
        have HO10 := Lib.hid (HO9.out.step hb)
        clear hb
        refine hK.out _ _ (fun _ => HKEEP.out _ _ _ _ HO10.out) ?_
        clear hK K
        try simp only [Act.put, List.setIfInBounds_toArray, List.set_cons_zero, List.set_cons_succ]
        refine OrdE.oneE (i := 6) (o := { dst := some 102, op := Go.Op.binOp Go.BinOp.eql 23 (Go.Operand.tmp 100) (Go.Operand.tmp 101) 23, type := 4, pos := "more.go:32", after := #[{ on := 4, ground := Go.Ground.data }, { on := 5, ground := Go.Ground.data }], guard := none }) (by kernel_rfl) rfl (fun K hK => ?_)
        go_simp
        refine hK.out _ _ (fun _ => HKEEP.out _ _ _ _ HO10.out) ?_
        clear hK K
        try simp only [Act.put, List.setIfInBounds_toArray, List.set_cons_zero, List.set_cons_succ]
        refine OrdE.oneE (i := 7) (o := { dst := some 6, op := Go.Op.assign (Go.Operand.tmp 102), type := 4, pos := "more.go:32", after := #[{ on := 6, ground := Go.Ground.data }, { on := 4, ground := Go.Ground.chain }, { on := 0, ground := Go.Ground.phase }, { on := 1, ground := Go.Ground.phase }, { on := 2, ground := Go.Ground.phase }, { on := 3, ground := Go.Ground.phase }, { on := 4, ground := Go.Ground.phase }, { on := 5, ground := Go.Ground.phase }, { on := 6, ground := Go.Ground.phase }], guard := none }) (by kernel_rfl) rfl (fun K hK => ?_)
        go_simp
        refine hK.out _ _ (fun _ => HKEEP.out _ _ _ _ HO10.out) ?_
        clear hK K
        try simp only [Act.put, List.setIfInBounds_toArray, List.set_cons_zero, List.set_cons_succ]
        refine OrdE.doneE (by kernel_rfl) ?_ _
        go_wp2
        go_ret
        exact ⟨rfl, HO10.out.below⟩
      · have hcase : a2 = false ∨ (a2 = true ∧ l0.length = 0) := by
          cases a2 with
          | false => exact .inl rfl
          | true => exact .inr ⟨rfl, Nat.eq_zero_of_not_pos fun h => hp ⟨rfl, h⟩⟩
        clear hp HEP HAN
        rcases hcase with rfl | ⟨rfl, h0⟩
        all_goals
          go_wp2_with fail
          clear HP13 hp13
          generalize w2.alloc (.cells #[.bool b0, .bool b1, .bool b2, .bool b3, .bool b4, .bool b5, .bool b6, .bool b7, .int .i64 n8, .int .i64 n9, .int .i64 n10, .int .i64 n11] 23) = w3 at HO ⊢
          have HOD := Lib.hid HO.out.drew
          obtain ⟨A8', c8', he8, hl8', hC8⟩ := HOD.out.rest.drop.reads
          injection he8 with he1 he2 he3
          subst he1 he3
          have HC8 := Lib.hid hC8
          have T1 : True := trivial
          have hpf := fun w => pragma_field w
          clear hC8 he2
          go_region_held3 (fun w' => w'.cell? ⟨p13, 0, none⟩ = some (.bool b0) ∧ w'.cell? ⟨p13, 1, none⟩ = some (.bool b1) ∧ w'.cell? ⟨p13, 2, none⟩ = some (.bool b2) ∧ w'.cell? ⟨p13, 3, none⟩ = some (.bool b3) ∧ w'.cell? ⟨p13, 4, none⟩ = some (.bool b4) ∧ w'.cell? ⟨p13, 5, none⟩ = some (.bool b5) ∧ w'.cell? ⟨p13, 6, none⟩ = some (.bool b6) ∧ w'.cell? ⟨p13, 7, none⟩ = some (.bool b7) ∧ w'.cell? ⟨p13, 8, none⟩ = some (.int .i64 n8) ∧ w'.cell? ⟨p13, 9, none⟩ = some (.int .i64 n9) ∧ w'.cell? ⟨p13, 10, none⟩ = some (.int .i64 n10) ∧ w'.cell? ⟨p13, 11, none⟩ = some (.int .i64 n11) ∧ w'.cell? ⟨p12, 0, none⟩ = some (.string ⟨#[80, 82, 65, 71, 77, 65]⟩) ∧ w'.cell? ⟨p12, 1, none⟩ = some (.string ⟨#[120, 44, 32, 78, 111, 45, 67, 97, 99, 104, 101]⟩)) (first
            | with_reducible exact HKEEP.out _ _ _ _ HOD.out
            | with_reducible exact HKEEP.out _ _ _ _ HO9.out
            | with_reducible exact HKEEP.out _ _ _ _ (HO9.out.alloc _)
            | with_reducible exact HKEEP.out _ _ _ _ HO10.out) (first
            | (clear T1; go_at_call 9; refine (ctrl_Parse.calls kb A8 c8 B b0 b1 b2 b3 b4 b5 b6 b7 n8 n9 n10 n11 _ HC8.out hl8 HKB.out).mono ?_; rintro e w9 ⟨rfl, hb⟩; have HO9 := Lib.hid (HOD.out.step hb); clear hb)
            | (go_at_call 9; refine (ctrl_Parse.calls 400 _ _ [PR] false true false false false false false false (-1) (-1) (-1) (-1) _ (Leaf.C_block k29 (fun x => [.string x.f0, .string x.f1]) (fun _ => rfl) _ _ _ _ _ _ (fun x _ => k29_mk _ x) (blk_new w9 _) rfl (by simp)) (Nat.le_refl _) parse_pragma).mono ?_; rintro e w10 ⟨rfl, hb⟩; have HO10 := Lib.hid ((HO9.out.alloc _).step hb); clear hb)
            | fail)
        all_goals
          go_wp2
          go_ret
          exact ⟨rfl, HO10.out.below⟩
end Go.Proofs.YtdgimhaghhjdcaaDoor.Walk
