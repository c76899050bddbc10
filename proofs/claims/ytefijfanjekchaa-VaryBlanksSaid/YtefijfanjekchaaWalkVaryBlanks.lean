/- Blanks, capitals of names, and how values are spread over fields: the law's own text, walked. -/
import Derived.Test.YtefijfanjekchaaGx0
import Derived.Test.YtefijfanjekchaaGx3
import Derived.Test.YtefijfanjekchaaGx4
import Derived.Test.YtefijfanjekchaaKnownB
import Derived.Test.YtefijfanjekchaaLits
import Derived.OpenShut
import Derived.Outline
set_option linter.unusedVariables false
set_option linter.unusedSimpArgs false
namespace Go.Proofs.Ytefijfanjekchaa.Walk
open Go.RowKit Go.Proofs.Ytefijfanjekchaa.G Go.Proofs.YtefijfanjekchaaW.PrintWords Go.Proofs.YtefijfanjekchaaW.PrintLast Go.Proofs.YtefijfanjekchaaW.PrintMore Go.Proofs.Ytefijfanjekchaa.Plain
theorem st_sz (l : W8) : (⟨l.toArray⟩ : ByteArray).size = l.length := by show l.toArray.size = _; rw [List.size_toArray]
theorem byte_next (s : ByteArray) (k : Nat) (hk : k < s.size) : ∃ c : UInt8, (tl s).take (k + 1) = (tl s).take k ++ [c] ∧ (∀ h : k < s.size, ((s[k]'h).toNat : Int) = (c.toNat : Int)) ∧ s.extract k (k + 1) = ⟨#[c]⟩ := by
  have hl : k < s.data.toList.length := by rw [data_length]; exact hk
  refine ⟨s.data.toList[k], List.take_succ_eq_append_getElem hl, fun h => rfl, ?_⟩
  apply tl_inj
  unfold tl
  rw [ByteArray.data_extract, Array.toList_extract, List.extract_eq_take_drop, Nat.add_sub_cancel_left, List.drop_eq_getElem_cons hl]
  rfl
theorem blank_iff (c : UInt8) : (c = 32 ∨ c = 9) ↔ (c.toNat : Int) = 32 ∨ (c.toNat : Int) = 9 := by
  constructor
  · rintro (rfl | rfl) <;> decide
  · rintro (h | h)
    · exact .inl (UInt8.toNat_inj.1 (by show c.toNat = 32; omega))
    · exact .inr (UInt8.toNat_inj.1 (by show c.toNat = 9; omega))
def fA (v : ByteArray) : S38 := ⟨⟨#[65, 99, 99, 101, 112, 116]⟩, v⟩
def fB (v : ByteArray) : S38 := ⟨⟨#[97, 67, 67, 69, 80, 84]⟩, v⟩
set_option maxHeartbeats 8000000 in
set_option maxRecDepth 100000 in
theorem VaryBlanks (W : World) (A0 : Option Addr) (c0 : Nat) (l0 : List ByteArray) (A1 : Option Addr) (c1 : Nat) (l1 : List Int)
    (hr0 : Kd.C Kd.string W A0 l0.length l0) (hc0 : l0.length ≤ c0) {G0 : Prop} (g0 : G0) (hr1 : Kd.C (Kd.int .u8) W A1 l1.length l1) (hc1 : l1.length ≤ c1) {G1 : Prop} (g1 : G1) :
    Calls Try.prog 4 #[.slice A0 l0.length c0, .slice A1 l1.length c1] W fun e w' => e = .returned (.bool true) ∧ Below W.heap.size W w' := by
  obtain ⟨kk, hkk⟩ := known_ev.rounds
  have HK := Lib.hid hkk
  have H0 := Aside0.mk hr0
  have H1 := Aside0.mk hr1
  clear hkk hr0 hr1 g0 g1
  by_cases h5 : l0.length ≤ 5
  case neg =>
    go_enter Try.func4, Try.ntmps4
    go_wp2_with fail
    refine (ambrylaw15_known.calls kk true _ HK.out).mono ?_
    rintro e w1 ⟨rfl, hB⟩
    have HB := Aside0.mk hB
    clear hB
    go_wp2
    go_ret
    exact ⟨rfl, HB.out⟩
  by_cases h100 : l1.length ≤ 100
  case neg =>
    go_enter Try.func4, Try.ntmps4
    go_wp2_with fail
    refine (ambrylaw15_known.calls kk true _ HK.out).mono ?_
    rintro e w1 ⟨rfl, hB⟩
    have HB := Aside0.mk hB
    clear hB
    go_wp2
    go_ret
    exact ⟨rfl, HB.out⟩
  go_enter Try.func4, Try.ntmps4
  go_wp2_with fail
  refine (ambrylaw15_known.calls kk true _ HK.out).mono ?_
  rintro e w1 ⟨rfl, hB⟩
  have HB := Aside0.mk hB
  clear hB HK
  go_wp2
  go_loopw [5, 6, 7, 8, 9] (fun v5 v6 v7 v8 v9 wr => ∃ (i k : Nat) (ss : List ByteArray), i ≤ l0.length ∧ k ≤ 50 * i ∧ v9 = .int .i64 i ∧ v8 = .int .i64 k ∧ v5 = .string ⟨(joinL (l0.take i)).toArray⟩ ∧ Aside0 (Bl ss (l0.take i)) ∧ Aside0 (∀ x ∈ l0.take i, x.size ≤ 50) ∧ Aside0 (Kd.R k38 38 wr W.heap.size (fun q => True ∧ some q ≠ v7.ownBlock) v6 ((l0.take i).map fA)) ∧ Aside0 (Kd.R k38 38 wr W.heap.size (fun q => True ∧ some q ≠ v6.ownBlock) v7 (ss.map fB)) ∧ Aside0 (Below W.heap.size W wr)) (fun _ _ _ _ v9 _ => l0.length - (intOf v9).toNat)
  case atStart => exact ⟨0, 0, [], Nat.zero_le _, Nat.le_refl _, rfl, rfl, rfl, ⟨Bl.nil⟩, ⟨by simp⟩, ⟨Kd.R_nil _ _ _ _ _⟩, ⟨Kd.R_nil _ _ _ _ _⟩, HB⟩
  case round =>
    clear HB
    obtain ⟨i, k, ss, hi, hk, rfl, rfl, rfl, HBl, HZ, HA, HBb, HW⟩ := hrel
    by_cases hlt : i < l0.length
    · obtain ⟨ad, e9, hx0⟩ := Kd.at_string H0.out (i : Int) (by omega) (by omega)
      cases e9
      rw [Int.toNat_natCast] at hx0
      obtain ⟨x, hxe⟩ : ∃ x, rdOf ByteArray.empty l0 (i : Int) = x := ⟨_, rfl⟩
      have htk : l0.take (i + 1) = l0.take i ++ [x] := by
        rw [List.take_succ_eq_append_getElem hlt, ← hxe]
        unfold rdOf
        rw [Int.toNat_natCast, List.getD_eq_getElem?_getD, List.getElem?_eq_getElem hlt]; rfl
      rw [hxe] at hx0
      have HRD := Lib.hid (fun (w' : World) (h : Below W.heap.size W w') => pw_cell_below h hx0)
      have hx := HRD.out wr HW.out
      clear hx0
      have HT := Lib.hid htk
      clear hxe htk
      by_cases h50 : x.size ≤ 50
      case neg =>
        go_wp2
        go_ret
        exact ⟨rfl, HW.out⟩
      obtain ⟨kv, hkv⟩ := (value_ref x (by omega)).rounds
      cases hval : valueL (bytesOf x) with
      | false =>
        rw [hval] at hkv
        have HV := Lib.hid hkv
        clear hkv hval
        go_wp2_with fail
        refine (ambryref10_Value.calls kv x false _ HV.out).mono ?_
        rintro e w2 ⟨rfl, hD⟩
        have HB2 := Aside0.mk (Leaf.d_below HW.out hD)
        clear hD
        go_wp2
        go_ret
        exact ⟨rfl, HB2.out⟩
      | true =>
        rw [hval] at hkv
        have HV := Lib.hid hkv
        clear hkv hval
        go_wp2_with fail
        refine (ambryref10_Value.calls kv x true _ HV.out).mono ?_
        rintro e w2 ⟨rfl, hD⟩
        have hD2 := hD.out
        obtain ⟨nd, rfl⟩ := hD2
        have HA2 := Aside0.mk (Kd.R_drewN (m := nd) HA.out)
        have HBb2 := Aside0.mk (Kd.R_drewN (m := nd) HBb.out)
        have HW2 := Aside0.mk (Leaf.d_below HW.out hD)
        clear hD hx HA HBb HW
        generalize wr.drewN nd = w2 at HA2 HBb2 HW2 ⊢
        have hx := HRD.out w2 HW2.out
        have hzx := tl_length x
        go_wp2_with fail
        go_loop [8, 10, 11] (fun v8 v10 v11 => ∃ (k' j : Nat) (s : W8), j ≤ x.size ∧ k' ≤ k + j ∧ v11 = .int .i64 j ∧ v8 = .int .i64 k' ∧ v10 = .string ⟨s.toArray⟩ ∧ s.length ≤ 3 * j ∧ Aside0 (Eq2 s ((tl x).take j))) (fun _ _ v11 => x.size - (intOf v11).toNat)
        case atStart => exact ⟨k, 0, [], Nat.zero_le _, Nat.le_refl _, rfl, rfl, rfl, by simp, ⟨Eq2.refl _⟩⟩
        case round =>
          obtain ⟨k', j, s, hj, hk', rfl, rfl, rfl, hsl, HE⟩ := hrel
          have hsz := st_sz s
          by_cases hjl : j < x.size
          · obtain ⟨c, hn, hc, hex⟩ := byte_next x j hjl
            have hci := blank_iff c
            have hE1 : Eq2 (s ++ [c]) ((tl x).take (j + 1)) := by rw [hn]; exact HE.out.snoc c
            have hE2 : ((c.toNat : Int) = 32 ∨ (c.toNat : Int) = 9) → Eq2 (s ++ [32, 9] ++ [c]) ((tl x).take (j + 1)) := fun h => by rw [hn]; exact HE.out.more c (hci.2 h)
            have HE1 := Aside0.mk hE1
            have HE2 := Lib.hid hE2
            have hcat : ∀ t : W8, (⟨t.toArray⟩ : ByteArray) ++ x.extract j (j + 1) = ⟨(t ++ [c]).toArray⟩ := fun t => by rw [cat_one, hex]
            have HCAT := Lib.hid hcat
            have hxs : (x.extract j (j + 1)).size = 1 := by rw [hex]; rfl
            have hsl1 : (s ++ [c]).length ≤ 3 * (j + 1) := by rw [List.length_append]; simp only [List.length_cons, List.length_nil]; omega
            have hsl2 : (s ++ [32, 9] ++ [c]).length ≤ 3 * (j + 1) := by rw [List.length_append, List.length_append]; simp only [List.length_cons, List.length_nil]; omega
            have HL1 := Lib.hid hsl1
            have HL2 := Lib.hid hsl2
            clear hn hci hex hE1 hE2 hcat hsl1 hsl2
            have hsp : (⟨s.toArray⟩ : ByteArray) ++ (⟨#[32, 9]⟩ : ByteArray) = ⟨(s ++ [32, 9]).toArray⟩ := by rw [cat_one]
            have hspz := st_sz (s ++ [32, 9])
            have hspl : (s ++ [32, 9]).length = s.length + 2 := by rw [List.length_append]; rfl
            have HSP := Lib.hid hsp
            clear hsp
            generalize hd : (c.toNat : Int) = d at hc HE2
            clear hd
            have hsl0 : ∀ w, (Instr.slice 9 (.string x) (some (.int .i64 (j : Int))) (some (.int .i64 ((j : Int) + 1))) none).run Try.prog w = .ok (.string (x.extract j (j + 1))) w := fun w => by
              rw [run_slice_string w 9 x .i64 .i64 (j : Int) ((j : Int) + 1) Try.underlying9 (by omega) (by omega) (by omega)]
              rfl
            by_cases hbl : d = 32 ∨ d = 9
            · have HEb := Aside0.mk (HE2.out hbl)
              have hb1 : d = 32 → True := fun _ => trivial
              by_cases hkl : k' < l1.length
              · obtain ⟨ad1, e1, hx1⟩ := Kd.at_int (Kd.C_below H1.out HW2.out) (k' : Int) (by omega) (by omega)
                cases e1
                rw [Int.toNat_natCast] at hx1
                generalize rd l1 (k' : Int) = y at hx1
                rcases hbl with rfl | rfl
                all_goals
                  by_cases hy : Int.tmod y 2 = 1
                  case' pos =>
                    go_wp2
                    rw [HSP.out, HCAT.out]
                    go_round
                    case' rel => exact ⟨k' + 1, j + 1, _, by omega, by omega, by go_num, by go_num, rfl, HL2.out, HEb⟩
                    case' measure => simp [intOf]; omega
                  case' neg =>
                    have hyb : (Int.tmod y 2 == 1) = false := beq_false_of_ne hy
                    go_wp2
                    rw [HCAT.out]
                    go_round
                    case' rel => exact ⟨k' + 1, j + 1, _, by omega, by omega, by go_num, by go_num, rfl, HL1.out, HE1⟩
                    case' measure => simp [intOf]; omega
              · rcases hbl with rfl | rfl
                all_goals
                  go_wp2
                  rw [HCAT.out]
                  go_round
                  case' rel => exact ⟨k' + 1, j + 1, _, by omega, by omega, by go_num, by go_num, rfl, HL1.out, HE1⟩
                  case' measure => simp [intOf]; omega
            · have h32 : ¬ d = 32 := fun h => hbl (.inl h)
              have h9 : ¬ d = 9 := fun h => hbl (.inr h)
              have h32b : (d == 32) = false := beq_false_of_ne h32
              have h9b : (d == 9) = false := beq_false_of_ne h9
              go_wp2
              rw [HCAT.out]
              go_round
              case rel => exact ⟨k', j + 1, _, by omega, by omega, by go_num, by go_num, rfl, HL1.out, HE1⟩
              case measure => simp [intOf]; omega
          · have hje : j = x.size := by omega
            subst hje
            have hEx : Eq2 s (tl x) := by have := HE.out; rwa [List.take_of_length_le (by omega)] at this
            have HBl1 := Aside0.mk (HBl.out.snoc (s := ⟨s.toArray⟩) hEx (by rw [hsz]; omega))
            have HZ1 := Aside0.mk (show ∀ y ∈ l0.take (i + 1), y.size ≤ 50 from fun y hy => by
              rw [HT.out] at hy
              rcases List.mem_append.1 hy with hy | hy
              · exact HZ.out y hy
              · rw [List.mem_singleton.1 hy]; exact h50)
            have hjn : joinL (l0.take (i + 1)) = joinL (l0.take i) ++ (if i = 0 then [] else [44, 32]) ++ tl x := by
              rw [HT.out, join_snoc, List.length_take, Nat.min_eq_left hi]
            have hjl := join_len 50 (l0.take i) HZ.out
            rw [List.length_take, Nat.min_eq_left hi] at hjl
            have hlA : ((l0.take i).map fA).length = i := by rw [List.length_map, List.length_take, Nat.min_eq_left hi]
            have hlB : (ss.map fB).length = i := by rw [List.length_map, HBl.out.len, List.length_take, Nat.min_eq_left hi]
            have hmA : (l0.take i).map fA ++ [fA x] = (l0.take (i + 1)).map fA := by rw [HT.out, List.map_append]; rfl
            have hmB : ss.map fB ++ [fB ⟨s.toArray⟩] = (ss ++ [(⟨s.toArray⟩ : ByteArray)]).map fB := by rw [List.map_append]; rfl
            have HLA := Lib.hid hlA
            have HLB := Lib.hid hlB
            have HMA := Lib.hid hmA
            have HMB := Lib.hid hmB
            have HJ := Lib.hid hjn
            clear HE hEx hjn HBl HZ hlA hlB hmA hmB
            have hjz := st_sz (joinL (l0.take i))
            generalize joinL (l0.take i) = J at HJ hjl hjz ⊢
            generalize (l0.take i).map fA = LA at *
            generalize ss.map fB = LB at *
            by_cases h0 : 0 < (i : Int)
            case' pos =>
              have hone : (⟨J.toArray⟩ : ByteArray) ++ ⟨#[44, 32]⟩ ++ x = ⟨(joinL (l0.take (i + 1))).toArray⟩ := by
                rw [HJ.out, if_neg (by omega)]; exact tl_inj (by unfold tl; simp [ByteArray.data_append])
            case' neg =>
              have hone : (⟨J.toArray⟩ : ByteArray) ++ x = ⟨(joinL (l0.take (i + 1))).toArray⟩ := by
                rw [HJ.out, if_pos (by omega)]; exact tl_inj (by unfold tl; simp [ByteArray.data_append])
            all_goals
              have HO := Lib.hid hone
              clear hone
              go_wp2_with (first
                | ((with_reducible refine gate_builtin (b := .append) (xs := #[.tmp 95, .tmp 101]) rfl ?_); at_builtin; refine Kd.R_append k38 (w0 := W) W.heap.size rfl (.tmp 95) (.tmp 101) 22 38 (.agg #[(.string ⟨#[]⟩), (.string ⟨#[]⟩)]) 32 rfl Try.underlying22 info38 rfl (by decide) (by omega) u6 LA (fA x) [.string ⟨#[65, 99, 99, 101, 112, 116]⟩, .string x] (fun q => True ∧ some q ≠ u7.ownBlock) (fun _ => False) rfl rfl ?aP (fun _ hk => hk.elim) ?aF ?aO ?aB ?aS ?aL ?_; (case aP => exact k38_mkM _ _ _ (fA x)); (case aF => exact fun q hq => ⟨trivial, Kd.fresh' (Kd.R_lt HBb2.out) q hq⟩); (case aO => exact HA2.out); (case aB => exact HW2.out); (case aS => exact HW2.out.size); (case aL => rw [HLA.out]; omega); intro v6' w3 ho hb hg hat; have HA3 := Aside0.mk ho; have HB3 := Aside0.mk (Kd.R_after (ok := fun _ => True) HBb2.out hg hat); have HW3 := Aside0.mk hb; clear ho hb hg hat HA2 HBb2 HW2; have hx3 := HRD.out w3 HW3.out)
                | ((with_reducible refine gate_builtin (b := .append) (xs := #[.tmp 103, .tmp 106]) rfl ?_); at_builtin; refine Kd.R_append k38 (w0 := W) W.heap.size rfl (.tmp 103) (.tmp 106) 22 38 (.agg #[(.string ⟨#[]⟩), (.string ⟨#[]⟩)]) 32 rfl Try.underlying22 info38 rfl (by decide) (by omega) u7 LB (fB ⟨s.toArray⟩) [.string ⟨#[97, 67, 67, 69, 80, 84]⟩, .string ⟨s.toArray⟩] (fun q => True ∧ some q ≠ v6'.ownBlock) (fun _ => False) rfl rfl ?aP (fun _ hk => hk.elim) ?aF ?aO ?aB ?aS ?aL ?_; (case aP => exact k38_mkM _ _ _ (fB ⟨s.toArray⟩)); (case aF => exact fun q hq => ⟨trivial, Kd.fresh' (Kd.R_lt HA3.out) q hq⟩); (case aO => exact HB3.out); (case aB => exact HW3.out); (case aS => exact HW3.out.size); (case aL => rw [HLB.out]; omega); intro v7' w4 ho hb hg hat; have HB4 := Aside0.mk ho; have HA4 := Aside0.mk (Kd.R_after (ok := fun _ => True) HA3.out hg hat); have HW4 := Aside0.mk hb; clear ho hb hg hat HA3 HB3 HW3; have hx4 := HRD.out w4 HW4.out))
              rw [HO.out]
              go_roundw
              case' rel => exact ⟨i + 1, k', ss ++ [⟨s.toArray⟩], by omega, by omega, by go_num, rfl, rfl, ⟨by rw [HT.out]; exact HBl1.out⟩, HZ1, ⟨by rw [← HMA.out]; exact HA4.out⟩, ⟨by rw [← HMB.out]; exact HB4.out⟩, HW4⟩
              case' measure => simp [intOf]; omega
    · have hie : i = l0.length := by omega
      subst hie
      have hBl := HBl.out
      rw [List.take_length] at hBl
      have hZ := HZ.out
      rw [List.take_length] at hZ
      obtain ⟨kf, f1, f2, f3⟩ := blanks_facts l0 ss h5 hZ hBl
      have hjz := st_sz (joinL l0)
      have hlb : ss.length = l0.length := hBl.len
      have HA2 := Aside0.mk (show Kd.R k38 38 wr W.heap.size (fun q => True ∧ some q ≠ u7.ownBlock) u6 (l0.map fA) by have := HA.out; rwa [List.take_length] at this)
      rw [List.take_length]
      have hlz : (ss.map fB ++ [fA ⟨#[122, 122]⟩]).length = (ss.map fB).length + 1 := by rw [List.length_append]; rfl
      have hlbm : (ss.map fB).length ≤ 5 := by rw [List.length_map, hlb]; exact h5
      have F1 := Lib.hid (show vary_Match.f kf 0 ⟨#[]⟩ accR [] (l0.map fA) (ss.map fB) = some true from f1)
      have F2 := Lib.hid (show vary_Match.f kf 0 ⟨#[]⟩ accR [] (l0.map fA) (oneF l0) = some true from f2)
      have F3 := Lib.hid (show vary_Match.f kf 0 ⟨#[]⟩ accR [] (l0.map fA) (ss.map fB ++ [fA ⟨#[122, 122]⟩]) = some false from f3)
      have HOF := Lib.hid (show oneF l0 = if l0.length = 0 then [] else [⟨accN, ⟨(joinL l0).toArray⟩⟩] from rfl)
      clear hBl hZ f1 f2 f3 HBl HZ hlb HA hi hlt
      have HLB := Lib.hid hlbm
      have HLZ := Lib.hid hlz
      clear hlz hlbm
      have HLE := Lib.hid (show ss.map fB ++ [fA ⟨#[122, 122]⟩] = ss.map fB ++ [fA ⟨#[122, 122]⟩] from rfl)
      generalize hJ : joinL l0 = J at hjz HOF ⊢
      clear hJ
      generalize l0.map fA = LA at F1 F2 F3 HA2
      generalize hLZ : ss.map fB ++ [fA ⟨#[122, 122]⟩] = LZ at F3 HLZ
      generalize ss.map fB = LB at F1 HBb HLB HLZ hLZ
      have HZE := Lib.hid hLZ
      clear hLZ HLE
      generalize oneF l0 = LO at F2 HOF
      obtain ⟨A6, c6, rfl⟩ := Kd.R_slice HA2.out
      obtain ⟨A7, c7, rfl⟩ := Kd.R_slice HBb.out
      by_cases h0 : (l0.length : Int) = 0
      case' pos =>
        have hof : LO = [] := by rw [HOF.out, if_pos (by omega)]
      case' neg =>
        have hof : LO = [⟨accN, ⟨J.toArray⟩⟩] := by rw [HOF.out, if_neg (by omega)]
        have h0b : ((l0.length : Int) == 0) = false := beq_false_of_ne h0
      all_goals
        clear HOF
        have HOE := Lib.hid hof
        clear hof
        go_wp2_with fail
        have hW0 : ∃ W0 : World, W0 = ((wr.alloc (Obj.cells #[Value.string ⟨#[118, 97, 114, 121]⟩, Value.string ⟨#[65, 67, 67, 69, 80, 84]⟩] 38)).alloc (Obj.cells #[Value.int IntKind.i64 0, Value.string ⟨#[]⟩, Value.slice (some ⟨wr.heap.size, 0, none⟩) 1 1, Value.slice none 0 0] 25)).alloc (Obj.cells #[Value.string ⟨#[97, 99, 99, 101, 112, 116]⟩, Value.string ⟨J.toArray⟩] 38) := ⟨_, rfl⟩
        obtain ⟨W0, hW0⟩ := hW0
        have hB0 : Below wr.heap.size wr W0 := by rw [hW0]; exact below_alloc (below_alloc (below_alloc (Below.refl _ _) _) _) _
        have hb0 : W0.heap[wr.heap.size]? = some (.cells #[Value.string ⟨#[118, 97, 114, 121]⟩, Value.string ⟨#[65, 67, 67, 69, 80, 84]⟩] 38 (0, 0)) := by rw [hW0]; exact blk_alloc (blk_alloc (blk_new _ _) _) _
        have hb1 : W0.heap[wr.heap.size + 1]? = some (.cells #[Value.int IntKind.i64 0, Value.string ⟨#[]⟩, Value.slice (some ⟨wr.heap.size, 0, none⟩) 1 1, Value.slice none 0 0] 25 (0, 0)) := by rw [hW0]; exact blk_alloc (by simpa using blk_new (wr.alloc (Obj.cells #[Value.string ⟨#[118, 97, 114, 121]⟩, Value.string ⟨#[65, 67, 67, 69, 80, 84]⟩] 38)) _) _
        have hb2 : W0.heap[wr.heap.size + 1 + 1]? = some (.cells #[Value.string ⟨#[97, 99, 99, 101, 112, 116]⟩, Value.string ⟨J.toArray⟩] 38 (0, 0)) := by rw [hW0]; simpa using blk_new ((wr.alloc (Obj.cells #[Value.string ⟨#[118, 97, 114, 121]⟩, Value.string ⟨#[65, 67, 67, 69, 80, 84]⟩] 38)).alloc (Obj.cells #[Value.int IntKind.i64 0, Value.string ⟨#[]⟩, Value.slice (some ⟨wr.heap.size, 0, none⟩) 1 1, Value.slice none 0 0] 25)) _
        have HF := Aside0.mk (Leaf.C_block k38 (fun x => [.string x.f0, .string x.f1]) (fun _ => rfl) W0 _ _ _ _ accR (fun x _ => k38_mk W0 x) hb0 rfl (by simp [accR]))
        have HX := Aside0.mk hb1
        have HC6 := Aside0.mk (Kd.C_below (Kd.R_reads' HA2.out).2.2 hB0)
        have HC7 := Aside0.mk (Kd.C_below (Kd.R_reads' HBb.out).2.2 hB0)
        have hcc6 := (Kd.R_reads' HA2.out).2.1
        have hcc7 := (Kd.R_reads' HBb.out).2.1
        have HWB := Aside0.mk (HW.out.trans (Below.mono hB0 HW.out.size))
        rw [← hW0]
        clear hW0 hB0 hb0 hb1 HA2 HBb HW
        first
          | (obtain rfl : LO = [] := HOE.out; have HO2 := Aside0.mk (Kd.C_nil k38 W0))
          | (obtain rfl : LO = [⟨accN, ⟨J.toArray⟩⟩] := HOE.out; have HO2 := Aside0.mk (Leaf.C_block k38 (fun x => [.string x.f0, .string x.f1]) (fun _ => rfl) W0 _ _ _ _ [(⟨accN, ⟨J.toArray⟩⟩ : S38)] (fun x _ => k38_mk W0 x) hb2 rfl (by simp)))
        clear HOE
        clear hb2
        have HBC := Aside0.mk (below_drew1 (Below.refl W0.heap.size W0))
        have HSL := Lib.hid (show ∀ w' : World, Below W0.heap.size W0 w' → (w'.cell? ⟨wr.heap.size + 1, 0, none⟩ = some (.int .i64 0) ∧ w'.cell? ⟨wr.heap.size + 1, 1, none⟩ = some (.string ⟨#[]⟩) ∧ w'.cell? ⟨wr.heap.size + 1, 2, none⟩ = some (.slice (some ⟨wr.heap.size, 0, none⟩) 1 1) ∧ w'.cell? ⟨wr.heap.size + 1, 3, none⟩ = some (.slice none 0 0)) from fun w' h => ⟨(blk_cell (blk_below HX.out h) 0).trans rfl, (blk_cell (blk_below HX.out h) 1).trans rfl, (blk_cell (blk_below HX.out h) 2).trans rfl, (blk_cell (blk_below HX.out h) 3).trans rfl⟩)
        have T1 : True := trivial
        have T2 : True := trivial
        have T3 : True := trivial
        have T4 : True := trivial
        go_region_held3 (fun w' => w'.cell? ⟨wr.heap.size + 1, 0, none⟩ = some (.int .i64 0) ∧ w'.cell? ⟨wr.heap.size + 1, 1, none⟩ = some (.string ⟨#[]⟩) ∧ w'.cell? ⟨wr.heap.size + 1, 2, none⟩ = some (.slice (some ⟨wr.heap.size, 0, none⟩) 1 1) ∧ w'.cell? ⟨wr.heap.size + 1, 3, none⟩ = some (.slice none 0 0)) (first | (exact HSL.out _ HBC.out) | (exact HSL.out _ (below_alloc HBC.out _))) (first
          | (clear T1; go_at_call 16; refine (vary_Match.calls kf 0 ⟨#[]⟩ (some ⟨wr.heap.size, 0, none⟩) 1 accR none 0 [] A6 c6 LA A7 c7 LB true _ (Kd.C_below HF.out HBC.out) (Nat.le_refl _) (Kd.C_nil _ _) (Nat.le_refl _) (Kd.C_below HC6.out HBC.out) hcc6 (Kd.C_below HC7.out HBC.out) hcc7 F1.out).mono ?_; rintro e w5 ⟨rfl, hb⟩; have HBC5 := Aside0.mk (HBC.out.trans (Below.mono hb HBC.out.size)); clear hb HBC; have HBC := HBC5; clear HBC5)
          | (clear T2; go_at_call 16; refine (vary_Match.calls kf 0 ⟨#[]⟩ (some ⟨wr.heap.size, 0, none⟩) 1 accR none 0 [] A6 c6 LA _ _ _ true _ (Kd.C_below HF.out HBC.out) (Nat.le_refl _) (Kd.C_nil _ _) (Nat.le_refl _) (Kd.C_below HC6.out HBC.out) hcc6 (Kd.C_below HO2.out HBC.out) (Nat.le_refl _) F2.out).mono ?_; rintro e w6 ⟨rfl, hb⟩; have HBC5 := Aside0.mk (HBC.out.trans (Below.mono hb HBC.out.size)); clear hb HBC; have HBC := HBC5; clear HBC5)
          | (refine Kd.R_append_rows_step k38 (w0 := W0) W0.heap.size (by rfl) (.const (.slice none 0 0)) (.tmp 140) 22 38 (.agg #[(.string ⟨#[]⟩), (.string ⟨#[]⟩)]) 32 (by rfl) Try.underlying22 info38 rfl (by decide) (by omega) (.slice none 0 0) [] LB A7 LB.length c7 (fun _ => True) (fun _ => False) (by rfl) (by rfl) (Kd.R_nil _ _ _ _ _) (Kd.C_below HC7.out HBC.out) (fun _ _ h => h) (fun _ h => h.elim) (fun _ _ => trivial) HBC.out HBC.out.size (by have := HLB.out; simp only [List.length_nil]; omega) ?_; intro v141 w7 ho hb hg hat; have HR1 : Aside0 (Kd.R k38 38 w7 W0.heap.size (fun _ => True) v141 LB) := ⟨ho⟩; clear hat ho HBC hg; have HBC := Aside0.mk hb; clear hb; obtain ⟨A8, c8, rfl⟩ := Kd.R_slice HR1.out)
          | (refine Kd.R_append_rows_step k38 (w0 := W0) W0.heap.size (by rfl) (.const (.slice none 0 0)) (.tmp 140) 22 38 (.agg #[(.string ⟨#[]⟩), (.string ⟨#[]⟩)]) 32 (by rfl) Try.underlying22 info38 rfl (by decide) (by omega) (.slice none 0 0) [] LB A7 LB.length c7 (fun _ => True) (fun _ => False) (by rfl) (by rfl) (Kd.R_nil _ _ _ _ _) (Kd.C_below HC7.out (below_alloc HBC.out _)) (fun _ _ h => h) (fun _ h => h.elim) (fun _ _ => trivial) (below_alloc HBC.out _) (below_alloc HBC.out _).size (by have := HLB.out; simp only [List.length_nil]; omega) ?_; intro v141 w7 ho hb hg hat; have HR1 : Aside0 (Kd.R k38 38 w7 W0.heap.size (fun _ => True) v141 LB) := ⟨ho⟩; have HLT := Aside0.mk (Kd.C_below (Leaf.C_block k38 (fun x => [.string x.f0, .string x.f1]) (fun _ => rfl) _ _ _ _ _ [fA ⟨#[122, 122]⟩] (fun x _ => k38_mk _ x) (blk_new w6 (.cells #[.string ⟨#[65, 99, 99, 101, 112, 116]⟩, .string ⟨#[122, 122]⟩] 38)) rfl (by simp [fA])) ((Below.refl _ _).grown hg (Nat.le_refl _) (fun q hq => by simp [Value.ownBlock] at hq))); clear hat ho HBC hg; have HBC := Aside0.mk hb; clear hb; obtain ⟨A8, c8, rfl⟩ := Kd.R_slice HR1.out)
          | (have hlt := HLT.out; refine Kd.R_append_rows_step k38 (w0 := W0) W0.heap.size (by rfl) (.tmp 141) (.tmp 143) 22 38 (.agg #[(.string ⟨#[]⟩), (.string ⟨#[]⟩)]) 32 (by rfl) Try.underlying22 info38 rfl (by decide) (by omega) (.slice A8 LB.length c8) LB [fA ⟨#[122, 122]⟩] (some ⟨w6.heap.size, 0, none⟩) 1 1 (fun _ => True) (fun _ => False) (by rfl) (by rfl) HR1.out hlt (fun _ _ h => h) (fun _ h => h.elim) (fun _ _ => trivial) HBC.out HBC.out.size (by have := HLB.out; omega) ?_; intro v144 w9 ho hb hg hat; rw [HZE.out] at ho; have HR3 := Aside0.mk ho; clear hat ho HBC hg HR1 hlt HLT; have HBC := Aside0.mk hb; clear hb; obtain ⟨A10, c10, rfl⟩ := Kd.R_slice HR3.out; have HC10 := Aside0.mk (Kd.R_reads' HR3.out).2)
          | (refine Kd.R_append_rows_step k38 (w0 := W0) W0.heap.size (by rfl) (.tmp 141) (.tmp 143) 22 38 (.agg #[(.string ⟨#[]⟩), (.string ⟨#[]⟩)]) 32 (by rfl) Try.underlying22 info38 rfl (by decide) (by omega) (.slice A8 LB.length c8) LB [fA ⟨#[122, 122]⟩] (some ⟨w7.heap.size, 0, none⟩) 1 1 (fun _ => True) (fun _ => False) (by rfl) (by rfl) (Kd.R_alloc HR1.out _) (Leaf.C_block k38 (fun x => [.string x.f0, .string x.f1]) (fun _ => rfl) _ _ _ _ _ [fA ⟨#[122, 122]⟩] (fun x _ => k38_mk _ x) (blk_new w7 _) rfl (by simp [fA])) (fun _ _ h => h) (fun _ h => h.elim) (fun _ _ => trivial) (below_alloc HBC.out _) (below_alloc HBC.out _).size (by have := HLB.out; omega) ?_; intro v144 w9 ho hb hg hat; rw [HZE.out] at ho; have HR3 := Aside0.mk ho; clear hat ho HBC hg HR1; have HBC := Aside0.mk hb; clear hb; obtain ⟨A10, c10, rfl⟩ := Kd.R_slice HR3.out; have HC10 := Aside0.mk (Kd.R_reads' HR3.out).2)
          | (clear T3; go_at_call 16; refine (vary_Match.calls kf 0 ⟨#[]⟩ (some ⟨wr.heap.size, 0, none⟩) 1 accR none 0 [] A6 c6 LA A10 c10 LZ false _ (Kd.C_below HF.out HBC.out) (Nat.le_refl _) (Kd.C_nil _ _) (Nat.le_refl _) (Kd.C_below HC6.out HBC.out) hcc6 HC10.out.2 HC10.out.1 F3.out).mono ?_; rintro e w5 ⟨rfl, hb⟩; have HBC5 := Aside0.mk (HBC.out.trans (Below.mono hb HBC.out.size)); clear hb HBC; have HBC := HBC5; clear HBC5))
        all_goals
          go_wp2
          go_ret
          exact ⟨rfl, HWB.out.trans (Below.mono HBC.out HWB.out.size)⟩
end Go.Proofs.Ytefijfanjekchaa.Walk
