/- What varies by everything matches nothing, and what varies by nothing matches all: the law's own text, walked. -/
import Derived.Test.YtefijfanjekchaaGx0
import Derived.Test.YtefijfanjekchaaGx2
import Derived.Test.YtefijfanjekchaaGx3
import Derived.Test.YtefijfanjekchaaGx4
import Derived.Test.YtefijfanjekchaaGx7
import Derived.Test.YtefijfanjekchaaVaryS
import Derived.Test.YtefijfanjekchaaLits
import Derived.OpenShut
import Derived.Outline
set_option linter.unusedVariables false
set_option linter.unusedSimpArgs false
namespace Go.Proofs.Ytefijfanjekchaa.Walk
open Go.RowKit Go.Proofs.Ytefijfanjekchaa.G Go.Proofs.YtefijfanjekchaaW.PrintWords Go.Proofs.YtefijfanjekchaaW.PrintLast Go.Proofs.YtefijfanjekchaaW.PrintMore Go.Proofs.Ytefijfanjekchaa.Plain Go.Proofs.Ytefijfanjekchaa.Pure
theorem st_sz (l : W8) : (⟨l.toArray⟩ : ByteArray).size = l.length := by show l.toArray.size = _; rw [List.size_toArray]
theorem lett_next (s : ByteArray) (k : Nat) (hk : k < s.size) : ∃ c : UInt8, letters s (k + 1) = letters s k ++ (if lett c = true then [c] else []) ∧ (∀ h : k < s.size, ((s[k]'h).toNat : Int) = (c.toNat : Int)) ∧ s.extract k (k + 1) = ⟨#[c]⟩ := by
  have hl : k < s.data.toList.length := by rw [data_length]; exact hk
  refine ⟨s.data.toList[k], ?_, fun h => rfl, ?_⟩
  · unfold letters
    rw [List.take_succ_eq_append_getElem hl, List.filter_append]
    congr 1
    rw [List.filter_cons]
    rfl
  · apply tl_inj
    unfold tl
    rw [ByteArray.data_extract, Array.toList_extract, List.extract_eq_take_drop, Nat.add_sub_cancel_left, List.drop_eq_getElem_cons hl]
    rfl
theorem lett_iff (c : UInt8) : lett c = true ↔ 97 ≤ (c.toNat : Int) ∧ (c.toNat : Int) ≤ 122 := by
  unfold lett
  rw [decide_eq_true_iff]
  omega
set_option maxHeartbeats 8000000 in
set_option maxRecDepth 100000 in
theorem VaryStar (W : World) (A0 : Option Addr) (c0 : Nat) (l0 : List S38) (A1 : Option Addr) (c1 : Nat) (l1 : List S38) (A2 : Option Addr) (c2 : Nat) (l2 : List ByteArray) (a3 : Int)
    (hr0 : Kd.C k38 W A0 l0.length l0) (hc0 : l0.length ≤ c0) {G0 : Prop} (g0 : G0) (hr1 : Kd.C k38 W A1 l1.length l1) (hc1 : l1.length ≤ c1) {G1 : Prop} (g1 : G1) (hr2 : Kd.C Kd.string W A2 l2.length l2) (hc2 : l2.length ≤ c2) {G2 : Prop} (g2 : G2) (w3 : (Lit.int .u8 a3).wf = true) :
    Calls Try.prog 6 #[.slice A0 l0.length c0, .slice A1 l1.length c1, .slice A2 l2.length c2, .int .u8 a3] W fun e w' => e = .returned (.bool true) ∧ Below W.heap.size W w' := by
  have hb := bounds_u8 w3
  obtain ⟨kk, hkk⟩ := known_ev.rounds
  have HK := Lib.hid hkk
  have H0 := Aside0.mk hr0
  have H1 := Aside0.mk hr1
  have H2 := Aside0.mk hr2
  clear hkk hr0 hr1 hr2 g0 g1 g2
  rcases lightN_ev 10 (by omega) l0 with ⟨e0, hs0⟩ | e0
  case inr =>
    obtain ⟨k0, hk0⟩ := e0.rounds
    have HK0 := Lib.hid hk0
    clear hk0 e0
    go_enter Try.func6, Try.ntmps6
    go_wp2_with fail
    refine (ambrylaw15_known.calls kk true _ HK.out).mono ?_
    rintro e w1 ⟨rfl, hB⟩
    have HB := Aside0.mk hB
    clear hB
    go_wp2_with fail
    refine (ambryhelp_Light.calls k0 A0 c0 l0 10 false _ (Kd.C_below H0.out HB.out) hc0 HK0.out).mono ?_
    rintro e w2 ⟨rfl, hD⟩
    have HB2 := Aside0.mk (Leaf.d_below HB.out hD)
    clear hD
    go_wp2
    go_ret
    exact ⟨rfl, HB2.out⟩
  obtain ⟨k0, hk0⟩ := e0.rounds
  have HK0 := Lib.hid hk0
  clear hk0 e0
  rcases lightN_ev 10 (by omega) l1 with ⟨e1, hs1⟩ | e1
  case inr =>
    obtain ⟨k1, hk1⟩ := e1.rounds
    have HK1 := Lib.hid hk1
    clear hk1 e1
    go_enter Try.func6, Try.ntmps6
    go_wp2_with fail
    refine (ambrylaw15_known.calls kk true _ HK.out).mono ?_
    rintro e w1 ⟨rfl, hB⟩
    have HB := Aside0.mk hB
    clear hB
    go_wp2_with fail
    refine (ambryhelp_Light.calls k0 A0 c0 l0 10 true _ (Kd.C_below H0.out HB.out) hc0 HK0.out).mono ?_
    rintro e w2 ⟨rfl, hD⟩
    have HB2 := Aside0.mk (Leaf.d_below HB.out hD)
    clear hD
    go_wp2_with fail
    refine (ambryhelp_Light.calls k1 A1 c1 l1 10 false _ (Kd.C_below H1.out HB2.out) hc1 HK1.out).mono ?_
    rintro e w3 ⟨rfl, hD⟩
    have HB3 := Aside0.mk (Leaf.d_below HB2.out hD)
    clear hD
    go_wp2
    go_ret
    exact ⟨rfl, HB3.out⟩
  obtain ⟨k1, hk1⟩ := e1.rounds
  have HK1 := Lib.hid hk1
  have hS0 : Small l0 := Lt.small (n := 10) hs0 (by omega)
  have hS1 : Small l1 := Lt.small (n := 10) hs1 (by omega)
  have HS := Lib.hid (fun (v : ByteArray) (h1 : v.size ≤ 300) (h2 : namesP (listL [⟨varyN, v⟩] varyN) = ([], true)) => star_facts v h1 h2 l0 l1 hS0 hS1)
  clear hk1 e1 hs0 hs1 hS0 hS1
  by_cases h5 : l2.length ≤ 5
  case neg =>
    go_enter Try.func6, Try.ntmps6
    go_wp2_with fail
    refine (ambrylaw15_known.calls kk true _ HK.out).mono ?_
    rintro e w1 ⟨rfl, hB⟩
    have HB := Aside0.mk hB
    clear hB
    go_wp2_with fail
    refine (ambryhelp_Light.calls k0 A0 c0 l0 10 true _ (Kd.C_below H0.out HB.out) hc0 HK0.out).mono ?_
    rintro e w2 ⟨rfl, hD⟩
    have HB2 := Aside0.mk (Leaf.d_below HB.out hD)
    clear hD
    go_wp2_with fail
    refine (ambryhelp_Light.calls k1 A1 c1 l1 10 true _ (Kd.C_below H1.out HB2.out) hc1 HK1.out).mono ?_
    rintro e w3 ⟨rfl, hD⟩
    have HB3 := Aside0.mk (Leaf.d_below HB2.out hD)
    clear hD
    go_wp2
    go_ret
    exact ⟨rfl, HB3.out⟩
  obtain ⟨t, ht⟩ : ∃ t : Nat, t = a3.toNat % l2.length := ⟨_, rfl⟩
  have hrem : 0 < l2.length → Int.tmod a3 (l2.length : Int) = (t : Int) := fun h0 => by
    rw [Int.tmod_eq_emod_of_nonneg hb.1, ht]
    have : a3 = (a3.toNat : Int) := by omega
    rw [this]; simp
  have htl : 0 < l2.length → t < l2.length := fun h0 => by rw [ht]; exact Nat.mod_lt _ h0
  have HREM := Lib.hid hrem
  have HTL := Lib.hid htl
  clear hrem htl ht
  go_enter Try.func6, Try.ntmps6
  go_wp2_with fail
  refine (ambrylaw15_known.calls kk true _ HK.out).mono ?_
  rintro e w1 ⟨rfl, hB⟩
  have HB := Aside0.mk hB
  clear hB
  go_wp2_with fail
  refine (ambryhelp_Light.calls k0 A0 c0 l0 10 true _ (Kd.C_below H0.out HB.out) hc0 HK0.out).mono ?_
  rintro e w2 ⟨rfl, hD⟩
  have HB2 := Aside0.mk (Leaf.d_below HB.out hD)
  clear hD
  go_wp2_with fail
  refine (ambryhelp_Light.calls k1 A1 c1 l1 10 true _ (Kd.C_below H1.out HB2.out) hc1 HK1.out).mono ?_
  rintro e w3 ⟨rfl, hD⟩
  have HB3 := Aside0.mk (Leaf.d_below HB2.out hD)
  clear hD HB HB2 HK HK0 HK1
  go_wp2_with fail
  go_loopw [9, 10] (fun v9 v10 wr => ∃ i : Nat, i ≤ l2.length ∧ v10 = .int .i64 i ∧ v9 = .string ⟨(vL l2 t i).toArray⟩ ∧ Aside0 (∀ j : Nat, j < i → (rdOf ByteArray.empty l2 (j : Int)).size ≤ 30) ∧ Aside0 (Below W.heap.size W wr)) (fun _ v10 _ => l2.length - (intOf v10).toNat)
  case atStart => exact ⟨0, Nat.zero_le _, rfl, rfl, ⟨fun j hj => absurd hj (Nat.not_lt_zero j)⟩, HB3⟩
  case round =>
    obtain ⟨i, hi, rfl, rfl, HZ, HW⟩ := hrel
    have hvl := vL_len l2 t i HZ.out
    have hvz := st_sz (vL l2 t i)
    by_cases hlt : i < l2.length
    · obtain ⟨ad, e9, hx⟩ := Kd.at_string (Kd.C_below H2.out HW.out) (i : Int) (by omega) (by omega)
      cases e9
      rw [Int.toNat_natCast] at hx
      obtain ⟨x, hxe⟩ : ∃ x, rdOf ByteArray.empty l2 (i : Int) = x := ⟨_, rfl⟩
      rw [hxe] at hx
      by_cases h30 : x.size ≤ 30
      case neg =>
        go_wp2
        go_ret
        exact ⟨rfl, HW.out⟩
      have HX := Lib.hid hxe
      clear hxe
      have hvn : vL l2 t (i + 1) = vL l2 t i ++ starMark t i ++ letters x x.size ++ [44, 32] := by rw [vL, HX.out]
      have HVN := Lib.hid hvn
      clear hvn
      generalize vL l2 t i = V at *
      have HZ2 := Aside0.mk (show ∀ j : Nat, j < i + 1 → (rdOf ByteArray.empty l2 (j : Int)).size ≤ 30 from fun j hj => by
        rcases Nat.lt_or_ge j i with h | h
        · exact HZ.out j h
        · have : j = i := by omega
          subst this; rw [HX.out]; exact h30)
      clear HZ
      go_wp2_with fail
      go_loop [11, 12] (fun v11 v12 => ∃ k : Nat, k ≤ x.size ∧ v12 = .int .i64 k ∧ v11 = .string ⟨(letters x k).toArray⟩) (fun _ v12 => x.size - (intOf v12).toNat)
      case atStart => exact ⟨0, Nat.zero_le _, rfl, rfl⟩
      case round =>
        obtain ⟨k, hk, rfl, rfl⟩ := hrel
        have hll := letters_len x k
        have hlz := st_sz (letters x k)
        by_cases hkl : k < x.size
        · obtain ⟨c, hn, hc, hex⟩ := lett_next x k hkl
          have hci := lett_iff c
          have HN := Lib.hid hn
          clear hn
          generalize (c.toNat : Int) = d at hc hci
          have hxs : (x.extract k (k + 1)).size = 1 := by rw [hex]; rfl
          have hcat : (⟨(letters x k).toArray⟩ : ByteArray) ++ x.extract k (k + 1) = ⟨(letters x k ++ [c]).toArray⟩ := by rw [cat_one, hex]
          have HCAT := Lib.hid hcat
          clear hcat hex
          by_cases h97 : 97 ≤ d
          · by_cases h122 : d ≤ 122
            · have hlt2 : lett c = true := hci.2 ⟨h97, h122⟩
              have HN2 := Lib.hid (show letters x (k + 1) = letters x k ++ [c] by rw [HN.out, if_pos hlt2])
              clear hci hlt2 HN
              have hsl : ∀ w, (Instr.slice 9 (.string x) (some (.int .i64 (k : Int))) (some (.int .i64 ((k : Int) + 1))) none).run Try.prog w = .ok (.string (x.extract k (k + 1))) w := fun w => by
                rw [run_slice_string w 9 x .i64 .i64 (k : Int) ((k : Int) + 1) Try.underlying9 (by omega) (by omega) (by omega)]
                rfl
              go_wp2
              rw [HCAT.out, ← HN2.out]
              go_round
              case rel => exact ⟨k + 1, by omega, by go_num, rfl⟩
              case measure => simp [intOf]; omega
            · have hlt2 : lett c = false := by rw [Bool.eq_false_iff]; intro h; exact h122 (hci.1 h).2
              have HN2 := Lib.hid (show letters x (k + 1) = letters x k by rw [HN.out, hlt2, if_neg (by decide), List.append_nil])
              clear hci hlt2 HN
              go_wp2
              go_round
              case rel => exact ⟨k + 1, by omega, by go_num, by rw [HN2.out]⟩
              case measure => simp [intOf]; omega
          · have hlt2 : lett c = false := by rw [Bool.eq_false_iff]; intro h; exact h97 (hci.1 h).1
            have HN2 := Lib.hid (show letters x (k + 1) = letters x k by rw [HN.out, hlt2, if_neg (by decide), List.append_nil])
            clear hci hlt2 HN
            go_wp2
            go_round
            case rel => exact ⟨k + 1, by omega, by go_num, by rw [HN2.out]⟩
            case measure => simp [intOf]; omega
        · have hke : k = x.size := by omega
          subst hke
          have hrem := HREM.out (by omega)
          by_cases hit : i = t
          · subst hit
            have HM := Lib.hid (show starMark i i = [42, 44, 32] from if_pos rfl)
            go_wp2
            go_roundw
            case rel => exact ⟨i + 1, by omega, by go_num, by rw [HVN.out, HM.out]; exact congrArg Value.string (tl_inj (by unfold tl; simp [ByteArray.data_append])), HZ2, HW⟩
            case measure => simp [intOf]; omega
          · have hii : ((i : Int) == (t : Int)) = false := beq_false_of_ne (by omega)
            have HM := Lib.hid (show starMark t i = [] from if_neg hit)
            clear hit
            go_wp2
            go_roundw
            case rel => exact ⟨i + 1, by omega, by go_num, by rw [HVN.out, HM.out]; exact congrArg Value.string (tl_inj (by unfold tl; simp [ByteArray.data_append])), HZ2, HW⟩
            case measure => simp [intOf]; omega
    · have hie : i = l2.length := by omega
      subst hie
      have hfin : ∃ v : ByteArray, v.size ≤ 300 ∧ namesP (listL [⟨varyN, v⟩] varyN) = ([], true) ∧ v = (if l2.length = 0 then (⟨#[42]⟩ : ByteArray) else ⟨(vL l2 t l2.length).toArray⟩) := by
        rcases Nat.eq_zero_or_pos l2.length with h0 | h0
        · exact ⟨⟨#[42]⟩, by decide, one_star, by rw [if_pos h0]⟩
        · exact ⟨⟨(vL l2 t l2.length).toArray⟩, by rw [hvz]; omega, vL_star l2 t _ (HTL.out h0), by rw [if_neg (by omega)]⟩
      obtain ⟨v, hv3, hvs, hve⟩ := hfin
      obtain ⟨kf, f1, f2, f3, f4, f5⟩ := HS.out v hv3 hvs
      have F1 := Lib.hid f1
      have F2 := Lib.hid f2
      have F3 := Lib.hid f3
      have F4 := Lib.hid f4
      have F5 := Lib.hid f5
      have HVE := Lib.hid hve
      clear f1 f2 f3 f4 f5 hvs hve HS hvl HREM HTL H2 HB3 hvz HZ
      generalize vL l2 t l2.length = V at *
      by_cases h0 : l2.length = 0
      case' pos => have hv : v = (⟨#[42]⟩ : ByteArray) := by rw [HVE.out, if_pos h0]
      case' neg => have hv : v = (⟨V.toArray⟩ : ByteArray) := by rw [HVE.out, if_neg h0]
      all_goals
        clear HVE
        go_wp2_with fail
        rw [← hv]
        clear hv
        have hW0 : ∃ W0 : World, W0 = (wr.alloc (Obj.cells #[Value.string ⟨#[86, 97, 114, 121]⟩, Value.string v] 38)).alloc (Obj.cells #[Value.int IntKind.i64 0, Value.string ⟨#[]⟩, Value.slice (some ⟨wr.heap.size, 0, none⟩) 1 1, Value.slice none 0 0] 25) := ⟨_, rfl⟩
        obtain ⟨W0, hW0⟩ := hW0
        have hB0 : Below wr.heap.size wr W0 := by rw [hW0]; exact below_alloc (below_alloc (Below.refl _ _) _) _
        have hb0 : W0.heap[wr.heap.size]? = some (.cells #[Value.string ⟨#[86, 97, 114, 121]⟩, Value.string v] 38 (0, 0)) := by rw [hW0]; exact blk_alloc (blk_new _ _) _
        have hb1 : W0.heap[wr.heap.size + 1]? = some (.cells #[Value.int IntKind.i64 0, Value.string ⟨#[]⟩, Value.slice (some ⟨wr.heap.size, 0, none⟩) 1 1, Value.slice none 0 0] 25 (0, 0)) := by rw [hW0]; simpa using blk_new (wr.alloc (Obj.cells #[Value.string ⟨#[86, 97, 114, 121]⟩, Value.string v] 38)) _
        have HF := Aside0.mk (Leaf.C_block k38 (fun x => [.string x.f0, .string x.f1]) (fun _ => rfl) W0 _ _ _ _ [(⟨varyN, v⟩ : S38)] (fun x _ => k38_mk W0 x) hb0 rfl (by simp))
        rw [← hW0]
        have HB0 := Aside0.mk (HW.out.trans (Below.mono hB0 HW.out.size))
        have HX := Aside0.mk hb1
        clear hW0 hB0 hb0 hb1 HW
        refine (vary_Names.calls kf 0 ⟨#[]⟩ (some ⟨wr.heap.size, 0, none⟩) 1 [⟨varyN, v⟩] none 0 [] [] true _ HF.out (Nat.le_refl _) (Kd.C_nil _ _) (Nat.le_refl _) F1.out).mono ?_
        rintro e w4 ⟨v1, rfl, hR1, hB1⟩
        have HB1 := Aside0.mk (HB0.out.trans (Below.mono hB1 HB0.out.size))
        have HF1 := Aside0.mk (Kd.C_below HF.out hB1)
        have HX1 := Aside0.mk (blk_below HX.out hB1)
        obtain ⟨A9, c9, rfl⟩ := Kd.R_slice hR1
        clear hR1 hB1 HB0 HF HX
        have c0_ := blk_cell HX1.out 0
        have c1_ := blk_cell HX1.out 1
        have c2_ := blk_cell HX1.out 2
        have c3_ := blk_cell HX1.out 3
        go_wp2_with fail
        clear c0_ c1_ c2_ c3_
        refine (vary_Match.calls kf 0 ⟨#[]⟩ (some ⟨wr.heap.size, 0, none⟩) 1 [⟨varyN, v⟩] none 0 [] A0 c0 l0 A1 c1 l1 false _ HF1.out (Nat.le_refl _) (Kd.C_nil _ _) (Nat.le_refl _) (Kd.C_below H0.out HB1.out) hc0 (Kd.C_below H1.out HB1.out) hc1 F2.out).mono ?_
        rintro e w5 ⟨rfl, hB2⟩
        have HB2 := Aside0.mk (HB1.out.trans (Below.mono hB2 HB1.out.size))
        have HF2 := Aside0.mk (Kd.C_below HF1.out hB2)
        have HX2 := Aside0.mk (blk_below HX1.out hB2)
        clear hB2 HB1 HF1 HX1
        have c0_ := blk_cell HX2.out 0
        have c1_ := blk_cell HX2.out 1
        have c2_ := blk_cell HX2.out 2
        have c3_ := blk_cell HX2.out 3
        go_wp2_with fail
        clear c0_ c1_ c2_ c3_
        refine (vary_Match.calls kf 0 ⟨#[]⟩ (some ⟨wr.heap.size, 0, none⟩) 1 [⟨varyN, v⟩] none 0 [] A0 c0 l0 A0 c0 l0 false _ HF2.out (Nat.le_refl _) (Kd.C_nil _ _) (Nat.le_refl _) (Kd.C_below H0.out HB2.out) hc0 (Kd.C_below H0.out HB2.out) hc0 F3.out).mono ?_
        rintro e w6 ⟨rfl, hB3⟩
        have HB3 := Aside0.mk (HB2.out.trans (Below.mono hB3 HB2.out.size))
        have HF3 := Aside0.mk (Kd.C_below HF2.out hB3)
        have HX3 := Aside0.mk (blk_below HX2.out hB3)
        clear hB3 HB2 HF2 HX2
        have c0_ := blk_cell HX3.out 0
        have c1_ := blk_cell HX3.out 1
        have c2_ := blk_cell HX3.out 2
        have c3_ := blk_cell HX3.out 3
        go_wp2_with fail
        clear c0_ c1_ c2_ c3_
        refine (vary_Keep.calls kf 0 ⟨#[]⟩ (some ⟨wr.heap.size, 0, none⟩) 1 [⟨varyN, v⟩] none 0 [] A0 c0 l0 [] _ HF3.out (Nat.le_refl _) (Kd.C_nil _ _) (Nat.le_refl _) (Kd.C_below H0.out HB3.out) hc0 F4.out).mono ?_
        rintro e w7 ⟨v7, rfl, hR7, hB4⟩
        have HB4 := Aside0.mk (HB3.out.trans (Below.mono hB4 HB3.out.size))
        obtain ⟨A7, c7, rfl⟩ := Kd.R_slice hR7
        clear hB4 hR7 HB3 HF3 HX3
        go_wp2_with fail
        refine (vary_Match.calls kf 0 ⟨#[]⟩ none 0 [] none 0 [] A0 c0 l0 A1 c1 l1 true _ (Kd.C_nil _ _) (Nat.le_refl _) (Kd.C_nil _ _) (Nat.le_refl _) (Kd.C_below H0.out HB4.out) hc0 (Kd.C_below H1.out HB4.out) hc1 F5.out).mono ?_
        rintro e w8 ⟨rfl, hB5⟩
        have HB5 := Aside0.mk (HB4.out.trans (Below.mono hB5 HB4.out.size))
        clear hB5 HB4
        go_wp2
        go_ret
        exact ⟨rfl, HB5.out⟩
end Go.Proofs.Ytefijfanjekchaa.Walk
