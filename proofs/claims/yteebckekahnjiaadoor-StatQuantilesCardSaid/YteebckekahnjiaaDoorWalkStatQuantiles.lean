/- The contract of StatQuantiles: more asks for no less. -/
import Derived.Test.YteebckekahnjiaaDoorStatK
import Derived.Deep.DeepMust
import Derived.OpenShut
set_option linter.unusedVariables false
set_option linter.unusedSimpArgs false
namespace Go.Proofs.YteebckekahnjiaaDoor.Walk
open Go.RowKit Go.Proofs.YteebckekahnjiaaDoor.G Go.Proofs.YteebckekahnjiaaDoorW.PrintWords Go.Proofs.YteebckekahnjiaaDoorW.PrintMore Go.Proofs.YteebckekahnjiaaDoor.Foot Go.Proofs.YteebckekahnjiaaDoor.Stat Go.Proofs.YteebckekahnjiaaDoor.StatL Go.Proofs.YteebckekahnjiaaDoor.Itoa
set_option maxHeartbeats 8000000 in
set_option maxRecDepth 100000 in
theorem StatQuantiles (W : World) (htab : Lib.TabIs Tryd.prog W "internal/strconv.uint64pow10" .u64 Lib.pow10Tab) (A0 : Option Addr) (c0 : Nat) (l0 : List Int) (a1 a2 : Int)
    (hr0 : Kd.C (Kd.int .u32) W A0 l0.length l0) (hc0 : l0.length ≤ c0) (g0 : ∀ x ∈ l0, (Lit.int .u32 x).wf = true) (w1 : (Lit.int .u8 a1).wf = true) (w2 : (Lit.int .u8 a2).wf = true) :
    Calls Tryd.prog 4 #[.slice A0 l0.length c0, .int .u8 a1, .int .u8 a2] W fun e w' => e = .returned (.bool true) ∧ Below W.heap.size W w' := by
  have HT := Lib.hid htab
  have HR0 := Lib.hid hr0
  have HG0 := Lib.hid g0
  obtain ⟨hp0, hp1⟩ := bounds_u8 w1
  obtain ⟨hq0, hq1⟩ := bounds_u8 w2
  clear htab hr0 g0 w1 w2
  go_enter Tryd.func4, Tryd.ntmps4
  go_wp2_with fail
  refine (known_calls _ HT.out).mono ?_
  rintro e w1 ⟨rfl, hB⟩
  have HO := Aside0.mk (Sto.of_below hB)
  clear hB
  by_cases h0 : l0.length = 0
  · have h0' : ((l0.length : Int) == 0) = true := beq_iff_eq.2 (by omega)
    have h0'' : (l0.length == 0) = true := beq_iff_eq.2 h0
    go_wp2
    go_ret
    exact ⟨rfl, HO.out.below⟩
  have h0' : ((l0.length : Int) == 0) = false := beq_eq_false_iff_ne.2 (by omega)
  have h0'' : (l0.length == 0) = false := beq_eq_false_iff_ne.2 h0
  have H0 := Lib.hid (show 0 < l0.length by omega)
  clear h0
  by_cases hl : 100 < l0.length
  · have hl' : decide (100 < (l0.length : Int)) = true := by simp; omega
    go_wp2
    go_ret
    exact ⟨rfl, HO.out.below⟩
  have hl' : decide (100 < (l0.length : Int)) = false := by simp; omega
  go_wp2_with fail
  refine (new_calls _).mono ?_
  rintro e w2 ⟨rfl, rfl⟩
  have HO := Aside0.mk (HO.out.push (.cells (En zero) 56))
  generalize hp : w1.heap.size = p at HO ⊢
  generalize w1.alloc (.cells (En zero) 56) = w2 at HO ⊢
  clear hp hl' h0' h0''
  go_wp2
  go_loopw [8, 9] (fun v8 v9 wr => ∃ (i most : Nat) (cs : List Int), i ≤ l0.length ∧ v9 = .int .i64 (i : Int) ∧ v8 = .int .i64 (most : Int) ∧ most ≤ 1073741823 ∧ Aside0 (Qs i most cs) ∧ Aside0 (Sto W wr [(p, OS cs)])) (fun _ v9 _ => l0.length - (intOf v9).toNat)
  case atStart => exact ⟨0, 0, zero, Nat.zero_le _, rfl, rfl, by decide, ⟨Qs.zero⟩, HO⟩
  case round =>
    clear HO
    obtain ⟨i, most, cs, hi, rfl, rfl, hm, HQ, HO⟩ := hrel
    by_cases hlt : i < l0.length
    · have hi0 : (0 : Int) ≤ (i : Int) := by omega
      have hi1 : (i : Int) < (l0.length : Int) := by omega
      obtain ⟨ad, hA, hcell⟩ := Kd.at_int (Kd.C_below HR0.out HO.out.below) (i : Int) hi0 hi1
      have hxb : 0 ≤ nth l0 i ∧ nth l0 i ≤ 4294967295 := by
        unfold nth
        rw [List.getD_eq_getElem?_getD, List.getElem?_eq_getElem hlt]
        exact bounds_u32 (HG0.out _ (List.getElem_mem hlt))
      rw [rd_nth, Int.toNat_natCast] at hcell
      generalize hx : nth l0 i = x at hcell hxb
      have HX := Lib.hid hx
      clear hx
      obtain ⟨hx0, hx1⟩ := hxb
      obtain ⟨y, hy⟩ : ∃ y : Nat, x % 1073741824 = (y : Int) := ⟨(x % 1073741824).toNat, by omega⟩
      have hyb : y ≤ 1073741823 := by omega
      subst hA
      have HQ2 := Lib.hid (HQ.out.add y hyb)
      have HBd := Lib.hid HQ.out.bd
      go_wp2_with fail
      refine (Stat.add_calls p i 0 200 (y : Int) cs _ (HO.out.get 0 rfl) HBd.out (by omega) (by omega) (by omega)).mono ?_
      rintro e w5 ⟨rfl, hb, hk⟩
      have HO2 : Aside0 (Sto W w5 [(p, OS (StatL.add cs 0 200 (y : Int)))]) := ⟨HO.out.put 0 rfl hb hk⟩
      obtain ⟨ad2, hA2, hcell2⟩ := Kd.at_int (Kd.C_below HR0.out HO2.out.below) (i : Int) hi0 hi1
      cases hA2
      rw [rd_nth, Int.toNat_natCast, HX.out] at hcell2
      clear hb hk HO hcell
      rcases Nat.le_total most y with hle | hle
      all_goals
        go_wp2
        go_roundw
        case rel => exact ⟨i + 1, max most y, _, by omega, by go_num, by first | rfl | (congr 1; omega), by omega, ⟨HQ2.out⟩, HO2⟩
        case measure => simp [intOf]; omega
    · have hin : i = l0.length := by omega
      subst hin
      have HBd := Lib.hid HQ.out.bd
      have HLAW := Lib.hid (fun p q hpq => HQ.out.law H0.out p q hpq)
      have hl100 : l0.length ≤ 100 := by omega
      generalize l0.length = n at HBd hl100
      clear HQ hl hi
      rcases Int.le_total a1 a2 with hle | hle
      · have hmin : min a1 a2 = a1 := Int.min_eq_left hle
        have hmax : max a1 a2 = a2 := Int.max_eq_right hle
        have HL2 := Lib.hid (HLAW.out a1 a2 hle)
        clear HLAW
        go_wp2_with fail
        refine (quant_calls p n a1 cs _ (HO.out.get 0 rfl) HBd.out (by omega)).mono ?_
        rintro e w4 ⟨rfl, hB⟩
        have HO4 := Aside0.mk (HO.out.step hB)
        clear hB
        go_wp2_with fail
        refine (quant_calls p n a2 cs _ (HO4.out.get 0 rfl) HBd.out (by omega)).mono ?_
        rintro e w5 ⟨rfl, hB⟩
        have HO5 := Aside0.mk (HO4.out.step hB)
        clear hB HO4
        go_wp2_with fail
        refine (quant_calls p n 100 cs _ (HO5.out.get 0 rfl) HBd.out (by omega)).mono ?_
        rintro e w6 ⟨rfl, hB⟩
        have HO6 := Aside0.mk (HO5.out.step hB)
        clear hB HO5
        have hlaw := HL2.out
        clear HL2
        generalize quant cs a1 = x at hlaw ⊢
        generalize quant cs a2 = y at hlaw ⊢
        generalize quant cs 100 = z at hlaw ⊢
        obtain ⟨h1, h2, h3, h4⟩ := hlaw
        go_wp2
        go_ret
        exact ⟨rfl, HO6.out.below⟩
      · have hmin : min a1 a2 = a2 := Int.min_eq_right hle
        have hmax : max a1 a2 = a1 := Int.max_eq_left hle
        have HL2 := Lib.hid (HLAW.out a2 a1 hle)
        clear HLAW
        go_wp2_with fail
        refine (quant_calls p n a2 cs _ (HO.out.get 0 rfl) HBd.out (by omega)).mono ?_
        rintro e w4 ⟨rfl, hB⟩
        have HO4 := Aside0.mk (HO.out.step hB)
        clear hB
        go_wp2_with fail
        refine (quant_calls p n a1 cs _ (HO4.out.get 0 rfl) HBd.out (by omega)).mono ?_
        rintro e w5 ⟨rfl, hB⟩
        have HO5 := Aside0.mk (HO4.out.step hB)
        clear hB HO4
        go_wp2_with fail
        refine (quant_calls p n 100 cs _ (HO5.out.get 0 rfl) HBd.out (by omega)).mono ?_
        rintro e w6 ⟨rfl, hB⟩
        have HO6 := Aside0.mk (HO5.out.step hB)
        clear hB HO5
        have hlaw := HL2.out
        clear HL2
        generalize quant cs a2 = x at hlaw ⊢
        generalize quant cs a1 = y at hlaw ⊢
        generalize quant cs 100 = z at hlaw ⊢
        obtain ⟨h1, h2, h3, h4⟩ := hlaw
        go_wp2
        go_ret
        exact ⟨rfl, HO6.out.below⟩
end Go.Proofs.YteebckekahnjiaaDoor.Walk
