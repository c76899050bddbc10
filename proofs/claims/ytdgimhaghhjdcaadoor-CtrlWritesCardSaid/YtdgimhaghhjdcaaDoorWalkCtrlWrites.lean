/- The contract of CtrlWrites: any control has just the document's text, and is read back from it. -/
import Derived.Test.YtdgimhaghhjdcaaDoorCtrlS
import Derived.Test.YtdgimhaghhjdcaaDoorCtrlK
import Derived.OpenShut
import Derived.Deep.DeepMust
set_option linter.unusedVariables false
set_option linter.unusedSimpArgs false
namespace Go.Proofs.YtdgimhaghhjdcaaDoor.Walk
open Go.RowKit Go.Proofs.YtdgimhaghhjdcaaDoor.G Go.Proofs.YtdgimhaghhjdcaaDoorW.PrintWords Go.Proofs.YtdgimhaghhjdcaaDoorW.PrintMore Go.Proofs.YtdgimhaghhjdcaaDoor.Foot Go.Proofs.YtdgimhaghhjdcaaDoor.Ctrl
theorem text_empty {l : List ByteArray} (hF : Full l) (h : J l ≠ ⟨#[]⟩) : l ≠ [] := fun e => h (by rw [e]; rfl)
set_option maxHeartbeats 4000000 in
set_option maxRecDepth 100000 in
theorem CtrlWrites (W : World) (htab : Lib.TabIs Tryd.prog W "internal/strconv.uint64pow10" .u64 Lib.pow10Tab) (b0 b1 b2 b3 b4 b5 b6 b7 : Bool) (n8 n9 n10 n11 : Int)
    (hG : True ∧ True ∧ True ∧ True ∧ True ∧ True ∧ True ∧ True ∧ (Lit.int .i64 n8).wf = true ∧ (Lit.int .i64 n9).wf = true ∧ (Lit.int .i64 n10).wf = true ∧ (Lit.int .i64 n11).wf = true) :
    Calls Tryd.prog 3 #[.agg #[.bool b0, .bool b1, .bool b2, .bool b3, .bool b4, .bool b5, .bool b6, .bool b7, .int .i64 n8, .int .i64 n9, .int .i64 n10, .int .i64 n11]] W fun e w' => e = .returned (.bool true) ∧ Below W.heap.size W w' := by
  obtain ⟨_, _, _, _, _, _, _, _, g8, g9, g10, g11⟩ := hG
  have H8 := Lib.hid (bounds_i64 g8)
  have H9 := Lib.hid (bounds_i64 g9)
  have H10 := Lib.hid (bounds_i64 g10)
  have H11 := Lib.hid (bounds_i64 g11)
  have HT := Lib.hid htab
  clear g8 g9 g10 g11 htab
  obtain ⟨hev, hsh, hfu⟩ := text_ref b0 b1 b2 b3 b4 b5 b6 b7 n8 n9 n10 n11 H8.out H9.out H10.out H11.out
  obtain ⟨kt, hkt⟩ := hev.rounds
  have HKT := Lib.hid hkt
  have HSH := Lib.hid hsh
  have HFU := Lib.hid hfu
  clear hev hkt hsh hfu
  go_enter Tryd.func3, Tryd.ntmps3
  have HO := Lib.hid ((Own.start W).new_ob (.cells #[.bool b0, .bool b1, .bool b2, .bool b3, .bool b4, .bool b5, .bool b6, .bool b7, .int .i64 n8, .int .i64 n9, .int .i64 n10, .int .i64 n11] 23))
  go_wp2_with fail
  refine (known_calls _ (tab_below HT.out HO.out.below)).mono ?_
  rintro e w1 ⟨rfl, hB⟩
  have HO := Lib.hid (HO.out.step hB)
  clear hB
  have hcb := HO.out.ob
  have hc0 := blk_cell hcb 0
  have hc1 := blk_cell hcb 1
  have hc2 := blk_cell hcb 2
  have hc3 := blk_cell hcb 3
  have hc4 := blk_cell hcb 4
  have hc5 := blk_cell hcb 5
  have hc6 := blk_cell hcb 6
  have hc7 := blk_cell hcb 7
  have hc8 := blk_cell hcb 8
  have hc9 := blk_cell hcb 9
  have hc10 := blk_cell hcb 10
  have hc11 := blk_cell hcb 11
  clear hcb
  go_wp2_with fail
  refine (text_calls ⟨b0, b1, b2, b3, b4, b5, b6, b7, n8, n9, n10, n11⟩ w1 (tab_below HT.out HO.out.below) H8.out H9.out H10.out H11.out).mono ?_
  rintro e w2 ⟨rfl, hB⟩
  have HO := Lib.hid (HO.out.step hB)
  generalize htx : textOf ⟨b0, b1, b2, b3, b4, b5, b6, b7, n8, n9, n10, n11⟩ = s at HKT ⊢
  have HTX := Lib.hid htx
  clear hB htx
  clear hc0 hc1 hc2 hc3 hc4 hc5 hc6 hc7 hc8 hc9 hc10 hc11
  have hcb := HO.out.ob
  have hc0 := blk_cell hcb 0
  have hc1 := blk_cell hcb 1
  have hc2 := blk_cell hcb 2
  have hc3 := blk_cell hcb 3
  have hc4 := blk_cell hcb 4
  have hc5 := blk_cell hcb 5
  have hc6 := blk_cell hcb 6
  have hc7 := blk_cell hcb 7
  have hc8 := blk_cell hcb 8
  have hc9 := blk_cell hcb 9
  have hc10 := blk_cell hcb 10
  have hc11 := blk_cell hcb 11
  clear hcb
  go_wp2_with fail
  refine (ambryref13_ControlText.calls kt b0 b1 b2 b3 b4 b5 b6 b7 n8 n9 n10 n11 s _ HKT.out).mono ?_
  rintro e w3 ⟨rfl, hB⟩
  have HO := Lib.hid (HO.out.step hB)
  have hss : (s.toList != s.toList) = false := bne_self_eq_false _
  clear hB HKT
  clear hc0 hc1 hc2 hc3 hc4 hc5 hc6 hc7 hc8 hc9 hc10 hc11
  have hcb := HO.out.ob
  have hc0 := blk_cell hcb 0
  have hc1 := blk_cell hcb 1
  have hc2 := blk_cell hcb 2
  have hc3 := blk_cell hcb 3
  have hc4 := blk_cell hcb 4
  have hc5 := blk_cell hcb 5
  have hc6 := blk_cell hcb 6
  have hc7 := blk_cell hcb 7
  have hc8 := blk_cell hcb 8
  have hc9 := blk_cell hcb 9
  have hc10 := blk_cell hcb 10
  have hc11 := blk_cell hcb 11
  clear hcb
  go_wp2
  clear hc0 hc1 hc2 hc3 hc4 hc5 hc6 hc7 hc8 hc9 hc10 hc11
  have HO := Lib.hid (HO.out.new_ob (.cells #[.int .i64 n8, .int .i64 n9, .int .i64 n10, .int .i64 n11] 2))
  generalize w3.heap.size = q at HO ⊢
  generalize W.heap.size = p at HO ⊢
  go_loopw [5] (fun v5 wr => ∃ (i : Nat), v5 = .int .i64 (i : Int) ∧ i ≤ 4 ∧ Aside0 (∀ j, j < i → -1 ≤ [n8, n9, n10, n11].getD j 0 ∧ [n8, n9, n10, n11].getD j 0 ≤ 2147483647) ∧ Aside0 (Own W wr (star (Ob q (.cells #[.int .i64 n8, .int .i64 n9, .int .i64 n10, .int .i64 n11] 2 (0, 0))) (star (Ob p (.cells #[.bool b0, .bool b1, .bool b2, .bool b3, .bool b4, .bool b5, .bool b6, .bool b7, .int .i64 n8, .int .i64 n9, .int .i64 n10, .int .i64 n11] 23 (0, 0))) emp)))) (fun v5 _ => 4 - (intOf v5).toNat)
  case atStart => exact ⟨0, rfl, Nat.zero_le _, ⟨fun j hj => absurd hj (Nat.not_lt_zero j)⟩, ⟨HO.out⟩⟩
  case round =>
    clear HO
    obtain ⟨i, rfl, hi, HR, HO⟩ := hrel
    by_cases hlt : i < 4
    · have hx : wr.cell? ⟨q, i, none⟩ = some (.int .i64 ([n8, n9, n10, n11].getD i 0)) := by
        rw [blk_cell HO.out.ob i]
        rcases (by omega : i = 0 ∨ i = 1 ∨ i = 2 ∨ i = 3) with rfl | rfl | rfl | rfl <;> rfl
      obtain ⟨x, hxx⟩ : ∃ x, [n8, n9, n10, n11].getD i 0 = x := ⟨_, rfl⟩
      rw [hxx] at hx
      have HXX := Lib.hid hxx
      clear hxx
      by_cases h1 : x < -1
      · go_wp2
        go_ret
        exact ⟨rfl, HO.out.below⟩
      by_cases h2 : 2147483647 < x
      · go_wp2
        go_ret
        exact ⟨rfl, HO.out.below⟩
      go_wp2
      go_roundw
      case rel => exact ⟨i + 1, by go_num, by omega, ⟨fun j hj => by
        by_cases hji : j < i
        · exact HR.out j hji
        · have : j = i := by omega
          rw [this, HXX.out]
          omega⟩, HO⟩
      case measure => simp [intOf]; omega
    · have r8 : -1 ≤ n8 ∧ n8 ≤ 2147483647 := HR.out 0 (by omega)
      have r9 : -1 ≤ n9 ∧ n9 ≤ 2147483647 := HR.out 1 (by omega)
      have r10 : -1 ≤ n10 ∧ n10 ≤ 2147483647 := HR.out 2 (by omega)
      have r11 : -1 ≤ n11 ∧ n11 ≤ 2147483647 := HR.out 3 (by omega)
      have HBK := Lib.hid (read_back b0 b1 b2 b3 b4 b5 b6 b7 n8 n9 n10 n11 r8 r9 r10 r11 HSH.out)
      rw [HTX.out] at HBK
      have HL := Lib.hid (show s ≠ ⟨#[]⟩ → textL ⟨b0, b1, b2, b3, b4, b5, b6, b7, n8, n9, n10, n11⟩ ≠ [] from fun h => text_empty HFU.out (by rw [← HTX.out] at h; exact h))
      clear r8 r9 r10 r11 HR
      by_cases hs : s = ⟨#[]⟩
      · have hs1 : (s.toList == ([] : List UInt8)) = true := beq_iff_eq.2 (by rw [hs, ByteArray.toList_eq])
        clear hs
        go_wp2
        go_ret
        exact ⟨rfl, HO.out.below⟩
      have hs1 : (s.toList == ([] : List UInt8)) = false := beq_eq_false_iff_ne.2 (fun h => hs (Plain.bytes_inj (by rw [ByteArray.toList_eq] at h; unfold bytesOf; rw [h])))
      obtain ⟨kb, hkb⟩ := (HBK.out (HL.out hs)).rounds
      have HKB := Lib.hid hkb
      clear hkb hs HBK HL
      have HP := Lib.hid HO.out.rest
      have HAD := Lib.hid (show ∀ w', Below wr.heap.size wr w' → (w'.cell? ⟨p, 0, none⟩ = some (.bool b0) ∧ w'.cell? ⟨p, 1, none⟩ = some (.bool b1) ∧ w'.cell? ⟨p, 2, none⟩ = some (.bool b2) ∧ w'.cell? ⟨p, 3, none⟩ = some (.bool b3) ∧ w'.cell? ⟨p, 4, none⟩ = some (.bool b4) ∧ w'.cell? ⟨p, 5, none⟩ = some (.bool b5) ∧ w'.cell? ⟨p, 6, none⟩ = some (.bool b6) ∧ w'.cell? ⟨p, 7, none⟩ = some (.bool b7) ∧ w'.cell? ⟨p, 8, none⟩ = some (.int .i64 n8) ∧ w'.cell? ⟨p, 9, none⟩ = some (.int .i64 n9) ∧ w'.cell? ⟨p, 10, none⟩ = some (.int .i64 n10) ∧ w'.cell? ⟨p, 11, none⟩ = some (.int .i64 n11)) from fun w' hb => by
        have hcb := (HP.out.step hb).ob
        exact ⟨blk_cell hcb 0, blk_cell hcb 1, blk_cell hcb 2, blk_cell hcb 3, blk_cell hcb 4, blk_cell hcb 5, blk_cell hcb 6, blk_cell hcb 7, blk_cell hcb 8, blk_cell hcb 9, blk_cell hcb 10, blk_cell hcb 11⟩)
      have hdrew : Below wr.heap.size wr wr.drew := below_drew (Below.refl _ _)
      have HU := Lib.hid hdrew
      have HUA := Lib.hid (below_alloc hdrew (.cells #[.string ⟨#[99, 97, 99, 104, 101, 45, 99, 111, 110, 116, 114, 111, 108]⟩, .string s] 29))
      clear hdrew
      go_wp2_with fail
      go_region_held3 (fun w' => w'.cell? ⟨p, 0, none⟩ = some (.bool b0) ∧ w'.cell? ⟨p, 1, none⟩ = some (.bool b1) ∧ w'.cell? ⟨p, 2, none⟩ = some (.bool b2) ∧ w'.cell? ⟨p, 3, none⟩ = some (.bool b3) ∧ w'.cell? ⟨p, 4, none⟩ = some (.bool b4) ∧ w'.cell? ⟨p, 5, none⟩ = some (.bool b5) ∧ w'.cell? ⟨p, 6, none⟩ = some (.bool b6) ∧ w'.cell? ⟨p, 7, none⟩ = some (.bool b7) ∧ w'.cell? ⟨p, 8, none⟩ = some (.int .i64 n8) ∧ w'.cell? ⟨p, 9, none⟩ = some (.int .i64 n9) ∧ w'.cell? ⟨p, 10, none⟩ = some (.int .i64 n10) ∧ w'.cell? ⟨p, 11, none⟩ = some (.int .i64 n11)) (first
        | exact HAD.out _ HU.out
        | exact HAD.out _ HUA.out
        | exact HAD.out _ HB4.out) (first
        | (go_at_call 9; refine (ctrl_Parse.calls kb _ _ [oneField s] b0 b1 b2 b3 b4 b5 b6 b7 n8 n9 n10 n11 _ (Leaf.C_block k29 (fun x => [.string x.f0, .string x.f1]) (fun _ => rfl) _ _ _ _ _ _ (fun x _ => k29_mk _ x) (blk_new wr.drew _) rfl (by simp)) (Nat.le_refl _) HKB.out).mono ?_; rintro e w4 ⟨rfl, hb⟩; have HB4 := Lib.hid (HUA.out.trans (hb.mono (HUA.out.size))); clear hb)
        | fail)
      all_goals
        go_wp2
        go_ret
        exact ⟨rfl, HO.out.below.trans (HB4.out.mono HO.out.below.size)⟩
end Go.Proofs.YtdgimhaghhjdcaaDoor.Walk
