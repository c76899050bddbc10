/- The chapter's example. -/
import Derived.Test.YtdgimhaghhjdcaaDoorCtrlT
import Derived.Test.YtdgimhaghhjdcaaDoorPlainA
import Derived.Test.YtdgimhaghhjdcaaDoorLits
set_option linter.unusedVariables false
set_option linter.unusedSimpArgs false
namespace Go.Proofs.YtdgimhaghhjdcaaDoor.Ctrl
open Go.RowKit Go.Proofs.YtdgimhaghhjdcaaDoor.G Go.Proofs.YtdgimhaghhjdcaaDoorW.PrintWords Go.Proofs.YtdgimhaghhjdcaaDoorW.PrintMore Go.Proofs.YtdgimhaghhjdcaaDoor.Foot

theorem parse_one : ctrl_Parse.f 400 [⟨⟨#[67, 97, 99, 104, 101, 45, 67, 111, 110, 116, 114, 111, 108]⟩, ⟨#[109, 97, 120, 45, 97, 103, 101, 61, 53, 44, 32, 77, 65, 88, 45, 65, 71, 69, 61, 51, 44, 32, 110, 111, 45, 115, 116, 111, 114, 101]⟩⟩] = some (true, false, false, false, false, false, false, false, 3, -1, -1, -1) := by kernel_rfl
theorem parse_nil : ctrl_Parse.f 400 [] = some (false, false, false, false, false, false, false, false, -1, -1, -1, -1) := by kernel_rfl
theorem seconds_12 : ctrl_Seconds.f 400 ⟨#[49, 50]⟩ = some 12 := by decide +kernel
theorem seconds_x : ctrl_Seconds.f 400 ⟨#[120]⟩ = some (-1) := by decide +kernel
theorem text_one : textOf ⟨true, false, false, false, false, false, false, false, 3, -1, -1, -1⟩ = ⟨#[110, 111, 45, 115, 116, 111, 114, 101, 44, 32, 109, 97, 120, 45, 97, 103, 101, 61, 51]⟩ := by decide +kernel
set_option maxHeartbeats 4000000 in
set_option maxRecDepth 100000 in
theorem known_calls (W : World) (htab : Lib.TabIs Tryd.prog W "internal/strconv.uint64pow10" .u64 Lib.pow10Tab) :
    Calls Tryd.prog 6 #[] W fun e w' => e = .returned (.bool true) ∧ Below W.heap.size W w' := by
  have HT := Lib.hid htab
  clear htab
  go_enter Tryd.func6, Tryd.ntmps6
  go_wp2_with fail
  refine (ctrl_Parse.calls 400 _ _ [⟨⟨#[67, 97, 99, 104, 101, 45, 67, 111, 110, 116, 114, 111, 108]⟩, ⟨#[109, 97, 120, 45, 97, 103, 101, 61, 53, 44, 32, 77, 65, 88, 45, 65, 71, 69, 61, 51, 44, 32, 110, 111, 45, 115, 116, 111, 114, 101]⟩⟩] _ _ _ _ _ _ _ _ _ _ _ _ _ (Leaf.C_block k29 (fun x => [.string x.f0, .string x.f1]) (fun _ => rfl) _ _ _ _ _ _ (fun x _ => k29_mk _ x) (blk_new W _) rfl (by simp)) (Nat.le_refl _) parse_one).mono ?_
  rintro e w1 ⟨rfl, hB⟩
  have HO := Lib.hid (Own.of_below ((below_alloc (Below.refl _ _) _).trans (hB.mono (by simp))) : Own W w1 emp)
  clear hB
  have HO := Lib.hid (HO.out.new_ob (.cells #[.bool true, .bool false, .bool false, .bool false, .bool false, .bool false, .bool false, .bool false, .int .i64 3, .int .i64 (-1), .int .i64 (-1), .int .i64 (-1)] 23))
  go_wp2_with fail
  refine (ctrl_Parse.calls 400 none 0 [] _ _ _ _ _ _ _ _ _ _ _ _ _ (Kd.C_nil _ _) (Nat.le_refl _) parse_nil).mono ?_
  rintro e w2 ⟨rfl, hB⟩
  have HO := Lib.hid ((HO.out.step hB).new_ob (.cells #[.bool false, .bool false, .bool false, .bool false, .bool false, .bool false, .bool false, .bool false, .int .i64 (-1), .int .i64 (-1), .int .i64 (-1), .int .i64 (-1)] 23))
  clear hB
  have hc0 := blk_cell HO.out.rest.ob 0
  have hc8 := blk_cell HO.out.rest.ob 8
  have hc9 := blk_cell HO.out.rest.ob 9
  have hd11 := blk_cell HO.out.ob 11
  generalize hw3 : w2.alloc (.cells #[.bool false, .bool false, .bool false, .bool false, .bool false, .bool false, .bool false, .bool false, .int .i64 (-1), .int .i64 (-1), .int .i64 (-1), .int .i64 (-1)] 23) = w3 at HO hc0 hc8 hc9 hd11
  have HW3 := Lib.hid hw3
  generalize hp1 : w1.heap.size = p1 at HO hc0 hc8 hc9 ⊢
  generalize hp2 : w2.heap.size = p2 at HO hd11 ⊢
  go_wp2_with fail
  refine (ctrl_Seconds.calls 400 _ _ _ seconds_12).mono ?_
  rintro e w4 ⟨rfl, hB⟩
  have HO := Lib.hid (HO.out.step hB)
  clear hB hc0 hc8 hc9 hd11
  go_wp2_with fail
  refine (ctrl_Seconds.calls 400 _ _ _ seconds_x).mono ?_
  rintro e w5 ⟨rfl, hB⟩
  have HO := Lib.hid (HO.out.step hB)
  have hc0 := blk_cell HO.out.rest.ob 0
  have hc1 := blk_cell HO.out.rest.ob 1
  have hc2 := blk_cell HO.out.rest.ob 2
  have hc3 := blk_cell HO.out.rest.ob 3
  have hc4 := blk_cell HO.out.rest.ob 4
  have hc5 := blk_cell HO.out.rest.ob 5
  have hc6 := blk_cell HO.out.rest.ob 6
  have hc7 := blk_cell HO.out.rest.ob 7
  have hc8 := blk_cell HO.out.rest.ob 8
  have hc9 := blk_cell HO.out.rest.ob 9
  have hc10 := blk_cell HO.out.rest.ob 10
  have hc11 := blk_cell HO.out.rest.ob 11
  clear hB
  go_wp2_with fail
  refine (text_calls ⟨true, false, false, false, false, false, false, false, 3, -1, -1, -1⟩ w5 (tab_below HT.out HO.out.below) (by simp) (by simp) (by simp) (by simp)).mono ?_
  rintro e w6 ⟨rfl, hB⟩
  have HO := Lib.hid (HO.out.step hB)
  rw [text_one]
  clear hB
  go_wp2
  go_ret
  exact ⟨rfl, HO.out.below⟩
end Go.Proofs.YtdgimhaghhjdcaaDoor.Ctrl
