/- Counters put together: the document's. -/
import Derived.Test.YteebckekahnjiaaDoorStatR
import Derived.Laws.Tables
import Derived.Deep.WholeRow
set_option linter.unusedVariables false
set_option linter.unusedSimpArgs false
namespace Go.Proofs.YteebckekahnjiaaDoor.Stat
open Go.RowKit Go.Proofs.YteebckekahnjiaaDoor.G Go.Proofs.YteebckekahnjiaaDoorW.PrintWords Go.Proofs.YteebckekahnjiaaDoorW.PrintMore Go.Proofs.YteebckekahnjiaaDoor.Foot Go.Proofs.YteebckekahnjiaaDoor.StatL
theorem infoR : (Tryd.prog.info? 30).map (·.size) = some 45 := by kernel_rfl
theorem en_size {m : List Int} (h : m.length = 45) : (En m).size = 45 := by simp [En, h]
theorem en_one (m : List Int) : (En m).all (·.oneCell') = true := by simp [En, Value.oneCell']
set_option maxHeartbeats 4000000 in
set_option maxRecDepth 100000 in
theorem rmerge_calls (p t a b : Nat) (l m : List Int) (w0 : World) (h1 : w0.heap[p]? = some (OR l)) (h2 : w0.heap[t]? = some (OR m)) (hl : Bd a l) (hm : Bd b m) (ha : a ≤ 1000) (hb : b ≤ 1000) :
    Calls Tryd.prog 14 #[.pointer (some ⟨p, 0, none⟩), .pointer (some ⟨t, 0, none⟩)] w0 fun e w' => e = .returned (.tuple #[]) ∧ w'.heap[p]? = some (OR (mg 45 l m)) ∧ Keeps (fun k => k = p) (w0.alloc (.cells (En m) 30)) w' := by
  have HBl := Lib.hid hl
  have HBm := Lib.hid hm
  have HM := Aside0.mk (MgI.start (blk_alloc h1 (.cells (En m) 30)) (blk_new w0 (.cells (En m) 30)) hl.len)
  have H2 := Lib.hid h2
  clear h1 h2 hl hm
  go_enter Tryd.func14, Tryd.ntmps14
  go_wp2_with (first
    | (refine wpList_load_row rfl 30 _ rfl t rfl 30 (En m) (0, 0) _ H2.out Tryd.underlying30 rfl (by rw [en_size HBm.out.len]; exact infoR) ?_)
    | (refine wpList_store_row rfl 30 _ _ rfl w0.heap.size (En m) rfl rfl 30 _ (blk_new w0 _) (by rw [en_size HBm.out.len]; exact infoR) (by rw [en_size HBm.out.len]; rfl) (en_one m) ?_; rw [World.setRow_alloc_new])
    | fail)
  generalize w0.heap.size = q at HM ⊢
  generalize hw : (w0.alloc (.cells (En m) 30)) = w at HM ⊢
  have HW := Lib.hid hw
  clear hw
  go_loopw [5] (fun v5 wr => ∃ i : Nat, v5 = .int .i64 (i : Int) ∧ i ≤ 6 ∧ Aside0 (MgI 30 p q l m i w wr)) (fun v5 _ => 6 - (intOf v5).toNat)
  case atStart => exact ⟨0, rfl, Nat.zero_le _, HM⟩
  case round =>
    clear HM
    obtain ⟨i, rfl, hi, HM⟩ := hrel
    by_cases hlt : i < 6
    · have hi0 : (0 : Int) ≤ (i : Int) := by omega
      have hi1 : (i : Int) < 6 := by omega
      have HD := Aside0.mk HM.out.drew
      have hrg := mg_range HBl.out HBm.out i (by omega) ha hb
      obtain ⟨m2, hq2, hl2, hn2⟩ := HD.out.read (by omega) HBm.out.len
      have hc2 := en_at hq2 i (by omega)
      have hc1 := en_at HD.out.one i (by rw [mg_length]; omega)
      have hz := en_free HD.out.one i
      rw [hn2] at hc2
      generalize hx : nth (mg i l m) i = x at hc1
      generalize hy : nth m i = y at hc2
      have hrx : -9223372036854775808 ≤ x + y ∧ x + y ≤ 9223372036854775807 := by rw [← hx, ← hy]; exact hrg
      have hwr : IntKind.i64.wrap (x + y) = x + y := IntWalk.i64_in _ hrx
      obtain ⟨hr0, hr1⟩ := hrx
      have HX := Lib.hid hx
      have HY := Lib.hid hy
      clear hrg hn2 hq2 hl2 hx hy
      go_wp2_with fail
      go_still_tail 14, (by kernel_rfl)
      change wpList _ _ _ _ _ wr.drew
      generalize wr.drew = w4 at HD hc1 hc2 hz ⊢
      go_wp2
      have HM5 := Aside0.mk (HD.out.step (by omega) (bump_put HD.out.one i _ (x + y) (by rw [← HX.out, ← HY.out])) (keeps_put (.int .i64 (x + y)) rfl))
      clear HD hc1 hc2 hz
      go_roundw
      case rel => exact ⟨i + 1, by go_num, by omega, HM5⟩
      case measure => simp [intOf]; omega
    · have hin : i = 6 := by omega
      have hic : ((i : Nat) : Int) = 6 := by omega
      rw [hin] at HM
      rw [hic]
      clear hin hic hlt hi
      go_wp2_with fail
      go_loopw [6] (fun v6 wr => ∃ i : Nat, v6 = .int .i64 (i : Int) ∧ i ≤ 6 ∧ Aside0 (MgI 30 p q l m (6 + i) w wr)) (fun v6 _ => 6 - (intOf v6).toNat)
      case atStart => exact ⟨0, rfl, Nat.zero_le _, HM⟩
      case round =>
        clear HM
        obtain ⟨i, rfl, hi, HM⟩ := hrel
        by_cases hlt : i < 6
        · have hi0 : (0 : Int) ≤ (i : Int) := by omega
          have hi1 : (i : Int) < 6 := by omega
          have HD := Aside0.mk HM.out.drew
          have hrg := mg_range HBl.out HBm.out (6 + i) (by omega) ha hb
          obtain ⟨m2, hq2, hl2, hn2⟩ := HD.out.read (by omega) HBm.out.len
          have hc2 := en_at hq2 (6 + i) (by omega)
          have hc1 := en_at HD.out.one (6 + i) (by rw [mg_length]; omega)
          have hz := en_free HD.out.one (6 + i)
          rw [hn2] at hc2
          generalize hx : nth (mg (6 + i) l m) (6 + i) = x at hc1
          generalize hy : nth m (6 + i) = y at hc2
          have hrx : -9223372036854775808 ≤ x + y ∧ x + y ≤ 9223372036854775807 := by rw [← hx, ← hy]; exact hrg
          have hwr : IntKind.i64.wrap (x + y) = x + y := IntWalk.i64_in _ hrx
          obtain ⟨hr0, hr1⟩ := hrx
          have HX := Lib.hid hx
          have HY := Lib.hid hy
          clear hrg hn2 hq2 hl2 hx hy
          go_wp2_with fail
          go_still_tail 14, (by kernel_rfl)
          change wpList _ _ _ _ _ wr.drew
          generalize wr.drew = w4 at HD hc1 hc2 hz ⊢
          go_wp2
          have HM5 := Aside0.mk (HD.out.step (by omega) (bump_put HD.out.one (6 + i) _ (x + y) (by rw [← HX.out, ← HY.out])) (keeps_put (.int .i64 (x + y)) rfl))
          clear HD hc1 hc2 hz
          go_roundw
          case rel => exact ⟨i + 1, by go_num, by omega, HM5⟩
          case measure => simp [intOf]; omega
        · have hin : i = 6 := by omega
          have hic : ((i : Nat) : Int) = 6 := by omega
          rw [hin] at HM
          rw [hic]
          clear hin hic hlt hi
          go_wp2_with fail
          go_loopw [7] (fun v7 wr => ∃ i : Nat, v7 = .int .i64 (i : Int) ∧ i ≤ 32 ∧ Aside0 (MgI 30 p q l m (12 + i) w wr)) (fun v7 _ => 32 - (intOf v7).toNat)
          case atStart => exact ⟨0, rfl, Nat.zero_le _, HM⟩
          case round =>
            clear HM
            obtain ⟨i, rfl, hi, HM⟩ := hrel
            by_cases hlt : i < 32
            · have hi0 : (0 : Int) ≤ (i : Int) := by omega
              have hi1 : (i : Int) < 32 := by omega
              have HD := Aside0.mk HM.out.drew
              have hrg := mg_range HBl.out HBm.out (12 + i) (by omega) ha hb
              obtain ⟨m2, hq2, hl2, hn2⟩ := HD.out.read (by omega) HBm.out.len
              have hc2 := en_at hq2 (12 + i) (by omega)
              have hc1 := en_at HD.out.one (12 + i) (by rw [mg_length]; omega)
              have hz := en_free HD.out.one (12 + i)
              rw [hn2] at hc2
              generalize hx : nth (mg (12 + i) l m) (12 + i) = x at hc1
              generalize hy : nth m (12 + i) = y at hc2
              have hrx : -9223372036854775808 ≤ x + y ∧ x + y ≤ 9223372036854775807 := by rw [← hx, ← hy]; exact hrg
              have hwr : IntKind.i64.wrap (x + y) = x + y := IntWalk.i64_in _ hrx
              obtain ⟨hr0, hr1⟩ := hrx
              have HX := Lib.hid hx
              have HY := Lib.hid hy
              clear hrg hn2 hq2 hl2 hx hy
              go_wp2_with fail
              go_still_tail 14, (by kernel_rfl)
              change wpList _ _ _ _ _ wr.drew
              generalize wr.drew = w4 at HD hc1 hc2 hz ⊢
              go_wp2
              have HM5 := Aside0.mk (HD.out.step (by omega) (bump_put HD.out.one (12 + i) _ (x + y) (by rw [← HX.out, ← HY.out])) (keeps_put (.int .i64 (x + y)) rfl))
              clear HD hc1 hc2 hz
              go_roundw
              case rel => exact ⟨i + 1, by go_num, by omega, HM5⟩
              case measure => simp [intOf]; omega
            · have hin : i = 32 := by omega
              have hic : ((i : Nat) : Int) = 32 := by omega
              rw [hin] at HM
              rw [hic]
              clear hin hic hlt hi
              go_wp2_with fail
              have HD := Aside0.mk HM.out.drew
              have hrg := mg_range HBl.out HBm.out 44 (by omega) ha hb
              obtain ⟨m2, hq2, hl2, hn2⟩ := HD.out.read (by omega) HBm.out.len
              rw [show 12 + 32 = 44 from rfl] at hn2
              have hc2 := en_at hq2 44 (by omega)
              have hc1 := en_at HD.out.one 44 (by rw [mg_length]; omega)
              have hz := en_free HD.out.one 44
              rw [hn2] at hc2
              rw [show 12 + 32 = 44 from rfl] at hc1
              generalize hx : nth (mg 44 l m) 44 = x at hc1 hrg
              generalize hy : nth m 44 = y at hc2 hrg
              have hwr : IntKind.i64.wrap (x + y) = x + y := IntWalk.i64_in _ hrg
              obtain ⟨hr0, hr1⟩ := hrg
              have HX := Lib.hid hx
              have HY := Lib.hid hy
              clear hn2 hq2 hl2 hx hy
              go_still_tail 9, (by kernel_rfl)
              change wpList _ _ _ _ _ wr.drew
              generalize wr.drew = w4 at HD hc1 hc2 hz ⊢
              go_wp2
              have HM5 := Aside0.mk (HD.out.step (k := 44) (by omega) (bump_put HD.out.one 44 _ (x + y) (by rw [← HX.out, ← HY.out])) (keeps_put (.int .i64 (x + y)) rfl))
              go_end0
              exact ⟨rfl, HM5.out.one, by rw [HW.out]; exact HM5.out.keep⟩
end Go.Proofs.YteebckekahnjiaaDoor.Stat
