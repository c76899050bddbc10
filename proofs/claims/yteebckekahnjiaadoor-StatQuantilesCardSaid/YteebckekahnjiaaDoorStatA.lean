/- Program and document tell the same of the same counts. -/
import Derived.Test.YteebckekahnjiaaDoorStatU
import Derived.StillTactics
set_option linter.unusedVariables false
set_option linter.unusedSimpArgs false
namespace Go.Proofs.YteebckekahnjiaaDoor.Stat
open Go.RowKit Go.Proofs.YteebckekahnjiaaDoor.G Go.Proofs.YteebckekahnjiaaDoorW.PrintWords Go.Proofs.YteebckekahnjiaaDoorW.PrintMore Go.Proofs.YteebckekahnjiaaDoor.Foot Go.Proofs.YteebckekahnjiaaDoor.StatL Go.Proofs.YteebckekahnjiaaDoor.Itoa
theorem text_size {l : List Int} {n : Nat} (h : Bd n l) (hn : n ≤ 1000) : (textOf l).size ≤ 300 := by
  have h1 := text_len h hn 6 (by omega)
  have h2 := Lib.itoa_length_le (nth l 44) (by have := h.all; unfold nth; omega) (by have := h.all; unfold nth; omega)
  show (textB l).length ≤ 300
  unfold textB
  simp only [List.length_append, List.length_cons, List.length_nil]
  omega
set_option maxHeartbeats 8000000 in
set_option maxRecDepth 100000 in
theorem alike_calls (p q n : Nat) (l : List Int) (w : World) (h1 : w.heap[p]? = some (OS l)) (h2 : w.heap[q]? = some (OR l)) (hb : Bd n l) (hn : n ≤ 1000) (htab : Lib.TabIs Tryd.prog w "internal/strconv.uint64pow10" .u64 Lib.pow10Tab) :
    Calls Tryd.prog 10 #[.pointer (some ⟨p, 0, none⟩), .pointer (some ⟨q, 0, none⟩)] w fun e w' => e = .returned (.bool true) ∧ Below w.heap.size w w' := by
  have HP := Lib.hid h1
  have HQ := Lib.hid h2
  have hp := blk_lt h1
  have hq := blk_lt h2
  have HBd := Lib.hid hb
  have HT := Lib.hid htab
  clear h1 h2 hb htab
  go_enter Tryd.func10, Tryd.ntmps10
  go_wp2
  go_loop [5] (fun v5 => ∃ i : Int, v5 = .int .i64 i ∧ -1 ≤ i ∧ i ≤ 7) (fun v5 => (7 - intOf v5).toNat)
  case atStart => exact ⟨-1, rfl, by omega, by omega⟩
  case round =>
    obtain ⟨i, rfl, hi0, hi1⟩ := hrel
    by_cases hlt : i ≤ 6
    · by_cases h0 : 0 ≤ i
      · by_cases h6 : i ≤ 5
        · obtain ⟨k, rfl⟩ : ∃ k : Nat, i = (k : Int) := ⟨i.toNat, by omega⟩
          have h66 : (k : Int) < 6 := by omega
          have h00 : (0 : Int) ≤ (k : Int) := by omega
          have hc := en_at HQ.out (k) (by rw [HBd.out.len]; omega)
          have hv : ofV l (k : Int) = nth l (k) := by unfold ofV; rw [if_neg (by omega)]; rfl
          generalize nth l (k) = x at hc hv
          have HV := Lib.hid hv
          clear hv
          go_wp2_with fail
          refine (of_calls p (k : Int) l _ HP.out HBd.out.len).mono ?_
          rintro e w' ⟨rfl, rfl⟩
          rw [HV.out]
          go_wp2
          go_round
          case rel => exact ⟨(k : Int) + 1, rfl, by omega, by omega⟩
          case measure => simp [intOf]; omega
        · have HV := Lib.hid (show ofV l i = 0 by unfold ofV; rw [if_pos (by omega)])
          go_wp2_with fail
          refine (of_calls p i l _ HP.out HBd.out.len).mono ?_
          rintro e w' ⟨rfl, rfl⟩
          rw [HV.out]
          go_wp2
          go_round
          case rel => exact ⟨i + 1, rfl, by omega, by omega⟩
          case measure => simp [intOf]; omega
      · have HV := Lib.hid (show ofV l i = 0 by unfold ofV; rw [if_pos (by omega)])
        go_wp2_with fail
        refine (of_calls p i l _ HP.out HBd.out.len).mono ?_
        rintro e w' ⟨rfl, rfl⟩
        rw [HV.out]
        go_wp2
        go_round
        case rel => exact ⟨i + 1, rfl, by omega, by omega⟩
        case measure => simp [intOf]; omega
    · have hin : i = 7 := by omega
      rw [hin]
      clear hin hlt hi0 hi1
      go_wp2_with fail
      go_loop [7] (fun v7 => ∃ i : Int, v7 = .int .i64 i ∧ -1 ≤ i ∧ i ≤ 8) (fun v7 => (8 - intOf v7).toNat)
      case atStart => exact ⟨-1, rfl, by omega, by omega⟩
      case round =>
        obtain ⟨i, rfl, hi0, hi1⟩ := hrel
        by_cases hlt : i ≤ 7
        · by_cases h0 : 1 ≤ i
          · by_cases h6 : i ≤ 5
            · obtain ⟨k, rfl⟩ : ∃ k : Nat, i = (k : Int) := ⟨i.toNat, by omega⟩
              have h66 : (k : Int) < 6 := by omega
              have h00 : (0 : Int) ≤ (k : Int) := by omega
              have h01 : (1 : Int) ≤ (k : Int) := by omega
              have hc := en_at HQ.out (6 + k) (by rw [HBd.out.len]; omega)
              have hv : classV l (k : Int) = nth l (6 + k) := by unfold classV; rw [if_neg (by omega)]; rfl
              generalize nth l (6 + k) = x at hc hv
              have HV := Lib.hid hv
              clear hv
              go_wp2_with fail
              refine (class_calls p (k : Int) l _ HP.out HBd.out.len).mono ?_
              rintro e w' ⟨rfl, rfl⟩
              rw [HV.out]
              go_wp2
              go_round
              case rel => exact ⟨(k : Int) + 1, rfl, by omega, by omega⟩
              case measure => simp [intOf]; omega
            · have HV := Lib.hid (show classV l i = 0 by unfold classV; rw [if_pos (by omega)])
              go_wp2_with fail
              refine (class_calls p i l _ HP.out HBd.out.len).mono ?_
              rintro e w' ⟨rfl, rfl⟩
              rw [HV.out]
              go_wp2
              go_round
              case rel => exact ⟨i + 1, rfl, by omega, by omega⟩
              case measure => simp [intOf]; omega
          · have HV := Lib.hid (show classV l i = 0 by unfold classV; rw [if_pos (by omega)])
            go_wp2_with fail
            refine (class_calls p i l _ HP.out HBd.out.len).mono ?_
            rintro e w' ⟨rfl, rfl⟩
            rw [HV.out]
            go_wp2
            go_round
            case rel => exact ⟨i + 1, rfl, by omega, by omega⟩
            case measure => simp [intOf]; omega
        · have hin : i = 8 := by omega
          rw [hin]
          clear hin hlt hi0 hi1
          go_wp2_with fail
          have H0 : w.heap[p]? = some (OS l) := HP.out
          refine (sizes_calls p l _ HP.out HBd.out.len).mono ?_
          rintro e w1 ⟨v, rfl, hR, hB⟩
          obtain ⟨A, cp, rfl, hlc, hC⟩ := Kd.R_reads hR
          have hlen := sizes_length HBd.out.len
          have hnt := fun i (hi : i < 32) => sizes_nth (l := l) i hi
          obtain ⟨xs, hxs⟩ : ∃ xs, sizes l = xs := ⟨_, rfl⟩
          rw [hxs] at hR hC hlc hlen hnt ⊢
          rw [hlen]
          have HN := Lib.hid hlen
          have HNT := Lib.hid hnt
          have HW1 := Aside0.mk hB.drew
          have HP1 := Aside0.mk (show w1.drew.heap[p]? = some (OS l) from (hB.block p hp).trans H0)
          have HR1 := Aside0.mk (Kd.C_below hC (below_drew (Below.refl _ _)))
          have hq1 : w1.heap[q]? = some (OR l) := (hB.block q hq).trans HQ.out
          have hc := en_at hq1 44 (by rw [HBd.out.len]; omega)
          generalize hx : nth l 44 = x at hc
          have HXX := Lib.hid hx
          have HTX0 := True.intro
          clear hR hC hlc hxs hlen hnt hB H0 hq1 hx
          go_wp2_with fail
          refine OrdE.beginS (fun w' => w'.cell? ⟨q, 44, none⟩ = some (.int .i64 x)) (fun _ => true) (by kernel_rfl) ?_
          refine OrdE.takeK (i := 0) (oi := { dst := some 56, op := Go.Op.move (Go.Operand.tmp 9), type := 43, pos := "law.go:45", after := #[], guard := none }) (v := .slice A 32 cp) rfl (by kernel_rfl) (by kernel_rfl) (by kernel_rfl) (by kernel_rfl) (fun _ _ _ h => h) (by rfl) ?_ (hc) ?_
          · intro w hS; have hx0 := hS; go_simp
          try simp only [Act.put, List.setIfInBounds_toArray, List.set_cons_zero, List.set_cons_succ]
          refine OrdE.takeK (i := 1) (oi := { dst := some 57, op := Go.Op.call { callee := Go.Callee.builtin Go.Builtin.len, args := #[Go.Operand.tmp 56], argTypes := #[43] }, type := 3, pos := "law.go:45", after := #[{ on := 0, ground := Go.Ground.data }], guard := none }) (v := .int .i64 32) rfl (by kernel_rfl) (by kernel_rfl) (by kernel_rfl) (by kernel_rfl) (fun _ _ _ h => h) (by rfl) ?_ (hc) ?_
          · intro w hS; have hx0 := hS; go_simp
          try simp only [Act.put, List.setIfInBounds_toArray, List.set_cons_zero, List.set_cons_succ]
          refine OrdE.takeK (i := 2) (oi := { dst := some 58, op := Go.Op.binOp Go.BinOp.neq 3 (Go.Operand.tmp 57) (Go.Operand.const (Go.Value.int Go.IntKind.i64 32)) 3, type := 4, pos := "law.go:45", after := #[{ on := 1, ground := Go.Ground.data }], guard := none }) (v := .bool false) rfl (by kernel_rfl) (by kernel_rfl) (by kernel_rfl) (by kernel_rfl) (fun _ _ _ h => h) (by rfl) ?_ (hc) ?_
          · intro w hS; have hx0 := hS; go_simp
          try simp only [Act.put, List.setIfInBounds_toArray, List.set_cons_zero, List.set_cons_succ]
          refine OrdE.takeK (i := 3) (oi := { dst := some 59, op := Go.Op.move (Go.Operand.tmp 58), type := 4, pos := "law.go:45", after := #[{ on := 2, ground := Go.Ground.data }], guard := none }) (v := .bool false) rfl (by kernel_rfl) (by kernel_rfl) (by kernel_rfl) (by kernel_rfl) (fun _ _ _ h => h) (by rfl) ?_ (hc) ?_
          · intro w hS; have hx0 := hS; go_simp
          try simp only [Act.put, List.setIfInBounds_toArray, List.set_cons_zero, List.set_cons_succ]
          refine OrdE.takeK (i := 4) (oi := { dst := some 60, op := Go.Op.move (Go.Operand.tmp 0), type := 24, pos := "law.go:45", after := #[{ on := 3, ground := Go.Ground.guard }], guard := some (3, false) }) (v := .pointer (some ⟨p, 0, none⟩)) rfl (by kernel_rfl) (by kernel_rfl) (by kernel_rfl) (by kernel_rfl) (fun _ _ _ h => h) (by rfl) ?_ (hc) ?_
          · intro w hS; have hx0 := hS; go_simp
          try simp only [Act.put, List.setIfInBounds_toArray, List.set_cons_zero, List.set_cons_succ]
          refine OrdE.takeK (i := 6) (oi := { dst := some 62, op := Go.Op.move (Go.Operand.tmp 1), type := 26, pos := "law.go:45", after := #[{ on := 3, ground := Go.Ground.guard }], guard := some (3, false) }) (v := .pointer (some ⟨q, 0, none⟩)) rfl (by kernel_rfl) (by kernel_rfl) (by kernel_rfl) (by kernel_rfl) (fun _ _ _ h => h) (by rfl) ?_ (hc) ?_
          · intro w hS; have hx0 := hS; go_simp
          try simp only [Act.put, List.setIfInBounds_toArray, List.set_cons_zero, List.set_cons_succ]
          refine OrdE.takeK (i := 7) (oi := { dst := some 63, op := Go.Op.nilCheck (Go.Operand.tmp 62), type := 0, pos := "law.go:45", after := #[{ on := 6, ground := Go.Ground.data }, { on := 3, ground := Go.Ground.guard }], guard := some (3, false) }) (v := .pointer (some ⟨q, 0, none⟩)) rfl (by kernel_rfl) (by kernel_rfl) (by kernel_rfl) (by kernel_rfl) (fun _ _ _ h => h) (by rfl) ?_ (hc) ?_
          · intro w hS; have hx0 := hS; go_simp
          try simp only [Act.put, List.setIfInBounds_toArray, List.set_cons_zero, List.set_cons_succ]
          refine OrdE.takeK (i := 8) (oi := { dst := some 64, op := Go.Op.fieldAddr 30 (Go.Operand.tmp 63) 3, type := 0, pos := "law.go:45", after := #[{ on := 7, ground := Go.Ground.data }, { on := 3, ground := Go.Ground.guard }], guard := some (3, false) }) (v := .pointer (some ⟨q, 44, none⟩)) rfl (by kernel_rfl) (by kernel_rfl) (by kernel_rfl) (by kernel_rfl) (fun _ _ _ h => h) (by rfl) ?_ (hc) ?_
          · intro w hS; have hx0 := hS; go_simp
          try simp only [Act.put, List.setIfInBounds_toArray, List.set_cons_zero, List.set_cons_succ]
          refine OrdE.takeK (i := 9) (oi := { dst := some 65, op := Go.Op.load 2 (Go.Operand.tmp 64), type := 2, pos := "law.go:45", after := #[{ on := 8, ground := Go.Ground.data }, { on := 3, ground := Go.Ground.guard }], guard := some (3, false) }) (v := .int .i64 x) rfl (by kernel_rfl) (by kernel_rfl) (by kernel_rfl) (by kernel_rfl) (fun _ _ _ h => h) (by rfl) ?_ (hc) ?_
          · intro w hS; have hx0 := hS; go_simp
          try simp only [Act.put, List.setIfInBounds_toArray, List.set_cons_zero, List.set_cons_succ]
          refine OrdE.oneE (i := 5) (o := { dst := some 61, op := Go.Op.call { callee := Go.Callee.value (Go.Operand.func 18), args := #[Go.Operand.tmp 60], argTypes := #[24] }, type := 2, pos := "law.go:45", after := #[{ on := 4, ground := Go.Ground.data }, { on := 3, ground := Go.Ground.chain }, { on := 3, ground := Go.Ground.guard }], guard := some (3, false) }) (by kernel_rfl) rfl (fun K hK => ?_)
          go_simp
          refine (bytes_calls p l _ HP1.out HBd.out.len).mono ?_
          rintro e w3 ⟨rfl, hw3⟩
          subst hw3
          rw [show nth l 44 = x from HXX.out]
          refine hK.out _ _ (fun _ => hc) ?_
          clear hK K
          try simp only [Act.put, List.setIfInBounds_toArray, List.set_cons_zero, List.set_cons_succ]
          refine OrdE.takeK (i := 10) (oi := { dst := some 66, op := Go.Op.binOp Go.BinOp.neq 2 (Go.Operand.tmp 61) (Go.Operand.tmp 65) 2, type := 4, pos := "law.go:45", after := #[{ on := 5, ground := Go.Ground.data }, { on := 9, ground := Go.Ground.data }, { on := 3, ground := Go.Ground.guard }], guard := some (3, false) }) (v := .bool false) rfl (by kernel_rfl) (by kernel_rfl) (by kernel_rfl) (by kernel_rfl) (fun _ _ _ h => h) (by rfl) ?_ (hc) ?_
          · intro w hS; have hx0 := hS; go_simp
          try simp only [Act.put, List.setIfInBounds_toArray, List.set_cons_zero, List.set_cons_succ]
          refine OrdE.takeK (i := 11) (oi := { dst := some 67, op := Go.Op.pick (Go.Operand.tmp 59) (Go.Operand.const (Go.Value.bool true)) (Go.Operand.tmp 66), type := 4, pos := "law.go:45", after := #[{ on := 3, ground := Go.Ground.data }, { on := 10, ground := Go.Ground.data }], guard := none }) (v := .bool false) rfl (by kernel_rfl) (by kernel_rfl) (by kernel_rfl) (by kernel_rfl) (fun _ _ _ h => h) (by rfl) ?_ (hc) ?_
          · intro w hS; have hx0 := hS; go_simp
          try simp only [Act.put, List.setIfInBounds_toArray, List.set_cons_zero, List.set_cons_succ]
          refine OrdE.takeK (i := 12) (oi := { dst := some 68, op := Go.Op.move (Go.Operand.tmp 67), type := 4, pos := "law.go:45", after := #[{ on := 11, ground := Go.Ground.data }, { on := 5, ground := Go.Ground.chain }], guard := none }) (v := .bool false) rfl (by kernel_rfl) (by kernel_rfl) (by kernel_rfl) (by kernel_rfl) (fun _ _ _ h => h) (by rfl) ?_ (hc) ?_
          · intro w hS; have hx0 := hS; go_simp
          try simp only [Act.put, List.setIfInBounds_toArray, List.set_cons_zero, List.set_cons_succ]
          refine OrdE.takeK (i := 13) (oi := { dst := some 69, op := Go.Op.move (Go.Operand.tmp 0), type := 24, pos := "law.go:45", after := #[{ on := 12, ground := Go.Ground.guard }], guard := some (12, false) }) (v := .pointer (some ⟨p, 0, none⟩)) rfl (by kernel_rfl) (by kernel_rfl) (by kernel_rfl) (by kernel_rfl) (fun _ _ _ h => h) (by rfl) ?_ (hc) ?_
          · intro w hS; have hx0 := hS; go_simp
          try simp only [Act.put, List.setIfInBounds_toArray, List.set_cons_zero, List.set_cons_succ]
          refine OrdE.takeK (i := 15) (oi := { dst := some 71, op := Go.Op.move (Go.Operand.tmp 1), type := 26, pos := "law.go:45", after := #[{ on := 12, ground := Go.Ground.guard }], guard := some (12, false) }) (v := .pointer (some ⟨q, 0, none⟩)) rfl (by kernel_rfl) (by kernel_rfl) (by kernel_rfl) (by kernel_rfl) (fun _ _ _ h => h) (by rfl) ?_ (hc) ?_
          · intro w hS; have hx0 := hS; go_simp
          try simp only [Act.put, List.setIfInBounds_toArray, List.set_cons_zero, List.set_cons_succ]
          refine OrdE.oneE (i := 14) (o := { dst := some 70, op := Go.Op.call { callee := Go.Callee.value (Go.Operand.func 19), args := #[Go.Operand.tmp 69], argTypes := #[24] }, type := 9, pos := "law.go:45", after := #[{ on := 13, ground := Go.Ground.data }, { on := 12, ground := Go.Ground.chain }, { on := 12, ground := Go.Ground.guard }], guard := some (12, false) }) (by kernel_rfl) rfl (fun K hK => ?_)
          go_simp
          refine (text_calls p n l _ HP1.out HBd.out hn (tab_below HT.out HW1.out)).mono ?_
          rintro e w4 ⟨rfl, hB4⟩
          have hc4 := (hB4.cell (p := ⟨q, 44, none⟩) (World.block_lt_of_cell? _ _ hc)).trans hc
          have HW4 := Aside0.mk (HW1.out.trans (hB4.mono HW1.out.size))
          have HR4 := Aside0.mk (Kd.C_below HR1.out hB4)
          clear hB4
          have hsz := text_size HBd.out hn
          generalize htx : textOf l = tx at hsz ⊢; have HTX := Lib.hid htx; clear htx
          refine hK.out _ _ (fun _ => hc4) ?_
          clear hK K
          try simp only [Act.put, List.setIfInBounds_toArray, List.set_cons_zero, List.set_cons_succ]
          refine OrdE.oneE (i := 16) (o := { dst := some 72, op := Go.Op.call { callee := Go.Callee.value (Go.Operand.func 23), args := #[Go.Operand.tmp 71], argTypes := #[26] }, type := 9, pos := "law.go:45", after := #[{ on := 15, ground := Go.Ground.data }, { on := 14, ground := Go.Ground.chain }, { on := 12, ground := Go.Ground.guard }], guard := some (12, false) }) (by kernel_rfl) rfl (fun K hK => ?_)
          go_simp
          have HQ4 := (HW4.out.block q hq).trans HQ.out
          refine (rtext_calls q n l _ HQ4 HBd.out hn).mono ?_
          rintro e w5 ⟨rfl, hB5⟩
          rw [show textOf l = tx from HTX.out]
          have hc5 := (hB5.cell (p := ⟨q, 44, none⟩) (World.block_lt_of_cell? _ _ hc4)).trans hc4
          have HW5 := Aside0.mk (HW4.out.trans (hB5.mono HW4.out.size))
          have HR5 := Aside0.mk (Kd.C_below HR4.out hB5)
          clear hB5
          refine hK.out _ _ (fun _ => hc5) ?_
          clear hK K
          try simp only [Act.put, List.setIfInBounds_toArray, List.set_cons_zero, List.set_cons_succ]
          refine OrdE.takeK (i := 17) (oi := { dst := some 73, op := Go.Op.binOp Go.BinOp.neq 9 (Go.Operand.tmp 70) (Go.Operand.tmp 72) 9, type := 4, pos := "law.go:45", after := #[{ on := 14, ground := Go.Ground.data }, { on := 16, ground := Go.Ground.data }, { on := 12, ground := Go.Ground.guard }], guard := some (12, false) }) (v := .bool false) rfl (by kernel_rfl) (by kernel_rfl) (by kernel_rfl) (by kernel_rfl) (fun _ _ _ h => h) (by rfl) ?_ (hc5) ?_
          · intro w hS; have hx0 := hS; go_simp
          try simp only [Act.put, List.setIfInBounds_toArray, List.set_cons_zero, List.set_cons_succ]
          refine OrdE.takeK (i := 18) (oi := { dst := some 74, op := Go.Op.pick (Go.Operand.tmp 68) (Go.Operand.const (Go.Value.bool true)) (Go.Operand.tmp 73), type := 4, pos := "law.go:45", after := #[{ on := 12, ground := Go.Ground.data }, { on := 17, ground := Go.Ground.data }], guard := none }) (v := .bool false) rfl (by kernel_rfl) (by kernel_rfl) (by kernel_rfl) (by kernel_rfl) (fun _ _ _ h => h) (by rfl) ?_ (hc5) ?_
          · intro w hS; have hx0 := hS; go_simp
          try simp only [Act.put, List.setIfInBounds_toArray, List.set_cons_zero, List.set_cons_succ]
          refine OrdE.doneE (by kernel_rfl) ?_ _
          clear hc hc4 hc5 HW1 HW4 HR1 HR4 HP1 HXX hsz HTX HTX0
          go_wp2
          go_loopw [10] (fun v10 wr => ∃ i : Nat, i ≤ 32 ∧ v10 = .int .i64 (i : Int) ∧ Aside0 (Below w.heap.size w wr) ∧ Aside0 ((Kd.int .i64).C wr A xs.length xs)) (fun v10 _ => 32 - (intOf v10).toNat)
          case atStart => exact ⟨0, Nat.zero_le _, rfl, HW5, HR5⟩
          case round =>
            clear HW5 HR5
            obtain ⟨i, hi, rfl, HW, HR⟩ := hrel
            by_cases hlt : i < 32
            · have hi0 : (0 : Int) ≤ (i : Int) := by omega
              have hi1 : (i : Int) < 32 := by omega
              obtain ⟨ad, hA, hcell⟩ := Kd.at_int HR.out (i : Int) hi0 (by rw [HN.out]; omega)
              rw [rd_nth, Int.toNat_natCast, HNT.out i hlt] at hcell
              have hqr : wr.heap[q]? = some (OR l) := (HW.out.block q hq).trans HQ.out
              have hc := en_at hqr (12 + i) (by rw [HBd.out.len]; omega)
              generalize nth l (12 + i) = x at hc hcell
              subst hA
              have HW2 := Aside0.mk HW.out.drew
              have HR2 := Aside0.mk (Kd.C_below HR.out (below_drew (Below.refl _ _)))
              clear hqr
              go_wp2_with fail
              refine wp_region_still_lit (by kernel_rfl) (by kernel_rfl) ?_
              repeat still_step
              refine wpStill_nil ?_
              change Exit.then _ _ _ _ wr.drew
              clear hc hcell
              generalize wr.drew = w6 at HW2 HR2 ⊢
              go_wp2
              go_roundw
              case rel => exact ⟨i + 1, by omega, by go_num, HW2, HR2⟩
              case measure => simp [intOf]; omega
            · have hin : i = 32 := by omega
              have hic : ((i : Nat) : Int) = 32 := by omega
              rw [hic]
              clear hin hic hlt hi HR
              go_wp2
              go_loopw [11] (fun v11 wr => ∃ i : Int, v11 = .int .i64 i ∧ -10 ≤ i ∧ i ≤ 120 ∧ Aside0 (Below w.heap.size w wr)) (fun v11 _ => (120 - intOf v11).toNat)
              case atStart => exact ⟨-10, rfl, by omega, by omega, HW⟩
              case round =>
                clear HW
                obtain ⟨i, rfl, hi0, hi1, HW⟩ := hrel
                by_cases hlt : i ≤ 110
                · have hpr : wr.heap[p]? = some (OS l) := (HW.out.block p hp).trans HP.out
                  have HPR := Lib.hid hpr
                  clear hpr
                  go_wp2_with fail
                  refine (quant_calls p n i l _ HPR.out HBd.out hn).mono ?_
                  rintro e w2 ⟨rfl, hB2⟩
                  have HW2 := Aside0.mk (HW.out.trans (hB2.mono HW.out.size))
                  have hqr : w2.heap[q]? = some (OR l) := (HW2.out.block q hq).trans HQ.out
                  have HQR := Lib.hid hqr
                  clear hqr hB2
                  go_wp2_with fail
                  refine (rquant_calls q n i l _ HQR.out HBd.out hn).mono ?_
                  rintro e w3 ⟨rfl, rfl⟩
                  generalize quant l i = y
                  go_wp2
                  go_roundw
                  case rel => exact ⟨i + 10, rfl, by omega, by omega, HW2⟩
                  case measure => simp [intOf]; omega
                · go_wp2
                  go_ret
                  exact ⟨rfl, HW.out⟩
end Go.Proofs.YteebckekahnjiaaDoor.Stat
