/- The counts' text, as the document tells it. -/
import Derived.Test.YteebckekahnjiaaDoorStatT
import Derived.Test.YteebckekahnjiaaDoorOrdE
set_option linter.unusedVariables false
set_option linter.unusedSimpArgs false
namespace Go.Proofs.YteebckekahnjiaaDoor.Stat
open Go.RowKit Go.Proofs.YteebckekahnjiaaDoor.G Go.Proofs.YteebckekahnjiaaDoorW.PrintWords Go.Proofs.YteebckekahnjiaaDoorW.PrintMore Go.Proofs.YteebckekahnjiaaDoor.Foot Go.Proofs.YteebckekahnjiaaDoor.StatL Go.Proofs.YteebckekahnjiaaDoor.Itoa

theorem text_step (l : List Int) (i : Nat) (t : ByteArray) (ht : (⟨(Lib.itoa (nth l i)).toArray⟩ : ByteArray) = t) :
    (⟨(textTo l i).toArray⟩ : ByteArray) ++ word i ++ ⟨#[32]⟩ ++ t ++ ⟨#[10]⟩ = ⟨(textTo l (i + 1)).toArray⟩ := by
  subst ht
  refine Plain.bytes_inj ?_
  simp only [Plain.bytes_append]
  simp [bytesOf, textTo, lineOf]
theorem text_end (l : List Int) (t : ByteArray) (ht : (⟨(Lib.itoa (nth l 44)).toArray⟩ : ByteArray) = t) :
    (⟨(textTo l 6).toArray⟩ : ByteArray) ++ ⟨#[98, 121, 116, 101, 115, 32]⟩ ++ t ++ ⟨#[10]⟩ = textOf l := by
  subst ht
  refine Plain.bytes_inj ?_
  simp only [Plain.bytes_append]
  simp [bytesOf, textOf, textB]
set_option maxHeartbeats 4000000 in
set_option maxRecDepth 100000 in
theorem rtext_calls (p n : Nat) (l : List Int) (w : World) (h : w.heap[p]? = some (OR l)) (hb : Bd n l) (hn : n ≤ 1000) :
    Calls Tryd.prog 23 #[.pointer (some ⟨p, 0, none⟩)] w fun e w' => e = .returned (.string (textOf l)) ∧ Below w.heap.size w w' := by
  have H := Lib.hid h
  have hp := blk_lt h
  have HBd := Lib.hid hb
  have HTL := Lib.hid (text_len hb hn)
  clear h hb
  go_enter Tryd.func23, Tryd.ntmps23
  go_wp2
  go_loopw [3, 4] (fun v3 v4 wr => ∃ (i : Nat) (s : ByteArray), i ≤ 6 ∧ v4 = .int .i64 (i : Int) ∧ v3 = .string s ∧ s.size ≤ 200 ∧ Aside0 (s = ⟨(textTo l i).toArray⟩) ∧ Aside0 (Below w.heap.size w wr)) (fun _ v4 _ => 6 - (intOf v4).toNat)
  case atStart => exact ⟨0, _, Nat.zero_le _, rfl, rfl, by decide, ⟨rfl⟩, ⟨Below.refl _ _⟩⟩
  case round =>
    obtain ⟨i, s, hi, rfl, rfl, hs200, HS, HW⟩ := hrel
    by_cases hlt : i < 6
    · have hi0 : (0 : Int) ≤ (i : Int) := by omega
      have hi1 : (i : Int) < 6 := by omega
      have hws := word_size i hlt
      have HH := (HW.out.block p hp).trans H.out
      have hc := en_at (w := wr) HH i (by rw [HBd.out.len]; omega)
      have hnb := HBd.out.lo i (by omega)
      have hn0 : 0 ≤ nth l i := hnb.1
      have hn1 : nth l i ≤ n := hnb.2
      obtain ⟨t, ht⟩ : ∃ t : ByteArray, (⟨(Lib.itoa (nth l i)).toArray⟩ : ByteArray) = t := ⟨_, rfl⟩
      have hits := itoa_size (nth l i) (by omega) (by omega)
      rw [ht] at hits
      have hstp := text_step l i t ht
      rw [← HS.out] at hstp
      have HSTP := Lib.hid hstp
      have HNX := Lib.hid (show (s ++ word i ++ ⟨#[32]⟩ ++ t ++ ⟨#[10]⟩).size ≤ 200 by
        rw [hstp]
        have := HTL.out (i + 1) (by omega)
        show (textTo l (i + 1)).length ≤ 200
        omega)
      have hdec := fun w' => dec (nth l i) (by omega) (by omega) w'
      rw [ht] at hdec
      have hword := fun (w' : World) (A : Option Addr) (h : Kd.string.C w' A words.length words) => at_word h i hlt
      generalize nth l i = x at hc hn0 hn1 hdec
      generalize word i = z at hws HSTP HNX hword
      clear hnb HH ht hstp
      have HDEC := Lib.hid hdec
      have HWORD := Lib.hid hword
      clear hdec hword
      have e1 : (⟨#[32]⟩ : ByteArray).size = 1 := rfl
      have e2 : (⟨#[10]⟩ : ByteArray).size = 1 := rfl
      have HW0 := Aside0.mk HW.out.drew
      have hlen : words.length = 6 := rfl
      have HLEN := Lib.hid hlen
      clear hlen
      have hA1 : ¬ 9223372036854775807 < s.size + z.size := by omega
      have hA2 : ¬ 9223372036854775807 < s.size + z.size + 1 := by omega
      have hA3 : ¬ 9223372036854775807 < s.size + z.size + 1 + t.size := by omega
      have hA4 : ¬ 9223372036854775807 < s.size + z.size + 1 + t.size + 1 := by omega
      go_wp2_with fail
      -- REGION
      refine OrdE.beginS (fun w' => w'.cell? ⟨p, i, none⟩ = some (.int .i64 x)) (fun _ => true) (by kernel_rfl) ?_
      refine OrdE.takeK (i := 0) (oi := { dst := some 9, op := Go.Op.move (Go.Operand.tmp 3), type := 9, pos := "ambryref23.go:572", after := #[], guard := none }) (v := .string s) rfl (by kernel_rfl) (by kernel_rfl) (by kernel_rfl) (by kernel_rfl) (fun _ _ _ h => h) (by rfl) ?_ (hc) ?_
      · intro w hS; have hx0 := hS; go_simp
      try simp only [Act.put, List.setIfInBounds_toArray, List.set_cons_zero, List.set_cons_succ]
      refine OrdE.takeK (i := 2) (oi := { dst := some 11, op := Go.Op.move (Go.Operand.tmp 4), type := 3, pos := "ambryref23.go:572", after := #[], guard := none }) (v := .int .i64 (i : Int)) rfl (by kernel_rfl) (by kernel_rfl) (by kernel_rfl) (by kernel_rfl) (fun _ _ _ h => h) (by rfl) ?_ (hc) ?_
      · intro w hS; have hx0 := hS; go_simp
      try simp only [Act.put, List.setIfInBounds_toArray, List.set_cons_zero, List.set_cons_succ]
      refine OrdE.takeK (i := 7) (oi := { dst := some 16, op := Go.Op.move (Go.Operand.tmp 0), type := 26, pos := "ambryref23.go:572", after := #[], guard := none }) (v := .pointer (some ⟨p, 0, none⟩)) rfl (by kernel_rfl) (by kernel_rfl) (by kernel_rfl) (by kernel_rfl) (fun _ _ _ h => h) (by rfl) ?_ (hc) ?_
      · intro w hS; have hx0 := hS; go_simp
      try simp only [Act.put, List.setIfInBounds_toArray, List.set_cons_zero, List.set_cons_succ]
      refine OrdE.takeK (i := 8) (oi := { dst := some 17, op := Go.Op.move (Go.Operand.tmp 4), type := 3, pos := "ambryref23.go:572", after := #[], guard := none }) (v := .int .i64 (i : Int)) rfl (by kernel_rfl) (by kernel_rfl) (by kernel_rfl) (by kernel_rfl) (fun _ _ _ h => h) (by rfl) ?_ (hc) ?_
      · intro w hS; have hx0 := hS; go_simp
      try simp only [Act.put, List.setIfInBounds_toArray, List.set_cons_zero, List.set_cons_succ]
      refine OrdE.takeK (i := 9) (oi := { dst := some 18, op := Go.Op.nilCheck (Go.Operand.tmp 16), type := 0, pos := "ambryref23.go:572", after := #[{ on := 7, ground := Go.Ground.data }], guard := none }) (v := .pointer (some ⟨p, 0, none⟩)) rfl (by kernel_rfl) (by kernel_rfl) (by kernel_rfl) (by kernel_rfl) (fun _ _ _ h => h) (by rfl) ?_ (hc) ?_
      · intro w hS; have hx0 := hS; go_simp
      try simp only [Act.put, List.setIfInBounds_toArray, List.set_cons_zero, List.set_cons_succ]
      refine OrdE.takeK (i := 10) (oi := { dst := some 19, op := Go.Op.fieldAddr 30 (Go.Operand.tmp 18) 0, type := 0, pos := "ambryref23.go:572", after := #[{ on := 9, ground := Go.Ground.data }], guard := none }) (v := .pointer (some ⟨p, 0, none⟩)) rfl (by kernel_rfl) (by kernel_rfl) (by kernel_rfl) (by kernel_rfl) (fun _ _ _ h => h) (by rfl) ?_ (hc) ?_
      · intro w hS; have hx0 := hS; go_simp
      try simp only [Act.put, List.setIfInBounds_toArray, List.set_cons_zero, List.set_cons_succ]
      refine OrdE.takeK (i := 11) (oi := { dst := some 20, op := Go.Op.indexAddr 27 (Go.Operand.tmp 19) (Go.Operand.tmp 17), type := 0, pos := "ambryref23.go:572", after := #[{ on := 10, ground := Go.Ground.data }, { on := 8, ground := Go.Ground.data }], guard := none }) (v := .pointer (some ⟨p, i, none⟩)) rfl (by kernel_rfl) (by kernel_rfl) (by kernel_rfl) (by kernel_rfl) (fun _ _ _ h => h) (by rfl) ?_ (hc) ?_
      · intro w hS; have hx0 := hS; go_simp
      try simp only [Act.put, List.setIfInBounds_toArray, List.set_cons_zero, List.set_cons_succ]
      refine OrdE.takeK (i := 12) (oi := { dst := some 21, op := Go.Op.load 2 (Go.Operand.tmp 20), type := 2, pos := "ambryref23.go:572", after := #[{ on := 11, ground := Go.Ground.data }], guard := none }) (v := .int .i64 x) rfl (by kernel_rfl) (by kernel_rfl) (by kernel_rfl) (by kernel_rfl) (fun _ _ _ h => h) (by rfl) ?_ (hc) ?_
      · intro w hS; have hx0 := hS; go_simp
      try simp only [Act.put, List.setIfInBounds_toArray, List.set_cons_zero, List.set_cons_succ]
      refine OrdE.oneE (i := 1) (o := { dst := some 10, op := Go.Op.call { callee := Go.Callee.value (Go.Operand.func 32), args := #[], argTypes := #[] }, type := 64, pos := "ambryref23.go:572", after := #[], guard := none }) (by kernel_rfl) rfl (fun K hK => ?_)
      go_simp
      refine (ambryref23_hows.calls words _ hows_f).mono ?_
      rintro e w2 ⟨v, rfl, hR, hB⟩
      obtain ⟨A, cp, rfl, hlc, hC⟩ := Kd.R_reads hR
      obtain ⟨ad, hA, hcell⟩ := HWORD.out _ _ hC
      subst hA
      rw [HLEN.out]
      have hc2 := (hB.cell (p := ⟨p, i, none⟩) (World.block_lt_of_cell? _ _ hc)).trans hc
      clear hR hC hlc
      refine hK.out _ _ (fun _ => hc2) ?_
      clear hK K
      try simp only [Act.put, List.setIfInBounds_toArray, List.set_cons_zero, List.set_cons_succ]
      refine OrdE.takeK (i := 3) (oi := { dst := some 12, op := Go.Op.indexAddr 64 (Go.Operand.tmp 10) (Go.Operand.tmp 11), type := 0, pos := "ambryref23.go:572", after := #[{ on := 1, ground := Go.Ground.data }, { on := 2, ground := Go.Ground.data }], guard := none }) (v := .pointer (some (ad.add i))) rfl (by kernel_rfl) (by kernel_rfl) (by kernel_rfl) (by kernel_rfl) (fun _ _ _ h => h) (by rfl) ?_ (hc2) ?_
      · intro w hS; have hx0 := hS; go_simp
      try simp only [Act.put, List.setIfInBounds_toArray, List.set_cons_zero, List.set_cons_succ]
      refine OrdE.takeE (fun w' => w'.cell? (ad.add i) = some (.string z)) (i := 4) (oi := { dst := some 13, op := Go.Op.load 9 (Go.Operand.tmp 12), type := 9, pos := "ambryref23.go:572", after := #[{ on := 3, ground := Go.Ground.data }], guard := none }) (v := .string z) rfl (by kernel_rfl) (by kernel_rfl) (by kernel_rfl) (by kernel_rfl) (fun _ _ _ h => h) (by rfl) ?_ (hc2) (hcell) ?_
      · intro w hS; obtain ⟨hx0, hx1⟩ := hS; go_simp
      try simp only [Act.put, List.setIfInBounds_toArray, List.set_cons_zero, List.set_cons_succ]
      refine OrdE.takeK (i := 5) (oi := { dst := some 14, op := Go.Op.binOp Go.BinOp.add 9 (Go.Operand.tmp 9) (Go.Operand.tmp 13) 9, type := 9, pos := "ambryref23.go:572", after := #[{ on := 0, ground := Go.Ground.data }, { on := 4, ground := Go.Ground.data }], guard := none }) (v := .string (s ++ z)) rfl (by kernel_rfl) (by kernel_rfl) (by kernel_rfl) (by kernel_rfl) (fun _ _ _ h => h) (by rfl) ?_ (⟨hc2, hcell⟩) ?_
      · intro w hS; obtain ⟨hx0, hx1⟩ := hS; go_simp
      try simp only [Act.put, List.setIfInBounds_toArray, List.set_cons_zero, List.set_cons_succ]
      refine OrdE.takeK (i := 6) (oi := { dst := some 15, op := Go.Op.binOp Go.BinOp.add 9 (Go.Operand.tmp 14) (Go.Operand.const (Go.Value.string { data := #[32] })) 9, type := 9, pos := "ambryref23.go:572", after := #[{ on := 5, ground := Go.Ground.data }], guard := none }) (v := .string (s ++ z ++ ⟨#[32]⟩)) rfl (by kernel_rfl) (by kernel_rfl) (by kernel_rfl) (by kernel_rfl) (fun _ _ _ h => h) (by rfl) ?_ (⟨hc2, hcell⟩) ?_
      · intro w hS; obtain ⟨hx0, hx1⟩ := hS; go_simp
      try simp only [Act.put, List.setIfInBounds_toArray, List.set_cons_zero, List.set_cons_succ]
      refine OrdE.oneE (i := 13) (o := { dst := some 22, op := Go.Op.call { callee := Go.Callee.value (Go.Operand.func 33), args := #[Go.Operand.tmp 21], argTypes := #[2] }, type := 9, pos := "ambryref23.go:572", after := #[{ on := 12, ground := Go.Ground.data }, { on := 1, ground := Go.Ground.chain }], guard := none }) (by kernel_rfl) rfl (fun K hK => ?_)
      go_simp
      refine (HDEC.out _).mono ?_
      rintro e w3 ⟨rfl, kd, rfl⟩
      refine hK.out _ _ (fun _ => ⟨hc2, hcell⟩) ?_
      clear hK K
      try simp only [Act.put, List.setIfInBounds_toArray, List.set_cons_zero, List.set_cons_succ]
      refine OrdE.takeK (i := 14) (oi := { dst := some 23, op := Go.Op.binOp Go.BinOp.add 9 (Go.Operand.tmp 15) (Go.Operand.tmp 22) 9, type := 9, pos := "ambryref23.go:572", after := #[{ on := 6, ground := Go.Ground.data }, { on := 13, ground := Go.Ground.data }], guard := none }) (v := .string (s ++ z ++ ⟨#[32]⟩ ++ t)) rfl (by kernel_rfl) (by kernel_rfl) (by kernel_rfl) (by kernel_rfl) (fun _ _ _ h => h) (by rfl) ?_ (⟨hc2, hcell⟩) ?_
      · intro w hS; obtain ⟨hx0, hx1⟩ := hS; go_simp
      try simp only [Act.put, List.setIfInBounds_toArray, List.set_cons_zero, List.set_cons_succ]
      refine OrdE.takeK (i := 15) (oi := { dst := some 24, op := Go.Op.binOp Go.BinOp.add 9 (Go.Operand.tmp 23) (Go.Operand.const (Go.Value.string { data := #[10] })) 9, type := 9, pos := "ambryref23.go:572", after := #[{ on := 14, ground := Go.Ground.data }], guard := none }) (v := .string (s ++ z ++ ⟨#[32]⟩ ++ t ++ ⟨#[10]⟩)) rfl (by kernel_rfl) (by kernel_rfl) (by kernel_rfl) (by kernel_rfl) (fun _ _ _ h => h) (by rfl) ?_ (⟨hc2, hcell⟩) ?_
      · intro w hS; obtain ⟨hx0, hx1⟩ := hS; go_simp
      try simp only [Act.put, List.setIfInBounds_toArray, List.set_cons_zero, List.set_cons_succ]
      refine OrdE.takeK (i := 16) (oi := { dst := some 3, op := Go.Op.assign (Go.Operand.tmp 24), type := 9, pos := "ambryref23.go:572", after := #[{ on := 15, ground := Go.Ground.data }, { on := 13, ground := Go.Ground.chain }, { on := 0, ground := Go.Ground.phase }, { on := 1, ground := Go.Ground.phase }, { on := 2, ground := Go.Ground.phase }, { on := 3, ground := Go.Ground.phase }, { on := 4, ground := Go.Ground.phase }, { on := 5, ground := Go.Ground.phase }, { on := 6, ground := Go.Ground.phase }, { on := 7, ground := Go.Ground.phase }, { on := 8, ground := Go.Ground.phase }, { on := 9, ground := Go.Ground.phase }, { on := 10, ground := Go.Ground.phase }, { on := 11, ground := Go.Ground.phase }, { on := 12, ground := Go.Ground.phase }, { on := 13, ground := Go.Ground.phase }, { on := 14, ground := Go.Ground.phase }, { on := 15, ground := Go.Ground.phase }], guard := none }) (v := .string (s ++ z ++ ⟨#[32]⟩ ++ t ++ ⟨#[10]⟩)) rfl (by kernel_rfl) (by kernel_rfl) (by kernel_rfl) (by kernel_rfl) (fun _ _ _ h => h) (by rfl) ?_ (⟨hc2, hcell⟩) ?_
      · intro w hS; obtain ⟨hx0, hx1⟩ := hS; go_simp
      try simp only [Act.put, List.setIfInBounds_toArray, List.set_cons_zero, List.set_cons_succ]
      refine OrdE.doneE (by kernel_rfl) ?_ _
      clear hA1 hA2 hA3 hA4
      go_wp2
      go_roundw
      case rel => exact ⟨i + 1, _, by omega, by go_num, rfl, HNX.out, ⟨HSTP.out⟩, ⟨pw_below_drewN (HW0.out.trans (hB.mono HW0.out.size)) _⟩⟩
      case measure => simp [intOf]; omega
    · have hin : i = 6 := by omega
      have hic : ((i : Nat) : Int) = 6 := by omega
      rw [hin] at HS
      rw [hic]
      clear hin hic hlt hi
      have HH := (HW.out.block p hp).trans H.out
      have hc := en_at (w := wr) HH 44 (by rw [HBd.out.len]; omega)
      have hall := HBd.out.all
      have hn0 : 0 ≤ nth l 44 := hall.1
      have hn1 : nth l 44 ≤ n * 1073741824 := hall.2
      obtain ⟨t, ht⟩ : ∃ t : ByteArray, (⟨(Lib.itoa (nth l 44)).toArray⟩ : ByteArray) = t := ⟨_, rfl⟩
      have hits := itoa_size (nth l 44) (by omega) (by omega)
      rw [ht] at hits
      have hstp := text_end l t ht
      rw [← HS.out] at hstp
      have HSTP := Lib.hid hstp
      have hdec := fun w' => dec (nth l 44) (by omega) (by omega) w'
      rw [ht] at hdec
      generalize nth l 44 = x at hc hn0 hn1 hdec
      have HDEC := Lib.hid hdec
      have e1 : (⟨#[98, 121, 116, 101, 115, 32]⟩ : ByteArray).size = 6 := rfl
      have e2 : (⟨#[10]⟩ : ByteArray).size = 1 := rfl
      clear hall HH ht hstp hdec
      go_wp2_with fail
      refine (HDEC.out _).mono ?_
      rintro e w3 ⟨rfl, kd, rfl⟩
      go_wp2
      go_ret
      exact ⟨by rw [← HSTP.out]; rfl, pw_below_drewN HW.out _⟩
end Go.Proofs.YteebckekahnjiaaDoor.Stat
