/- A sweep takes the elder entries. -/
import Derived.Test.YtafpaomcmjccaaaDirKn
import Derived.Test.YtafpaomcmjccaaaDirG
import Derived.OpenShut
set_option linter.unusedVariables false
set_option linter.unusedSimpArgs false
namespace Go.Proofs.Ytafpaomcmjccaaa.Walk
open Go.RowKit Go.Proofs.Ytafpaomcmjccaaa.G Go.Proofs.YtafpaomcmjccaaaW.PrintWords Go.Proofs.YtafpaomcmjccaaaW.PrintMore Go.Proofs.Ytafpaomcmjccaaa.Foot Go.Proofs.Ytafpaomcmjccaaa.Dir

set_option maxHeartbeats 4000000 in
set_option maxRecDepth 100000 in
theorem DirSweeps (W : World) (A0 : Option Addr) (c0 : Nat) (l0 : List Int) (a1 a2 : Int) (hr0 : Kd.C (Kd.int .u8) W A0 l0.length l0) (hc0 : l0.length ≤ c0) (g0 : ∀ x ∈ l0, (Lit.int .u8 x).wf = true) (w1 : (Lit.int .u8 a1).wf = true) (w2 : (Lit.int .u8 a2).wf = true) :
    Calls Try.prog 6 #[.slice A0 l0.length c0, .int .u8 a1, .int .u8 a2] W fun e w' => e = .returned (.bool true) ∧ Below W.heap.size W w' := by
  have b1 := bounds_u8 w1
  have b2 := bounds_u8 w2
  have h8 : ∀ x ∈ l0, 0 ≤ x ∧ x ≤ 255 := fun x hx => bounds_u8 (g0 x hx)
  have H8 := Lib.hid h8
  have HR := Lib.hid hr0
  clear w1 w2 g0 h8 hr0
  go_enter Try.func6, Try.ntmps6
  go_wp2_with fail
  with_reducible refine (known_calls W).mono ?_
  rintro e w1 ⟨rfl, hB⟩
  have HO := Aside0.mk ((Foot.Own.start W).step hB)
  clear hB
  by_cases q1 : 30 < l0.length
  · have p1 : (30 : Int) < (l0.length : Int) := by omega
    go_wp2_with fail
    go_ret
    exact ⟨rfl, HO.out.below⟩
  have p1 : decide ((30 : Int) < (l0.length : Int)) = false := decide_eq_false (by omega)
  go_wp2_with fail
  with_reducible refine (New_own HO.out 64 16).mono ?_
  rintro e w2 ⟨p, rfl, ho⟩
  have HO := Aside0.mk ho
  have hl30 : l0.length ≤ 30 := by omega
  clear ho p1 q1
  go_wp2_with fail
  go_loopw [8, 9] (fun v8 v9 wr => ∃ (i : Nat) (D : Di), v9 = .int .i64 (i : Int) ∧ i ≤ l0.length ∧ v8 = .int .i64 (((l0.take i).countP (fun t => decide (t < a1)) : Nat) : Int) ∧ Aside0 (SwD l0 i D) ∧ Aside0 (Foot.Own W wr (star (DirH p D) emp))) (fun _ v9 _ => l0.length - (intOf v9).toNat)
  case atStart => exact ⟨0, _, rfl, Nat.zero_le _, rfl, Aside0.mk (sw_new _), HO⟩
  case round =>
    clear HO
    obtain ⟨i, D, rfl, hi, rfl, HF, HO⟩ := hrel
    have hcle : (l0.take i).countP (fun t => decide (t < a1)) ≤ i := Nat.le_trans List.countP_le_length (by rw [List.length_take]; omega)
    by_cases hlt : i < l0.length
    · have hi0 : (0 : Int) ≤ (i : Int) := by omega
      have hi1 : (i : Int) < (l0.length : Int) := by omega
      obtain ⟨ad, hA, hcell⟩ := Kd.at_int (Kd.C_below HR.out HO.out.below) (i : Int) hi0 hi1
      rw [Int.toNat_natCast] at hcell
      obtain ⟨t, ht⟩ : ∃ t, l0[i]? = some t := ⟨_, List.getElem?_eq_getElem hlt⟩
      have hrd : rd l0 (i : Int) = t := by
        unfold rd
        rw [Int.toNat_natCast, List.getD_eq_getElem?_getD, ht]
        rfl
      rw [hrd] at hcell
      have htb := H8.out t (List.mem_of_getElem? ht)
      have hcs : (l0.take (i + 1)).countP (fun t => decide (t < a1)) = (l0.take i).countP (fun t => decide (t < a1)) + (if t < a1 then 1 else 0) := by
        rw [List.take_add_one, ht, List.countP_append]
        show _ + List.countP _ [t] = _
        rw [List.countP_singleton]
        simp
      have HCS := Lib.hid hcs
      have HT := Lib.hid ht
      generalize (l0.take i).countP (fun t => decide (t < a1)) = m at hcle HCS ⊢
      have hrd' := Lib.hid hrd
      clear hrd hcs ht
      subst hA
      have hw16 : IntKind.u16.wrap (i : Int) = (i : Int) := by rw [IntKind.wrap_u16]; omega
      have hw32 : IntKind.u32.wrap (i : Int) = (i : Int) := by rw [IntKind.wrap_u32]; omega
      have hw64 : IntKind.u64.wrap t = t := by rw [IntKind.wrap_u64]; omega
      go_upto_region 10 with (fail)
      --REGION
      refine OrdE.beginS (fun w' => w'.cell? (ad.add i) = some (.int .u8 t)) (fun _ => true) (by kernel_rfl) ?_
      have HO := Aside0.mk HO.out.drew
      have hcell : wr.drew.cell? (ad.add i) = some (.int .u8 t) := hcell
      generalize wr.drew = wd at HO hcell ⊢
      have HC := Aside0.mk hcell
      clear hcell
      refine OrdE.takeK (i := 0) (oi := { dst := some 22, op := Go.Op.move (Go.Operand.tmp 7), type := 28, pos := "more.go:41", after := #[], guard := none }) (v := (.pointer (some ⟨p, 0, none⟩))) rfl (by kernel_rfl) (by kernel_rfl) (by kernel_rfl) (by kernel_rfl) (fun _ _ _ h => h) (by rfl) ?_ (HC.out) ?_
      · intro w hS; have hx0 := hS; go_simp
      try simp only [Act.put, List.setIfInBounds_toArray, List.set_cons_zero, List.set_cons_succ]
      refine OrdE.takeK (i := 1) (oi := { dst := some 23, op := Go.Op.move (Go.Operand.tmp 9), type := 3, pos := "more.go:41", after := #[], guard := none }) (v := (.int .i64 (i : Int))) rfl (by kernel_rfl) (by kernel_rfl) (by kernel_rfl) (by kernel_rfl) (fun _ _ _ h => h) (by rfl) ?_ (HC.out) ?_
      · intro w hS; have hx0 := hS; go_simp
      try simp only [Act.put, List.setIfInBounds_toArray, List.set_cons_zero, List.set_cons_succ]
      refine OrdE.takeK (i := 2) (oi := { dst := some 24, op := Go.Op.convert 3 26 (Go.Operand.tmp 23), type := 26, pos := "more.go:41", after := #[{ on := 1, ground := Go.Ground.data }], guard := none }) (v := (.int .u16 (i : Int))) rfl (by kernel_rfl) (by kernel_rfl) (by kernel_rfl) (by kernel_rfl) (fun _ _ _ h => h) (by rfl) ?_ (HC.out) ?_
      · intro w hS; have hx0 := hS; go_simp
      try simp only [Act.put, List.setIfInBounds_toArray, List.set_cons_zero, List.set_cons_succ]
      refine OrdE.takeK (i := 4) (oi := { dst := some 26, op := Go.Op.move (Go.Operand.tmp 9), type := 3, pos := "more.go:41", after := #[], guard := none }) (v := (.int .i64 (i : Int))) rfl (by kernel_rfl) (by kernel_rfl) (by kernel_rfl) (by kernel_rfl) (fun _ _ _ h => h) (by rfl) ?_ (HC.out) ?_
      · intro w hS; have hx0 := hS; go_simp
      try simp only [Act.put, List.setIfInBounds_toArray, List.set_cons_zero, List.set_cons_succ]
      refine OrdE.takeK (i := 5) (oi := { dst := some 27, op := Go.Op.convert 3 37 (Go.Operand.tmp 26), type := 37, pos := "more.go:41", after := #[{ on := 4, ground := Go.Ground.data }], guard := none }) (v := (.int .u32 (i : Int))) rfl (by kernel_rfl) (by kernel_rfl) (by kernel_rfl) (by kernel_rfl) (fun _ _ _ h => h) (by rfl) ?_ (HC.out) ?_
      · intro w hS; have hx0 := hS; go_simp
      try simp only [Act.put, List.setIfInBounds_toArray, List.set_cons_zero, List.set_cons_succ]
      refine OrdE.takeK (i := 6) (oi := { dst := some 28, op := Go.Op.move (Go.Operand.tmp 0), type := 42, pos := "more.go:41", after := #[], guard := none }) (v := (.slice (some ad) l0.length c0)) rfl (by kernel_rfl) (by kernel_rfl) (by kernel_rfl) (by kernel_rfl) (fun _ _ _ h => h) (by rfl) ?_ (HC.out) ?_
      · intro w hS; have hx0 := hS; go_simp
      try simp only [Act.put, List.setIfInBounds_toArray, List.set_cons_zero, List.set_cons_succ]
      refine OrdE.takeK (i := 7) (oi := { dst := some 29, op := Go.Op.move (Go.Operand.tmp 9), type := 3, pos := "more.go:41", after := #[], guard := none }) (v := (.int .i64 (i : Int))) rfl (by kernel_rfl) (by kernel_rfl) (by kernel_rfl) (by kernel_rfl) (fun _ _ _ h => h) (by rfl) ?_ (HC.out) ?_
      · intro w hS; have hx0 := hS; go_simp
      try simp only [Act.put, List.setIfInBounds_toArray, List.set_cons_zero, List.set_cons_succ]
      refine OrdE.takeK (i := 8) (oi := { dst := some 30, op := Go.Op.indexAddr 42 (Go.Operand.tmp 28) (Go.Operand.tmp 29), type := 0, pos := "more.go:41", after := #[{ on := 6, ground := Go.Ground.data }, { on := 7, ground := Go.Ground.data }], guard := none }) (v := (.pointer (some (ad.add i)))) rfl (by kernel_rfl) (by kernel_rfl) (by kernel_rfl) (by kernel_rfl) (fun _ _ _ h => h) (by rfl) ?_ (HC.out) ?_
      · intro w hS; have hx0 := hS; go_simp
      try simp only [Act.put, List.setIfInBounds_toArray, List.set_cons_zero, List.set_cons_succ]
      refine OrdE.takeK (i := 9) (oi := { dst := some 31, op := Go.Op.load 5 (Go.Operand.tmp 30), type := 5, pos := "more.go:41", after := #[{ on := 8, ground := Go.Ground.data }], guard := none }) (v := (.int .u8 t)) rfl (by kernel_rfl) (by kernel_rfl) (by kernel_rfl) (by kernel_rfl) (fun _ _ _ h => h) (by rfl) ?_ (HC.out) ?_
      · intro w hS; have hx0 := hS; go_simp
      try simp only [Act.put, List.setIfInBounds_toArray, List.set_cons_zero, List.set_cons_succ]
      refine OrdE.takeK (i := 10) (oi := { dst := some 32, op := Go.Op.convert 5 38 (Go.Operand.tmp 31), type := 38, pos := "more.go:41", after := #[{ on := 9, ground := Go.Ground.data }], guard := none }) (v := (.int .u64 t)) rfl (by kernel_rfl) (by kernel_rfl) (by kernel_rfl) (by kernel_rfl) (fun _ _ _ h => h) (by rfl) ?_ (HC.out) ?_
      · intro w hS; have hx0 := hS; go_simp
      try simp only [Act.put, List.setIfInBounds_toArray, List.set_cons_zero, List.set_cons_succ]
      refine OrdE.oneE (i := 3) (o := { dst := some 25, op := Go.Op.call { callee := Go.Callee.value (Go.Operand.func 18), args := #[Go.Operand.tmp 24], argTypes := #[26] }, type := 23, pos := "more.go:41", after := #[{ on := 2, ground := Go.Ground.data }], guard := none }) (by kernel_rfl) rfl (fun K hK => ?_)
      go_simp
      refine (key_calls (i : Int) _ (by omega) (by omega)).mono ?_
      rintro e w3 ⟨rfl, hB⟩
      have HCa := Aside0.mk (Kd.C_below HR.out (HO.out.step hB).below)
      obtain ⟨ad', hA', hcell'⟩ := Kd.at_int HCa.out (i : Int) hi0 hi1
      obtain rfl : ad = ad' := by cases hA'; rfl
      rw [Int.toNat_natCast, hrd'.out] at hcell'
      have HC2 := Aside0.mk hcell'
      clear hA' hcell' HCa
      have HO2 := Aside0.mk (HO.out.step hB)
      clear hB HO HC
      refine hK.out _ _ (fun _ => HC2.out) ?_
      clear hK K
      try simp only [Act.put, List.setIfInBounds_toArray, List.set_cons_zero, List.set_cons_succ]
      refine OrdE.oneE (i := 11) (o := { dst := some 33, op := Go.Op.call { callee := Go.Callee.value (Go.Operand.func 17), args := #[Go.Operand.tmp 22, Go.Operand.tmp 25, Go.Operand.tmp 27, Go.Operand.const (Go.Value.int Go.IntKind.u16 2), Go.Operand.tmp 32], argTypes := #[28, 23, 37, 26, 38] }, type := 34, pos := "more.go:41", after := #[{ on := 0, ground := Go.Ground.data }, { on := 3, ground := Go.Ground.data }, { on := 5, ground := Go.Ground.data }, { on := 10, ground := Go.Ground.data }, { on := 3, ground := Go.Ground.chain }], guard := none }) (by kernel_rfl) rfl (fun K hK => ?_)
      go_simp
      refine (Insert_own HO2.out (i : Int) 2 t (okE _ _ _ _ (Dir.keyOf i).tag_rng (by omega) (by omega) (by omega))).mono ?_
      rintro e w4 ⟨rfl, ho⟩
      obtain ⟨he, hF⟩ := HF.out.step t HT.out (by omega) htb (dirH_ok ho)
      rw [he]
      have HO3 := Aside0.mk ho
      have HF2 := Aside0.mk hF
      have HCa := Aside0.mk (Kd.C_below HR.out ho.below)
      clear ho he hF HO2 HC2
      obtain ⟨ad', hA', hcell'⟩ := Kd.at_int HCa.out (i : Int) hi0 hi1
      obtain rfl : ad = ad' := by cases hA'; rfl
      rw [Int.toNat_natCast, hrd'.out] at hcell'
      have HC3 := Aside0.mk hcell'
      clear hA' hcell' HCa
      refine hK.out _ _ (fun _ => HC3.out) ?_
      clear hK K
      try simp only [Act.put, List.setIfInBounds_toArray, List.set_cons_zero, List.set_cons_succ]
      refine OrdE.takeK (i := 12) (oi := { dst := some 34, op := Go.Op.binOp Go.BinOp.neq 3 (Go.Operand.tmp 33) (Go.Operand.const (Go.Value.int Go.IntKind.i64 0)) 3, type := 4, pos := "more.go:41", after := #[{ on := 11, ground := Go.Ground.data }], guard := none }) (v := (.bool false)) rfl (by kernel_rfl) (by kernel_rfl) (by kernel_rfl) (by kernel_rfl) (fun _ _ _ h => h) (by rfl) ?_ (HC3.out) ?_
      · intro w hS; have hx0 := hS; go_simp
      try simp only [Act.put, List.setIfInBounds_toArray, List.set_cons_zero, List.set_cons_succ]
      refine OrdE.doneE (by kernel_rfl) ?_ _
      generalize ((D.ins (Dir.keyOf i) ⟨(Dir.keyOf i).tag, (i : Int), 2, t⟩).2) = D2 at HO3 HF2
      have hcell := HC3.out
      by_cases hta : t < a1
      · rw [if_pos hta] at HCS
        go_wp2_with fail
        go_roundw
        case rel => exact ⟨i + 1, D2, by rw [show ((i + 1 : Nat) : Int) = (i : Int) + 1 by omega], by omega, by rw [HCS.out, show ((m + 1 : Nat) : Int) = (m : Int) + 1 by omega], HF2, HO3⟩
        case measure => simp only [intOf]; omega
      · have htb2 : decide (t < a1) = false := decide_eq_false hta
        rw [if_neg hta] at HCS
        go_wp2_with fail
        go_roundw
        case rel => exact ⟨i + 1, D2, by rw [show ((i + 1 : Nat) : Int) = (i : Int) + 1 by omega], by omega, by rw [HCS.out, Nat.add_zero], HF2, HO3⟩
        case measure => simp only [intOf]; omega
    · --END
      obtain rfl : i = l0.length := by omega
      have HS := HF.out.sweep a1
      have e1 := elder_no a2 a2 a1 (by omega)
      have e2 := elder_no 9 3 a1 (by omega)
      have e3 := HF.out.all
      have HE := Lib.hid (And.intro e1 (And.intro e2 e3))
      have HSS := Lib.hid HS
      rw [List.take_length] at hcle ⊢
      generalize hm : l0.countP (fun t => decide (t < a1)) = m at hcle ⊢
      have HM := Lib.hid hm
      clear HS e1 e2 e3 hm
      go_wp2_with fail
      with_reducible refine (Purge_own HO.out a2 a2 a1 (by omega) (by omega)).mono ?_
      rintro e w3 ⟨rfl, ho⟩
      rw [HE.out.1, gone_no]
      rw [HE.out.1, purge_no] at ho
      have HO3 := Aside0.mk ho
      clear ho HO
      go_wp2_with fail
      with_reducible refine (Purge_own HO3.out 9 3 a1 (by omega) (by omega)).mono ?_
      rintro e w4 ⟨rfl, ho⟩
      rw [HE.out.2.1, gone_no]
      rw [HE.out.2.1, purge_no] at ho
      have HO4 := Aside0.mk ho
      clear ho HO3
      go_wp2_with fail
      with_reducible refine (Len_own HO4.out).mono ?_
      rintro e w5 ⟨rfl, ho⟩
      rw [HE.out.2.2]
      have HO5 := Aside0.mk ho
      clear ho HO4
      go_wp2_with fail
      with_reducible refine (Purge_own HO5.out 0 1000 a1 (by omega) (by omega)).mono ?_
      rintro e w6 ⟨rfl, ho⟩
      rw [HSS.out.1, HM.out]
      have HO6 := Aside0.mk ho
      clear ho HO5
      go_wp2_with fail
      with_reducible refine (Len_own HO6.out).mono ?_
      rintro e w7 ⟨rfl, ho⟩
      rw [HSS.out.2.1, HM.out, show ((l0.length - m : Nat) : Int) = (l0.length : Int) - (m : Int) by omega]
      have HO7 := Aside0.mk ho
      clear ho HO6
      go_wp2_with fail
      with_reducible refine (Purge_own HO7.out 0 1000 a1 (by omega) (by omega)).mono ?_
      rintro e w8 ⟨rfl, ho⟩
      rw [HSS.out.2.2]
      have HO8 := Aside0.mk ho
      clear ho HO7
      go_wp2_with fail
      go_ret
      exact ⟨rfl, HO8.out.below⟩
end Go.Proofs.Ytafpaomcmjccaaa.Walk
