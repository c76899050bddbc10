/- Entries of keys that meet. -/
import Derived.Test.YtafpaomcmjccaaaDirKn
import Derived.Test.YtafpaomcmjccaaaDirRm
import Derived.OpenShut
set_option linter.unusedVariables false
set_option linter.unusedSimpArgs false
namespace Go.Proofs.Ytafpaomcmjccaaa.Walk
open Go.RowKit Go.Proofs.Ytafpaomcmjccaaa.G Go.Proofs.YtafpaomcmjccaaaW.PrintWords Go.Proofs.YtafpaomcmjccaaaW.PrintMore Go.Proofs.Ytafpaomcmjccaaa.Foot Go.Proofs.Ytafpaomcmjccaaa.Dir

theorem u8_at {l : List Int} {i : Nat} (h : i < l.length) : ∃ t, l[i]? = some t ∧ rd l (i : Int) = t := by
  refine ⟨l[i], List.getElem?_eq_getElem h, ?_⟩
  unfold rd
  rw [Int.toNat_natCast, List.getD_eq_getElem?_getD, List.getElem?_eq_getElem h]
  rfl
set_option maxHeartbeats 4000000 in
set_option maxRecDepth 100000 in
theorem DirMeets (W : World) (A0 : Option Addr) (c0 : Nat) (l0 : List Int) (A1 : Option Addr) (c1 : Nat) (l1 : List Int) (hr0 : Kd.C (Kd.int .u8) W A0 l0.length l0) (hc0 : l0.length ≤ c0) (g0 : ∀ x ∈ l0, (Lit.int .u8 x).wf = true) (hr1 : Kd.C (Kd.int .u8) W A1 l1.length l1) (hc1 : l1.length ≤ c1) (g1 : ∀ x ∈ l1, (Lit.int .u8 x).wf = true) :
    Calls Try.prog 5 #[.slice A0 l0.length c0, .slice A1 l1.length c1] W fun e w' => e = .returned (.bool true) ∧ Below W.heap.size W w' := by
  have H0 := Lib.hid (show ∀ x ∈ l0, 0 ≤ x ∧ x ≤ 255 from fun x hx => bounds_u8 (g0 x hx))
  have H1 := Lib.hid (show ∀ x ∈ l1, 0 ≤ x ∧ x ≤ 255 from fun x hx => bounds_u8 (g1 x hx))
  have HR0 := Lib.hid hr0
  have HR1 := Lib.hid hr1
  clear g0 g1 hr0 hr1
  go_enter Try.func5, Try.ntmps5
  go_wp2_with fail
  with_reducible refine (known_calls W).mono ?_
  rintro e w1 ⟨rfl, hB⟩
  have HO := Aside0.mk ((Foot.Own.start W).step hB)
  clear hB
  by_cases q1 : 16 < l0.length
  · have p1 : (16 : Int) < (l0.length : Int) := by omega
    go_wp2_with fail
    go_ret
    exact ⟨rfl, HO.out.below⟩
  have p1 : decide ((16 : Int) < (l0.length : Int)) = false := decide_eq_false (by omega)
  by_cases q2 : 30 < l1.length
  · have p2 : (30 : Int) < (l1.length : Int) := by omega
    go_wp2_with fail
    go_ret
    exact ⟨rfl, HO.out.below⟩
  have p2 : decide ((30 : Int) < (l1.length : Int)) = false := decide_eq_false (by omega)
  go_wp2_with fail
  with_reducible refine (New_own HO.out 2 16).mono ?_
  rintro e w2 ⟨p, rfl, ho⟩
  have HO := Aside0.mk ho
  clear ho
  go_wp2_with fail
  with_reducible refine (rNew_own HO.out 2 16).mono ?_
  rintro e w3 ⟨pr, rfl, ho⟩
  have HO := Aside0.mk ho.swap
  clear ho
  have hl0 : l0.length ≤ 16 := by omega
  have hl1 : l1.length ≤ 30 := by omega
  clear p1 q1 p2 q2
  go_wp2_with fail
  go_loopw [7] (fun v7 wr => ∃ (i : Nat) (D : Di), v7 = .int .i64 (i : Int) ∧ i ≤ l0.length ∧ Aside0 (MeetD D) ∧ Aside0 (Foot.Own W wr (star (DirH p D) (star (RefH pr D) emp)))) (fun v7 _ => l0.length - (intOf v7).toNat)
  case atStart => exact ⟨0, _, rfl, Nat.zero_le _, Aside0.mk meet_new, HO⟩
  case round =>
    clear HO
    obtain ⟨i, D, rfl, hi, HM, HO⟩ := hrel
    by_cases hlt : i < l0.length
    · have hi0 : (0 : Int) ≤ (i : Int) := by omega
      have hi1 : (i : Int) < (l0.length : Int) := by omega
      obtain ⟨ad, hA, hcell⟩ := Kd.at_int HR0.out (i : Int) hi0 hi1
      rw [Int.toNat_natCast] at hcell
      obtain ⟨t, ht, hrd⟩ := u8_at hlt
      rw [hrd] at hcell
      have htb := H0.out t (List.mem_of_getElem? ht)
      obtain ⟨a, ha⟩ : ∃ a, t % 8 = a := ⟨_, rfl⟩
      have hab : 0 ≤ a ∧ a < 8 := by omega
      have hwa : IntKind.u32.wrap a = a := by rw [IntKind.wrap_u32]; omega
      have hwi : IntKind.u64.wrap (i : Int) = (i : Int) := by rw [IntKind.wrap_u64]; omega
      have hta : t.tmod 8 = a := by rw [Int.tmod_eq_emod_of_nonneg htb.1, ha]
      have HC := Lib.hid hcell
      clear hrd ht hcell
      subst hA
      go_upto_region 9 with (fail)
      --REGION-A
      refine OrdE.beginS (fun w' => w'.cell? (ad.add i) = some (.int .u8 t)) (fun _ => true) (by kernel_rfl) ?_
      have HO := Aside0.mk HO.out.drew
      generalize wr.drew = w4 at HO ⊢
      refine OrdE.takeK (i := 0) (oi := { dst := some 27, op := Go.Op.move (Go.Operand.tmp 5), type := 28, pos := "more.go:19", after := #[], guard := none }) (v := (.pointer (some ⟨p, 0, none⟩))) rfl (by kernel_rfl) (by kernel_rfl) (by kernel_rfl) (by kernel_rfl) (fun _ _ _ h => h) (by rfl) ?_ (pw_cell_below HO.out.below HC.out) ?_
      · intro w hS; have hx0 := hS; go_simp
      try simp only [Act.put, List.setIfInBounds_toArray, List.set_cons_zero, List.set_cons_succ]
      refine OrdE.takeK (i := 2) (oi := { dst := some 29, op := Go.Op.move (Go.Operand.tmp 0), type := 42, pos := "more.go:19", after := #[], guard := none }) (v := (.slice (some ad) l0.length c0)) rfl (by kernel_rfl) (by kernel_rfl) (by kernel_rfl) (by kernel_rfl) (fun _ _ _ h => h) (by rfl) ?_ (pw_cell_below HO.out.below HC.out) ?_
      · intro w hS; have hx0 := hS; go_simp
      try simp only [Act.put, List.setIfInBounds_toArray, List.set_cons_zero, List.set_cons_succ]
      refine OrdE.takeK (i := 3) (oi := { dst := some 30, op := Go.Op.move (Go.Operand.tmp 7), type := 3, pos := "more.go:19", after := #[], guard := none }) (v := (.int .i64 (i : Int))) rfl (by kernel_rfl) (by kernel_rfl) (by kernel_rfl) (by kernel_rfl) (fun _ _ _ h => h) (by rfl) ?_ (pw_cell_below HO.out.below HC.out) ?_
      · intro w hS; have hx0 := hS; go_simp
      try simp only [Act.put, List.setIfInBounds_toArray, List.set_cons_zero, List.set_cons_succ]
      refine OrdE.takeK (i := 4) (oi := { dst := some 31, op := Go.Op.indexAddr 42 (Go.Operand.tmp 29) (Go.Operand.tmp 30), type := 0, pos := "more.go:19", after := #[{ on := 2, ground := Go.Ground.data }, { on := 3, ground := Go.Ground.data }], guard := none }) (v := (.pointer (some (ad.add i)))) rfl (by kernel_rfl) (by kernel_rfl) (by kernel_rfl) (by kernel_rfl) (fun _ _ _ h => h) (by rfl) ?_ (pw_cell_below HO.out.below HC.out) ?_
      · intro w hS; have hx0 := hS; go_simp
      try simp only [Act.put, List.setIfInBounds_toArray, List.set_cons_zero, List.set_cons_succ]
      refine OrdE.takeK (i := 5) (oi := { dst := some 32, op := Go.Op.load 5 (Go.Operand.tmp 31), type := 5, pos := "more.go:19", after := #[{ on := 4, ground := Go.Ground.data }], guard := none }) (v := (.int .u8 t)) rfl (by kernel_rfl) (by kernel_rfl) (by kernel_rfl) (by kernel_rfl) (fun _ _ _ h => h) (by rfl) ?_ (pw_cell_below HO.out.below HC.out) ?_
      · intro w hS; have hx0 := hS; go_simp
      try simp only [Act.put, List.setIfInBounds_toArray, List.set_cons_zero, List.set_cons_succ]
      refine OrdE.takeK (i := 6) (oi := { dst := some 33, op := Go.Op.binOp Go.BinOp.rem 5 (Go.Operand.tmp 32) (Go.Operand.const (Go.Value.int Go.IntKind.u8 8)) 5, type := 5, pos := "more.go:19", after := #[{ on := 5, ground := Go.Ground.data }], guard := none }) (v := (.int .u8 a)) rfl (by kernel_rfl) (by kernel_rfl) (by kernel_rfl) (by kernel_rfl) (fun _ _ _ h => h) (by rfl) ?_ (pw_cell_below HO.out.below HC.out) ?_
      · intro w hS; have hx0 := hS; go_simp
      try simp only [Act.put, List.setIfInBounds_toArray, List.set_cons_zero, List.set_cons_succ]
      refine OrdE.takeK (i := 7) (oi := { dst := some 34, op := Go.Op.convert 5 37 (Go.Operand.tmp 33), type := 37, pos := "more.go:19", after := #[{ on := 6, ground := Go.Ground.data }], guard := none }) (v := (.int .u32 a)) rfl (by kernel_rfl) (by kernel_rfl) (by kernel_rfl) (by kernel_rfl) (fun _ _ _ h => h) (by rfl) ?_ (pw_cell_below HO.out.below HC.out) ?_
      · intro w hS; have hx0 := hS; go_simp
      try simp only [Act.put, List.setIfInBounds_toArray, List.set_cons_zero, List.set_cons_succ]
      refine OrdE.takeK (i := 8) (oi := { dst := some 35, op := Go.Op.move (Go.Operand.tmp 7), type := 3, pos := "more.go:19", after := #[], guard := none }) (v := (.int .i64 (i : Int))) rfl (by kernel_rfl) (by kernel_rfl) (by kernel_rfl) (by kernel_rfl) (fun _ _ _ h => h) (by rfl) ?_ (pw_cell_below HO.out.below HC.out) ?_
      · intro w hS; have hx0 := hS; go_simp
      try simp only [Act.put, List.setIfInBounds_toArray, List.set_cons_zero, List.set_cons_succ]
      refine OrdE.takeK (i := 9) (oi := { dst := some 36, op := Go.Op.convert 3 38 (Go.Operand.tmp 35), type := 38, pos := "more.go:19", after := #[{ on := 8, ground := Go.Ground.data }], guard := none }) (v := (.int .u64 (i : Int))) rfl (by kernel_rfl) (by kernel_rfl) (by kernel_rfl) (by kernel_rfl) (fun _ _ _ h => h) (by rfl) ?_ (pw_cell_below HO.out.below HC.out) ?_
      · intro w hS; have hx0 := hS; go_simp
      try simp only [Act.put, List.setIfInBounds_toArray, List.set_cons_zero, List.set_cons_succ]
      refine OrdE.oneE (i := 1) (o := { dst := some 28, op := Go.Op.call { callee := Go.Callee.value (Go.Operand.func 18), args := #[Go.Operand.const (Go.Value.int Go.IntKind.u16 3)], argTypes := #[26] }, type := 23, pos := "more.go:19", after := #[], guard := none }) (by kernel_rfl) rfl (fun K hK => ?_)
      go_simp
      refine (key_calls 3 _ (by omega) (by omega)).mono ?_
      rintro e w5 ⟨rfl, hB⟩
      have HO := Aside0.mk (HO.out.step hB)
      clear hB
      refine hK.out _ _ (fun _ => pw_cell_below HO.out.below HC.out) ?_
      clear hK K
      try simp only [Act.put, List.setIfInBounds_toArray, List.set_cons_zero, List.set_cons_succ]
      refine OrdE.oneE (i := 10) (o := { dst := some 37, op := Go.Op.call { callee := Go.Callee.value (Go.Operand.func 17), args := #[Go.Operand.tmp 27, Go.Operand.tmp 28, Go.Operand.tmp 34, Go.Operand.const (Go.Value.int Go.IntKind.u16 1), Go.Operand.tmp 36], argTypes := #[28, 23, 37, 26, 38] }, type := 34, pos := "more.go:19", after := #[{ on := 0, ground := Go.Ground.data }, { on := 1, ground := Go.Ground.data }, { on := 7, ground := Go.Ground.data }, { on := 9, ground := Go.Ground.data }, { on := 1, ground := Go.Ground.chain }], guard := none }) (by kernel_rfl) rfl (fun K hK => ?_)
      go_simp
      refine (Insert_own HO.out a 1 (i : Int) (okE _ _ _ _ (Dir.keyOf 3).tag_rng (by omega) (by omega) (by omega))).mono ?_
      rintro e w6 ⟨rfl, ho⟩
      have HO := Aside0.mk ho.swap
      clear ho
      refine hK.out _ _ (fun _ => pw_cell_below HO.out.below HC.out) ?_
      clear hK K
      try simp only [Act.put, List.setIfInBounds_toArray, List.set_cons_zero, List.set_cons_succ]
      refine OrdE.doneE (by kernel_rfl) ?_ _
--END-A
      go_upto_region 10 with (fail)
      --REGION-B
      refine OrdE.beginS (fun w' => w'.cell? (ad.add i) = some (.int .u8 t)) (fun _ => true) (by kernel_rfl) ?_
      have HO := Aside0.mk HO.out.drew
      generalize w6.drew = w7 at HO ⊢
      refine OrdE.takeK (i := 0) (oi := { dst := some 38, op := Go.Op.move (Go.Operand.tmp 6), type := 31, pos := "more.go:20", after := #[], guard := none }) (v := (.pointer (some ⟨pr, 0, none⟩))) rfl (by kernel_rfl) (by kernel_rfl) (by kernel_rfl) (by kernel_rfl) (fun _ _ _ h => h) (by rfl) ?_ (pw_cell_below HO.out.below HC.out) ?_
      · intro w hS; have hx0 := hS; go_simp
      try simp only [Act.put, List.setIfInBounds_toArray, List.set_cons_zero, List.set_cons_succ]
      refine OrdE.takeK (i := 2) (oi := { dst := some 40, op := Go.Op.move (Go.Operand.tmp 0), type := 42, pos := "more.go:20", after := #[], guard := none }) (v := (.slice (some ad) l0.length c0)) rfl (by kernel_rfl) (by kernel_rfl) (by kernel_rfl) (by kernel_rfl) (fun _ _ _ h => h) (by rfl) ?_ (pw_cell_below HO.out.below HC.out) ?_
      · intro w hS; have hx0 := hS; go_simp
      try simp only [Act.put, List.setIfInBounds_toArray, List.set_cons_zero, List.set_cons_succ]
      refine OrdE.takeK (i := 3) (oi := { dst := some 41, op := Go.Op.move (Go.Operand.tmp 7), type := 3, pos := "more.go:20", after := #[], guard := none }) (v := (.int .i64 (i : Int))) rfl (by kernel_rfl) (by kernel_rfl) (by kernel_rfl) (by kernel_rfl) (fun _ _ _ h => h) (by rfl) ?_ (pw_cell_below HO.out.below HC.out) ?_
      · intro w hS; have hx0 := hS; go_simp
      try simp only [Act.put, List.setIfInBounds_toArray, List.set_cons_zero, List.set_cons_succ]
      refine OrdE.takeK (i := 4) (oi := { dst := some 42, op := Go.Op.indexAddr 42 (Go.Operand.tmp 40) (Go.Operand.tmp 41), type := 0, pos := "more.go:20", after := #[{ on := 2, ground := Go.Ground.data }, { on := 3, ground := Go.Ground.data }], guard := none }) (v := (.pointer (some (ad.add i)))) rfl (by kernel_rfl) (by kernel_rfl) (by kernel_rfl) (by kernel_rfl) (fun _ _ _ h => h) (by rfl) ?_ (pw_cell_below HO.out.below HC.out) ?_
      · intro w hS; have hx0 := hS; go_simp
      try simp only [Act.put, List.setIfInBounds_toArray, List.set_cons_zero, List.set_cons_succ]
      refine OrdE.takeK (i := 5) (oi := { dst := some 43, op := Go.Op.load 5 (Go.Operand.tmp 42), type := 5, pos := "more.go:20", after := #[{ on := 4, ground := Go.Ground.data }], guard := none }) (v := (.int .u8 t)) rfl (by kernel_rfl) (by kernel_rfl) (by kernel_rfl) (by kernel_rfl) (fun _ _ _ h => h) (by rfl) ?_ (pw_cell_below HO.out.below HC.out) ?_
      · intro w hS; have hx0 := hS; go_simp
      try simp only [Act.put, List.setIfInBounds_toArray, List.set_cons_zero, List.set_cons_succ]
      refine OrdE.takeK (i := 6) (oi := { dst := some 44, op := Go.Op.binOp Go.BinOp.rem 5 (Go.Operand.tmp 43) (Go.Operand.const (Go.Value.int Go.IntKind.u8 8)) 5, type := 5, pos := "more.go:20", after := #[{ on := 5, ground := Go.Ground.data }], guard := none }) (v := (.int .u8 a)) rfl (by kernel_rfl) (by kernel_rfl) (by kernel_rfl) (by kernel_rfl) (fun _ _ _ h => h) (by rfl) ?_ (pw_cell_below HO.out.below HC.out) ?_
      · intro w hS; have hx0 := hS; go_simp
      try simp only [Act.put, List.setIfInBounds_toArray, List.set_cons_zero, List.set_cons_succ]
      refine OrdE.takeK (i := 7) (oi := { dst := some 45, op := Go.Op.convert 5 37 (Go.Operand.tmp 44), type := 37, pos := "more.go:20", after := #[{ on := 6, ground := Go.Ground.data }], guard := none }) (v := (.int .u32 a)) rfl (by kernel_rfl) (by kernel_rfl) (by kernel_rfl) (by kernel_rfl) (fun _ _ _ h => h) (by rfl) ?_ (pw_cell_below HO.out.below HC.out) ?_
      · intro w hS; have hx0 := hS; go_simp
      try simp only [Act.put, List.setIfInBounds_toArray, List.set_cons_zero, List.set_cons_succ]
      refine OrdE.takeK (i := 8) (oi := { dst := some 46, op := Go.Op.move (Go.Operand.tmp 7), type := 3, pos := "more.go:20", after := #[], guard := none }) (v := (.int .i64 (i : Int))) rfl (by kernel_rfl) (by kernel_rfl) (by kernel_rfl) (by kernel_rfl) (fun _ _ _ h => h) (by rfl) ?_ (pw_cell_below HO.out.below HC.out) ?_
      · intro w hS; have hx0 := hS; go_simp
      try simp only [Act.put, List.setIfInBounds_toArray, List.set_cons_zero, List.set_cons_succ]
      refine OrdE.takeK (i := 9) (oi := { dst := some 47, op := Go.Op.convert 3 38 (Go.Operand.tmp 46), type := 38, pos := "more.go:20", after := #[{ on := 8, ground := Go.Ground.data }], guard := none }) (v := (.int .u64 (i : Int))) rfl (by kernel_rfl) (by kernel_rfl) (by kernel_rfl) (by kernel_rfl) (fun _ _ _ h => h) (by rfl) ?_ (pw_cell_below HO.out.below HC.out) ?_
      · intro w hS; have hx0 := hS; go_simp
      try simp only [Act.put, List.setIfInBounds_toArray, List.set_cons_zero, List.set_cons_succ]
      refine OrdE.oneE (i := 1) (o := { dst := some 39, op := Go.Op.call { callee := Go.Callee.value (Go.Operand.func 18), args := #[Go.Operand.const (Go.Value.int Go.IntKind.u16 3)], argTypes := #[26] }, type := 23, pos := "more.go:20", after := #[], guard := none }) (by kernel_rfl) rfl (fun K hK => ?_)
      go_simp
      refine (key_calls 3 _ (by omega) (by omega)).mono ?_
      rintro e w8 ⟨rfl, hB⟩
      have HO := Aside0.mk (HO.out.step hB)
      clear hB
      refine hK.out _ _ (fun _ => pw_cell_below HO.out.below HC.out) ?_
      clear hK K
      try simp only [Act.put, List.setIfInBounds_toArray, List.set_cons_zero, List.set_cons_succ]
      refine OrdE.oneE (i := 10) (o := { dst := some 48, op := Go.Op.call { callee := Go.Callee.value (Go.Operand.func 21), args := #[Go.Operand.tmp 38, Go.Operand.tmp 39, Go.Operand.tmp 45, Go.Operand.const (Go.Value.int Go.IntKind.u16 1), Go.Operand.tmp 47], argTypes := #[31, 23, 37, 26, 38] }, type := 3, pos := "more.go:20", after := #[{ on := 0, ground := Go.Ground.data }, { on := 1, ground := Go.Ground.data }, { on := 7, ground := Go.Ground.data }, { on := 9, ground := Go.Ground.data }, { on := 1, ground := Go.Ground.chain }], guard := none }) (by kernel_rfl) rfl (fun K hK => ?_)
      go_simp
      refine (rInsert_own HO.out a 1 (i : Int) (okE _ _ _ _ (Dir.keyOf 3).tag_rng (by omega) (by omega) (by omega))).mono ?_
      rintro e w9 ⟨rfl, ho⟩
      have HO8 := Aside0.mk ho.swap
      clear ho HO
      refine hK.out _ _ (fun _ => pw_cell_below HO8.out.below HC.out) ?_
      clear hK K
      try simp only [Act.put, List.setIfInBounds_toArray, List.set_cons_zero, List.set_cons_succ]
      refine OrdE.doneE (by kernel_rfl) ?_ _
--END-B
      go_wp2_with fail
      go_roundw
      case rel => exact ⟨i + 1, _, by rw [show ((i + 1 : Nat) : Int) = (i : Int) + 1 by omega], by omega, ⟨HM.out.ins _⟩, HO8⟩
      case measure => simp only [intOf]; omega
    · obtain rfl : i = l0.length := by omega
      go_wp2_with fail
      go_loopw [8] (fun v8 wr => ∃ (i : Nat) (D : Di), v8 = .int .i64 (i : Int) ∧ i ≤ l1.length ∧ Aside0 (MeetD D) ∧ Aside0 (Foot.Own W wr (star (DirH p D) (star (RefH pr D) emp)))) (fun v8 _ => l1.length - (intOf v8).toNat)
      case atStart => exact ⟨0, _, rfl, Nat.zero_le _, HM, HO⟩
      case round =>
        clear HO HM D
        obtain ⟨i, D, rfl, hi, HM, HO⟩ := hrel
        by_cases hlt : i < l1.length
        · have hi0 : (0 : Int) ≤ (i : Int) := by omega
          have hi1 : (i : Int) < (l1.length : Int) := by omega
          obtain ⟨ad, hA, hcell⟩ := Kd.at_int HR1.out (i : Int) hi0 hi1
          rw [Int.toNat_natCast] at hcell
          obtain ⟨t, ht, hrd⟩ := u8_at hlt
          rw [hrd] at hcell
          have htb := H1.out t (List.mem_of_getElem? ht)
          obtain ⟨a, ha⟩ : ∃ a, t % 8 = a := ⟨_, rfl⟩
          have hab : 0 ≤ a ∧ a < 8 := by omega
          have hwa : IntKind.u32.wrap a = a := by rw [IntKind.wrap_u32]; omega
          have hta : t.tmod 8 = a := by rw [Int.tmod_eq_emod_of_nonneg htb.1, ha]
          have HC := Lib.hid hcell
          clear hrd ht hcell
          subst hA
          go_upto_region 14 with (fail)
          --REGION-C
          refine OrdE.beginS (fun w' => w'.cell? (ad.add i) = some (.int .u8 t)) (fun _ => true) (by kernel_rfl) ?_
          have HO := Aside0.mk HO.out.drew
          generalize wr.drew = w4 at HO ⊢
          refine OrdE.takeK (i := 0) (oi := { dst := some 55, op := Go.Op.move (Go.Operand.tmp 5), type := 28, pos := "more.go:23", after := #[], guard := none }) (v := (.pointer (some ⟨p, 0, none⟩))) rfl (by kernel_rfl) (by kernel_rfl) (by kernel_rfl) (by kernel_rfl) (fun _ _ _ h => h) (by rfl) ?_ (pw_cell_below HO.out.below HC.out) ?_
          · intro w hS; have hx0 := hS; go_simp
          try simp only [Act.put, List.setIfInBounds_toArray, List.set_cons_zero, List.set_cons_succ]
          refine OrdE.takeK (i := 2) (oi := { dst := some 57, op := Go.Op.move (Go.Operand.tmp 1), type := 42, pos := "more.go:23", after := #[], guard := none }) (v := (.slice (some ad) l1.length c1)) rfl (by kernel_rfl) (by kernel_rfl) (by kernel_rfl) (by kernel_rfl) (fun _ _ _ h => h) (by rfl) ?_ (pw_cell_below HO.out.below HC.out) ?_
          · intro w hS; have hx0 := hS; go_simp
          try simp only [Act.put, List.setIfInBounds_toArray, List.set_cons_zero, List.set_cons_succ]
          refine OrdE.takeK (i := 3) (oi := { dst := some 58, op := Go.Op.move (Go.Operand.tmp 8), type := 3, pos := "more.go:23", after := #[], guard := none }) (v := (.int .i64 (i : Int))) rfl (by kernel_rfl) (by kernel_rfl) (by kernel_rfl) (by kernel_rfl) (fun _ _ _ h => h) (by rfl) ?_ (pw_cell_below HO.out.below HC.out) ?_
          · intro w hS; have hx0 := hS; go_simp
          try simp only [Act.put, List.setIfInBounds_toArray, List.set_cons_zero, List.set_cons_succ]
          refine OrdE.takeK (i := 4) (oi := { dst := some 59, op := Go.Op.indexAddr 42 (Go.Operand.tmp 57) (Go.Operand.tmp 58), type := 0, pos := "more.go:23", after := #[{ on := 2, ground := Go.Ground.data }, { on := 3, ground := Go.Ground.data }], guard := none }) (v := (.pointer (some (ad.add i)))) rfl (by kernel_rfl) (by kernel_rfl) (by kernel_rfl) (by kernel_rfl) (fun _ _ _ h => h) (by rfl) ?_ (pw_cell_below HO.out.below HC.out) ?_
          · intro w hS; have hx0 := hS; go_simp
          try simp only [Act.put, List.setIfInBounds_toArray, List.set_cons_zero, List.set_cons_succ]
          refine OrdE.takeK (i := 5) (oi := { dst := some 60, op := Go.Op.load 5 (Go.Operand.tmp 59), type := 5, pos := "more.go:23", after := #[{ on := 4, ground := Go.Ground.data }], guard := none }) (v := (.int .u8 t)) rfl (by kernel_rfl) (by kernel_rfl) (by kernel_rfl) (by kernel_rfl) (fun _ _ _ h => h) (by rfl) ?_ (pw_cell_below HO.out.below HC.out) ?_
          · intro w hS; have hx0 := hS; go_simp
          try simp only [Act.put, List.setIfInBounds_toArray, List.set_cons_zero, List.set_cons_succ]
          refine OrdE.takeK (i := 6) (oi := { dst := some 61, op := Go.Op.binOp Go.BinOp.rem 5 (Go.Operand.tmp 60) (Go.Operand.const (Go.Value.int Go.IntKind.u8 8)) 5, type := 5, pos := "more.go:23", after := #[{ on := 5, ground := Go.Ground.data }], guard := none }) (v := (.int .u8 a)) rfl (by kernel_rfl) (by kernel_rfl) (by kernel_rfl) (by kernel_rfl) (fun _ _ _ h => h) (by rfl) ?_ (pw_cell_below HO.out.below HC.out) ?_
          · intro w hS; have hx0 := hS; go_simp
          try simp only [Act.put, List.setIfInBounds_toArray, List.set_cons_zero, List.set_cons_succ]
          refine OrdE.takeK (i := 7) (oi := { dst := some 62, op := Go.Op.convert 5 37 (Go.Operand.tmp 61), type := 37, pos := "more.go:23", after := #[{ on := 6, ground := Go.Ground.data }], guard := none }) (v := (.int .u32 a)) rfl (by kernel_rfl) (by kernel_rfl) (by kernel_rfl) (by kernel_rfl) (fun _ _ _ h => h) (by rfl) ?_ (pw_cell_below HO.out.below HC.out) ?_
          · intro w hS; have hx0 := hS; go_simp
          try simp only [Act.put, List.setIfInBounds_toArray, List.set_cons_zero, List.set_cons_succ]
          refine OrdE.takeK (i := 9) (oi := { dst := some 64, op := Go.Op.move (Go.Operand.tmp 6), type := 31, pos := "more.go:23", after := #[], guard := none }) (v := (.pointer (some ⟨pr, 0, none⟩))) rfl (by kernel_rfl) (by kernel_rfl) (by kernel_rfl) (by kernel_rfl) (fun _ _ _ h => h) (by rfl) ?_ (pw_cell_below HO.out.below HC.out) ?_
          · intro w hS; have hx0 := hS; go_simp
          try simp only [Act.put, List.setIfInBounds_toArray, List.set_cons_zero, List.set_cons_succ]
          refine OrdE.takeK (i := 11) (oi := { dst := some 66, op := Go.Op.move (Go.Operand.tmp 1), type := 42, pos := "more.go:23", after := #[], guard := none }) (v := (.slice (some ad) l1.length c1)) rfl (by kernel_rfl) (by kernel_rfl) (by kernel_rfl) (by kernel_rfl) (fun _ _ _ h => h) (by rfl) ?_ (pw_cell_below HO.out.below HC.out) ?_
          · intro w hS; have hx0 := hS; go_simp
          try simp only [Act.put, List.setIfInBounds_toArray, List.set_cons_zero, List.set_cons_succ]
          refine OrdE.takeK (i := 12) (oi := { dst := some 67, op := Go.Op.move (Go.Operand.tmp 8), type := 3, pos := "more.go:23", after := #[], guard := none }) (v := (.int .i64 (i : Int))) rfl (by kernel_rfl) (by kernel_rfl) (by kernel_rfl) (by kernel_rfl) (fun _ _ _ h => h) (by rfl) ?_ (pw_cell_below HO.out.below HC.out) ?_
          · intro w hS; have hx0 := hS; go_simp
          try simp only [Act.put, List.setIfInBounds_toArray, List.set_cons_zero, List.set_cons_succ]
          refine OrdE.takeK (i := 13) (oi := { dst := some 68, op := Go.Op.indexAddr 42 (Go.Operand.tmp 66) (Go.Operand.tmp 67), type := 0, pos := "more.go:23", after := #[{ on := 11, ground := Go.Ground.data }, { on := 12, ground := Go.Ground.data }], guard := none }) (v := (.pointer (some (ad.add i)))) rfl (by kernel_rfl) (by kernel_rfl) (by kernel_rfl) (by kernel_rfl) (fun _ _ _ h => h) (by rfl) ?_ (pw_cell_below HO.out.below HC.out) ?_
          · intro w hS; have hx0 := hS; go_simp
          try simp only [Act.put, List.setIfInBounds_toArray, List.set_cons_zero, List.set_cons_succ]
          refine OrdE.takeK (i := 14) (oi := { dst := some 69, op := Go.Op.load 5 (Go.Operand.tmp 68), type := 5, pos := "more.go:23", after := #[{ on := 13, ground := Go.Ground.data }], guard := none }) (v := (.int .u8 t)) rfl (by kernel_rfl) (by kernel_rfl) (by kernel_rfl) (by kernel_rfl) (fun _ _ _ h => h) (by rfl) ?_ (pw_cell_below HO.out.below HC.out) ?_
          · intro w hS; have hx0 := hS; go_simp
          try simp only [Act.put, List.setIfInBounds_toArray, List.set_cons_zero, List.set_cons_succ]
          refine OrdE.takeK (i := 15) (oi := { dst := some 70, op := Go.Op.binOp Go.BinOp.rem 5 (Go.Operand.tmp 69) (Go.Operand.const (Go.Value.int Go.IntKind.u8 8)) 5, type := 5, pos := "more.go:23", after := #[{ on := 14, ground := Go.Ground.data }], guard := none }) (v := (.int .u8 a)) rfl (by kernel_rfl) (by kernel_rfl) (by kernel_rfl) (by kernel_rfl) (fun _ _ _ h => h) (by rfl) ?_ (pw_cell_below HO.out.below HC.out) ?_
          · intro w hS; have hx0 := hS; go_simp
          try simp only [Act.put, List.setIfInBounds_toArray, List.set_cons_zero, List.set_cons_succ]
          refine OrdE.takeK (i := 16) (oi := { dst := some 71, op := Go.Op.convert 5 37 (Go.Operand.tmp 70), type := 37, pos := "more.go:23", after := #[{ on := 15, ground := Go.Ground.data }], guard := none }) (v := (.int .u32 a)) rfl (by kernel_rfl) (by kernel_rfl) (by kernel_rfl) (by kernel_rfl) (fun _ _ _ h => h) (by rfl) ?_ (pw_cell_below HO.out.below HC.out) ?_
          · intro w hS; have hx0 := hS; go_simp
          try simp only [Act.put, List.setIfInBounds_toArray, List.set_cons_zero, List.set_cons_succ]
          refine OrdE.oneE (i := 1) (o := { dst := some 56, op := Go.Op.call { callee := Go.Callee.value (Go.Operand.func 18), args := #[Go.Operand.const (Go.Value.int Go.IntKind.u16 3)], argTypes := #[26] }, type := 23, pos := "more.go:23", after := #[], guard := none }) (by kernel_rfl) rfl (fun K hK => ?_)
          go_simp
          refine (key_calls 3 _ (by omega) (by omega)).mono ?_
          rintro e w5 ⟨rfl, hB⟩
          have HO := Aside0.mk (HO.out.step hB)
          clear hB
          refine hK.out _ _ (fun _ => pw_cell_below HO.out.below HC.out) ?_
          clear hK K
          try simp only [Act.put, List.setIfInBounds_toArray, List.set_cons_zero, List.set_cons_succ]
          refine OrdE.oneE (i := 8) (o := { dst := some 63, op := Go.Op.call { callee := Go.Callee.value (Go.Operand.func 19), args := #[Go.Operand.tmp 55, Go.Operand.tmp 56, Go.Operand.tmp 62], argTypes := #[28, 23, 37] }, type := 4, pos := "more.go:23", after := #[{ on := 0, ground := Go.Ground.data }, { on := 1, ground := Go.Ground.data }, { on := 7, ground := Go.Ground.data }, { on := 1, ground := Go.Ground.chain }], guard := none }) (by kernel_rfl) rfl (fun K hK => ?_)
          go_simp
          refine (Delete_own HO.out a).mono ?_
          rintro e w6 ⟨rfl, ho⟩
          have HO := Aside0.mk ho.swap
          clear ho
          refine hK.out _ _ (fun _ => pw_cell_below HO.out.below HC.out) ?_
          clear hK K
          try simp only [Act.put, List.setIfInBounds_toArray, List.set_cons_zero, List.set_cons_succ]
          refine OrdE.oneE (i := 10) (o := { dst := some 65, op := Go.Op.call { callee := Go.Callee.value (Go.Operand.func 18), args := #[Go.Operand.const (Go.Value.int Go.IntKind.u16 3)], argTypes := #[26] }, type := 23, pos := "more.go:23", after := #[{ on := 8, ground := Go.Ground.chain }], guard := none }) (by kernel_rfl) rfl (fun K hK => ?_)
          go_simp
          refine (key_calls 3 _ (by omega) (by omega)).mono ?_
          rintro e w7 ⟨rfl, hB⟩
          have HO := Aside0.mk (HO.out.step hB)
          clear hB
          refine hK.out _ _ (fun _ => pw_cell_below HO.out.below HC.out) ?_
          clear hK K
          try simp only [Act.put, List.setIfInBounds_toArray, List.set_cons_zero, List.set_cons_succ]
          refine OrdE.oneE (i := 17) (o := { dst := some 72, op := Go.Op.call { callee := Go.Callee.value (Go.Operand.func 22), args := #[Go.Operand.tmp 64, Go.Operand.tmp 65, Go.Operand.tmp 71], argTypes := #[31, 23, 37] }, type := 4, pos := "more.go:23", after := #[{ on := 9, ground := Go.Ground.data }, { on := 10, ground := Go.Ground.data }, { on := 16, ground := Go.Ground.data }, { on := 10, ground := Go.Ground.chain }], guard := none }) (by kernel_rfl) rfl (fun K hK => ?_)
          go_simp
          refine (rDelete_own HO.out a).mono ?_
          rintro e w8 ⟨rfl, ho⟩
          have HO := Aside0.mk ho.swap
          clear ho
          generalize (D.del (Dir.keyOf 3) a).1 = bb
          refine hK.out _ _ (fun _ => pw_cell_below HO.out.below HC.out) ?_
          clear hK K
          try simp only [Act.put, List.setIfInBounds_toArray, List.set_cons_zero, List.set_cons_succ]
          refine OrdE.takeK (i := 18) (oi := { dst := some 73, op := Go.Op.binOp Go.BinOp.neq 4 (Go.Operand.tmp 63) (Go.Operand.tmp 72) 4, type := 4, pos := "more.go:23", after := #[{ on := 8, ground := Go.Ground.data }, { on := 17, ground := Go.Ground.data }], guard := none }) (v := (.bool false)) rfl (by kernel_rfl) (by kernel_rfl) (by kernel_rfl) (by kernel_rfl) (fun _ _ _ h => h) (by rfl) ?_ (pw_cell_below HO.out.below HC.out) ?_
          · intro w hS; have hx0 := hS; go_simp
          try simp only [Act.put, List.setIfInBounds_toArray, List.set_cons_zero, List.set_cons_succ]
          refine OrdE.takeK (i := 19) (oi := { dst := some 74, op := Go.Op.move (Go.Operand.tmp 73), type := 4, pos := "more.go:23", after := #[{ on := 18, ground := Go.Ground.data }, { on := 17, ground := Go.Ground.chain }], guard := none }) (v := (.bool false)) rfl (by kernel_rfl) (by kernel_rfl) (by kernel_rfl) (by kernel_rfl) (fun _ _ _ h => h) (by rfl) ?_ (pw_cell_below HO.out.below HC.out) ?_
          · intro w hS; have hx0 := hS; go_simp
          try simp only [Act.put, List.setIfInBounds_toArray, List.set_cons_zero, List.set_cons_succ]
          refine OrdE.takeK (i := 20) (oi := { dst := some 75, op := Go.Op.move (Go.Operand.tmp 5), type := 28, pos := "more.go:23", after := #[{ on := 19, ground := Go.Ground.guard }], guard := some (19, false) }) (v := (.pointer (some ⟨p, 0, none⟩))) rfl (by kernel_rfl) (by kernel_rfl) (by kernel_rfl) (by kernel_rfl) (fun _ _ _ h => h) (by rfl) ?_ (pw_cell_below HO.out.below HC.out) ?_
          · intro w hS; have hx0 := hS; go_simp
          try simp only [Act.put, List.setIfInBounds_toArray, List.set_cons_zero, List.set_cons_succ]
          refine OrdE.takeK (i := 23) (oi := { dst := some 78, op := Go.Op.move (Go.Operand.tmp 6), type := 31, pos := "more.go:23", after := #[{ on := 19, ground := Go.Ground.guard }], guard := some (19, false) }) (v := (.pointer (some ⟨pr, 0, none⟩))) rfl (by kernel_rfl) (by kernel_rfl) (by kernel_rfl) (by kernel_rfl) (fun _ _ _ h => h) (by rfl) ?_ (pw_cell_below HO.out.below HC.out) ?_
          · intro w hS; have hx0 := hS; go_simp
          try simp only [Act.put, List.setIfInBounds_toArray, List.set_cons_zero, List.set_cons_succ]
          refine OrdE.oneE (i := 21) (o := { dst := some 76, op := Go.Op.call { callee := Go.Callee.value (Go.Operand.func 18), args := #[Go.Operand.const (Go.Value.int Go.IntKind.u16 3)], argTypes := #[26] }, type := 23, pos := "more.go:23", after := #[{ on := 19, ground := Go.Ground.chain }, { on := 19, ground := Go.Ground.guard }], guard := some (19, false) }) (by kernel_rfl) rfl (fun K hK => ?_)
          go_simp
          refine (key_calls 3 _ (by omega) (by omega)).mono ?_
          rintro e w9 ⟨rfl, hB⟩
          have HO := Aside0.mk (HO.out.step hB)
          clear hB
          refine hK.out _ _ (fun _ => pw_cell_below HO.out.below HC.out) ?_
          clear hK K
          try simp only [Act.put, List.setIfInBounds_toArray, List.set_cons_zero, List.set_cons_succ]
          refine OrdE.oneE (i := 22) (o := { dst := some 77, op := Go.Op.call { callee := Go.Callee.value (Go.Operand.func 24), args := #[Go.Operand.tmp 75, Go.Operand.tmp 76], argTypes := #[28, 23] }, type := 45, pos := "more.go:23", after := #[{ on := 20, ground := Go.Ground.data }, { on := 21, ground := Go.Ground.data }, { on := 21, ground := Go.Ground.chain }, { on := 19, ground := Go.Ground.guard }], guard := some (19, false) }) (by kernel_rfl) rfl (fun K hK => ?_)
          go_simp
          refine (Probe_own (k := Dir.keyOf 3) HO.out).mono ?_
          rintro e w10 ⟨v1, rfl, ho⟩
          have HO := Aside0.mk ho
          clear ho
          refine hK.out _ _ (fun _ => pw_cell_below HO.out.below HC.out) ?_
          clear hK K
          try simp only [Act.put, List.setIfInBounds_toArray, List.set_cons_zero, List.set_cons_succ]
          refine OrdE.oneE (i := 24) (o := { dst := some 79, op := Go.Op.call { callee := Go.Callee.value (Go.Operand.func 18), args := #[Go.Operand.const (Go.Value.int Go.IntKind.u16 3)], argTypes := #[26] }, type := 23, pos := "more.go:23", after := #[{ on := 22, ground := Go.Ground.chain }, { on := 19, ground := Go.Ground.guard }], guard := some (19, false) }) (by kernel_rfl) rfl (fun K hK => ?_)
          go_simp
          refine (key_calls 3 _ (by omega) (by omega)).mono ?_
          rintro e w11 ⟨rfl, hB⟩
          have HO := Aside0.mk (HO.out.step hB)
          clear hB
          refine hK.out _ _ (fun _ => pw_cell_below HO.out.below HC.out) ?_
          clear hK K
          try simp only [Act.put, List.setIfInBounds_toArray, List.set_cons_zero, List.set_cons_succ]
          refine OrdE.oneE (i := 25) (o := { dst := some 80, op := Go.Op.call { callee := Go.Callee.value (Go.Operand.func 25), args := #[Go.Operand.tmp 78, Go.Operand.tmp 79], argTypes := #[31, 23] }, type := 45, pos := "more.go:23", after := #[{ on := 23, ground := Go.Ground.data }, { on := 24, ground := Go.Ground.data }, { on := 24, ground := Go.Ground.chain }, { on := 19, ground := Go.Ground.guard }], guard := some (19, false) }) (by kernel_rfl) rfl (fun K hK => ?_)
          go_simp
          refine (rProbe_own (k := Dir.keyOf 3) (own_third HO.out)).mono ?_
          rintro e w12 ⟨v2, rfl, ho⟩
          have HO := Aside0.mk (own_back ho)
          clear ho
          refine hK.out _ _ (fun _ => pw_cell_below HO.out.below HC.out) ?_
          clear hK K
          try simp only [Act.put, List.setIfInBounds_toArray, List.set_cons_zero, List.set_cons_succ]
          refine OrdE.oneE (i := 26) (o := { dst := some 81, op := Go.Op.call { callee := Go.Callee.value (Go.Operand.func 23), args := #[Go.Operand.tmp 77, Go.Operand.tmp 80], argTypes := #[45, 45] }, type := 4, pos := "more.go:23", after := #[{ on := 22, ground := Go.Ground.data }, { on := 25, ground := Go.Ground.data }, { on := 25, ground := Go.Ground.chain }, { on := 19, ground := Go.Ground.guard }], guard := some (19, false) }) (by kernel_rfl) rfl (fun K hK => ?_)
          go_simp
          refine (Entries_own HO.out (Nat.le_trans (probe_len _ _) (by have h := dirH_ok HO.out.rest.rest; have h2 := h.fit _ (List.mem_of_getElem? (h.of_eq (Dir.keyOf 3))); have h3 := h.s2; omega))).mono ?_
          rintro e w13 ⟨rfl, ho⟩
          have HO := Aside0.mk ho
          clear ho
          refine hK.out _ _ (fun _ => pw_cell_below HO.out.below HC.out) ?_
          clear hK K
          try simp only [Act.put, List.setIfInBounds_toArray, List.set_cons_zero, List.set_cons_succ]
          refine OrdE.takeK (i := 27) (oi := { dst := some 82, op := Go.Op.unOp Go.UnOp.not 4 (Go.Operand.tmp 81), type := 4, pos := "more.go:23", after := #[{ on := 26, ground := Go.Ground.data }, { on := 19, ground := Go.Ground.guard }], guard := some (19, false) }) (v := (.bool false)) rfl (by kernel_rfl) (by kernel_rfl) (by kernel_rfl) (by kernel_rfl) (fun _ _ _ h => h) (by rfl) ?_ (pw_cell_below HO.out.below HC.out) ?_
          · intro w hS; have hx0 := hS; go_simp
          try simp only [Act.put, List.setIfInBounds_toArray, List.set_cons_zero, List.set_cons_succ]
          refine OrdE.takeK (i := 28) (oi := { dst := some 83, op := Go.Op.pick (Go.Operand.tmp 74) (Go.Operand.const (Go.Value.bool true)) (Go.Operand.tmp 82), type := 4, pos := "more.go:23", after := #[{ on := 19, ground := Go.Ground.data }, { on := 27, ground := Go.Ground.data }], guard := none }) (v := (.bool false)) rfl (by kernel_rfl) (by kernel_rfl) (by kernel_rfl) (by kernel_rfl) (fun _ _ _ h => h) (by rfl) ?_ (pw_cell_below HO.out.below HC.out) ?_
          · intro w hS; have hx0 := hS; go_simp
          try simp only [Act.put, List.setIfInBounds_toArray, List.set_cons_zero, List.set_cons_succ]
          refine OrdE.doneE (by kernel_rfl) ?_ _
--END-C
          go_wp2_with fail
          go_roundw
          case rel => exact ⟨i + 1, _, by rw [show ((i + 1 : Nat) : Int) = (i : Int) + 1 by omega], by omega, ⟨HM.out.del _⟩, HO⟩
          case measure => simp only [intOf]; omega
        · obtain rfl : i = l1.length := by omega
          go_wp2_with fail
          with_reducible refine (key_calls 4 wr (by omega) (by omega)).mono ?_
          rintro e w4 ⟨rfl, hB⟩
          have HO2 := Aside0.mk (HO.out.step hB)
          clear hB HO
          go_wp2_with fail
          with_reducible refine (Probe_own HO2.out).mono ?_
          rintro e w5 ⟨v, rfl, ho⟩
          rw [HM.out.z] at ho
          have HB := Aside0.mk ho.below
          obtain ⟨A5, c5, rfl, -, -⟩ := rowC_own ho
          clear ho HO2
          go_wp2_with fail
          go_ret
          exact ⟨rfl, HB.out⟩
end Go.Proofs.Ytafpaomcmjccaaa.Walk
