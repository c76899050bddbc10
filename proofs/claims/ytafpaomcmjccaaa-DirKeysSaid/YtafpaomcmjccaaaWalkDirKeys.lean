/- A key has the document's bucket and tag. -/
import Derived.Test.YtafpaomcmjccaaaDirKn
import Derived.Test.YtafpaomcmjccaaaDirRn
import Derived.Test.YtafpaomcmjccaaaDirAk
import Derived.Test.YtafpaomcmjccaaaGx1
import Derived.OpenShut
set_option linter.unusedVariables false
set_option linter.unusedSimpArgs false
namespace Go.Proofs.Ytafpaomcmjccaaa.Walk
open Go.RowKit Go.Proofs.Ytafpaomcmjccaaa.G Go.Proofs.YtafpaomcmjccaaaW.PrintWords Go.Proofs.YtafpaomcmjccaaaW.PrintMore Go.Proofs.Ytafpaomcmjccaaa.Foot Go.Proofs.Ytafpaomcmjccaaa.Dir

set_option maxHeartbeats 4000000 in
set_option maxRecDepth 100000 in
theorem DirKeys (W : World) (k : Key) (a1 : Int) (w1 : (Lit.int .i64 a1).wf = true) :
    Calls Try.prog 3 #[.agg k.cells, .int .i64 a1] W fun e w' => e = .returned (.bool true) ∧ Below W.heap.size W w' := by
  have b1 := bounds_i64 w1
  clear w1
  have hks := k.size
  have HO := Aside0.mk (key_new (k := k) (Foot.Own.start W))
  go_enter Try.func3, Try.ntmps3
  go_wp2_with fail
  obtain ⟨g, hg⟩ : ∃ g, W.heap.size = g := ⟨_, rfl⟩
  have hS := HO.out.below
  rw [hg] at HO ⊢
  generalize W.alloc (.cells k.cells 23) = w0 at HO hS ⊢
  clear hS
  with_reducible refine (known_calls w0).mono ?_
  rintro e w1 ⟨rfl, hB⟩
  have HO := Aside0.mk (HO.out.step hB)
  clear hB
  go_wp2_with fail
  obtain ⟨b, hb⟩ : ∃ b, ambryhelp_Place.f a1 5000 = some b := by
    unfold ambryhelp_Place.f
    rw [if_neg (by decide)]
    split <;> exact ⟨_, rfl⟩
  with_reducible refine (ambryhelp_Place.calls a1 5000 b w1 hb).mono ?_
  rintro e w2 hp
  obtain ⟨rfl, hd⟩ := hp
  have HO := Aside0.mk (HO.out.step hd.below)
  clear hd
  go_upto_region 4 with (fail)
  --REGION
  refine OrdE.beginS (fun w' => w'.heap[g]? = some (.cells k.cells 23 (0, 0))) (fun _ => true) (by kernel_rfl) ?_
  have HO := Aside0.mk HO.out.drew
  generalize w2.drew = w3 at HO ⊢
  refine OrdE.takeK (i := 0) (oi := { dst := some 9, op := Go.Op.load 23 (Go.Operand.tmp 2), type := 23, pos := "law.go:122", after := #[], guard := none }) (v := (.agg k.cells)) rfl (by kernel_rfl) (by kernel_rfl) (by kernel_rfl) (by kernel_rfl) (fun _ _ _ h => h) (by rfl) ?_ (keyH_look HO.out) ?_
  · intro w hS; have hx0 := hS; exact exec_load_key k g hx0 (.tmp 2) rfl rfl
  try simp only [Act.put, List.setIfInBounds_toArray, List.set_cons_zero, List.set_cons_succ]
  refine OrdE.takeK (i := 2) (oi := { dst := some 11, op := Go.Op.load 23 (Go.Operand.tmp 2), type := 23, pos := "law.go:122", after := #[], guard := none }) (v := (.agg k.cells)) rfl (by kernel_rfl) (by kernel_rfl) (by kernel_rfl) (by kernel_rfl) (fun _ _ _ h => h) (by rfl) ?_ (keyH_look HO.out) ?_
  · intro w hS; have hx0 := hS; exact exec_load_key k g hx0 (.tmp 2) rfl rfl
  try simp only [Act.put, List.setIfInBounds_toArray, List.set_cons_zero, List.set_cons_succ]
  refine OrdE.oneE (i := 1) (o := { dst := some 10, op := Go.Op.call { callee := Go.Callee.value (Go.Operand.func 11), args := #[Go.Operand.tmp 9], argTypes := #[23] }, type := 26, pos := "law.go:122", after := #[{ on := 0, ground := Go.Ground.data }], guard := none }) (by kernel_rfl) rfl (fun K hK => ?_)
  go_simp
  refine (Tag_own HO.out).mono ?_
  rintro e w4 ⟨rfl, ho⟩
  have HO := Aside0.mk ho
  clear ho
  refine hK.out _ _ (fun _ => keyH_look HO.out) ?_
  clear hK K
  try simp only [Act.put, List.setIfInBounds_toArray, List.set_cons_zero, List.set_cons_succ]
  refine OrdE.oneE (i := 3) (o := { dst := some 12, op := Go.Op.call { callee := Go.Callee.value (Go.Operand.func 12), args := #[Go.Operand.tmp 11], argTypes := #[23] }, type := 26, pos := "law.go:122", after := #[{ on := 2, ground := Go.Ground.data }, { on := 1, ground := Go.Ground.chain }], guard := none }) (by kernel_rfl) rfl (fun K hK => ?_)
  go_simp
  refine (rTag_own HO.out).mono ?_
  rintro e w5 ⟨rfl, ho⟩
  have HO := Aside0.mk ho
  clear ho
  refine hK.out _ _ (fun _ => keyH_look HO.out) ?_
  clear hK K
  try simp only [Act.put, List.setIfInBounds_toArray, List.set_cons_zero, List.set_cons_succ]
  refine OrdE.takeK (i := 4) (oi := { dst := some 13, op := Go.Op.binOp Go.BinOp.eql 26 (Go.Operand.tmp 10) (Go.Operand.tmp 12) 26, type := 4, pos := "law.go:122", after := #[{ on := 1, ground := Go.Ground.data }, { on := 3, ground := Go.Ground.data }], guard := none }) (v := (.bool true)) rfl (by kernel_rfl) (by kernel_rfl) (by kernel_rfl) (by kernel_rfl) (fun _ _ _ h => h) (by rfl) ?_ (keyH_look HO.out) ?_
  · intro w hS; have hx0 := hS; go_simp
  try simp only [Act.put, List.setIfInBounds_toArray, List.set_cons_zero, List.set_cons_succ]
  refine OrdE.takeK (i := 5) (oi := { dst := some 14, op := Go.Op.move (Go.Operand.tmp 13), type := 4, pos := "law.go:122", after := #[{ on := 4, ground := Go.Ground.data }, { on := 3, ground := Go.Ground.chain }], guard := none }) (v := (.bool true)) rfl (by kernel_rfl) (by kernel_rfl) (by kernel_rfl) (by kernel_rfl) (fun _ _ _ h => h) (by rfl) ?_ (keyH_look HO.out) ?_
  · intro w hS; have hx0 := hS; go_simp
  try simp only [Act.put, List.setIfInBounds_toArray, List.set_cons_zero, List.set_cons_succ]
  refine OrdE.takeK (i := 6) (oi := { dst := some 15, op := Go.Op.move (Go.Operand.tmp 1), type := 3, pos := "law.go:122", after := #[{ on := 5, ground := Go.Ground.guard }], guard := some (5, true) }) (v := (.int .i64 b)) rfl (by kernel_rfl) (by kernel_rfl) (by kernel_rfl) (by kernel_rfl) (fun _ _ _ h => h) (by rfl) ?_ (keyH_look HO.out) ?_
  · intro w hS; have hx0 := hS; go_simp
  try simp only [Act.put, List.setIfInBounds_toArray, List.set_cons_zero, List.set_cons_succ]
  refine OrdE.takeK (i := 8) (oi := { dst := some 17, op := Go.Op.load 23 (Go.Operand.tmp 2), type := 23, pos := "law.go:122", after := #[{ on := 5, ground := Go.Ground.guard }], guard := some (5, true) }) (v := (.agg k.cells)) rfl (by kernel_rfl) (by kernel_rfl) (by kernel_rfl) (by kernel_rfl) (fun _ _ _ h => h) (by rfl) ?_ (keyH_look HO.out) ?_
  · intro w hS; have hx0 := hS; exact exec_load_key k g hx0 (.tmp 2) rfl rfl
  try simp only [Act.put, List.setIfInBounds_toArray, List.set_cons_zero, List.set_cons_succ]
  refine OrdE.takeK (i := 10) (oi := { dst := some 19, op := Go.Op.move (Go.Operand.tmp 1), type := 3, pos := "law.go:122", after := #[{ on := 5, ground := Go.Ground.guard }], guard := some (5, true) }) (v := (.int .i64 b)) rfl (by kernel_rfl) (by kernel_rfl) (by kernel_rfl) (by kernel_rfl) (fun _ _ _ h => h) (by rfl) ?_ (keyH_look HO.out) ?_
  · intro w hS; have hx0 := hS; go_simp
  try simp only [Act.put, List.setIfInBounds_toArray, List.set_cons_zero, List.set_cons_succ]
  refine OrdE.takeK (i := 12) (oi := { dst := some 21, op := Go.Op.load 23 (Go.Operand.tmp 2), type := 23, pos := "law.go:122", after := #[{ on := 5, ground := Go.Ground.guard }], guard := some (5, true) }) (v := (.agg k.cells)) rfl (by kernel_rfl) (by kernel_rfl) (by kernel_rfl) (by kernel_rfl) (fun _ _ _ h => h) (by rfl) ?_ (keyH_look HO.out) ?_
  · intro w hS; have hx0 := hS; exact exec_load_key k g hx0 (.tmp 2) rfl rfl
  try simp only [Act.put, List.setIfInBounds_toArray, List.set_cons_zero, List.set_cons_succ]
  refine OrdE.oneE (i := 7) (o := { dst := some 16, op := Go.Op.call { callee := Go.Callee.value (Go.Operand.func 13), args := #[Go.Operand.tmp 15, Go.Operand.const (Go.Value.int Go.IntKind.i64 1)], argTypes := #[3, 3] }, type := 28, pos := "law.go:122", after := #[{ on := 6, ground := Go.Ground.data }, { on := 5, ground := Go.Ground.chain }, { on := 5, ground := Go.Ground.guard }], guard := some (5, true) }) (by kernel_rfl) rfl (fun K hK => ?_)
  go_simp
  refine (New_own HO.out b 1).mono ?_
  rintro e w6 ⟨p, rfl, ho⟩
  have HO := Aside0.mk ho
  clear ho
  refine hK.out _ _ (fun _ => keyH_look HO.out.swap) ?_
  clear hK K
  try simp only [Act.put, List.setIfInBounds_toArray, List.set_cons_zero, List.set_cons_succ]
  refine OrdE.oneE (i := 9) (o := { dst := some 18, op := Go.Op.call { callee := Go.Callee.value (Go.Operand.func 14), args := #[Go.Operand.tmp 16, Go.Operand.tmp 17], argTypes := #[28, 23] }, type := 3, pos := "law.go:122", after := #[{ on := 7, ground := Go.Ground.data }, { on := 8, ground := Go.Ground.data }, { on := 7, ground := Go.Ground.chain }, { on := 5, ground := Go.Ground.guard }], guard := some (5, true) }) (by kernel_rfl) rfl (fun K hK => ?_)
  go_simp
  refine (Bucket_own (k := k) HO.out).mono ?_
  rintro e w7 ⟨rfl, ho⟩
  have HO := Aside0.mk ho.swap
  clear ho
  refine hK.out _ _ (fun _ => keyH_look HO.out) ?_
  clear hK K
  try simp only [Act.put, List.setIfInBounds_toArray, List.set_cons_zero, List.set_cons_succ]
  refine OrdE.oneE (i := 11) (o := { dst := some 20, op := Go.Op.call { callee := Go.Callee.value (Go.Operand.func 15), args := #[Go.Operand.tmp 19, Go.Operand.const (Go.Value.int Go.IntKind.i64 1)], argTypes := #[3, 3] }, type := 31, pos := "law.go:122", after := #[{ on := 10, ground := Go.Ground.data }, { on := 9, ground := Go.Ground.chain }, { on := 5, ground := Go.Ground.guard }], guard := some (5, true) }) (by kernel_rfl) rfl (fun K hK => ?_)
  go_simp
  refine (rNew_own HO.out b 1).mono ?_
  rintro e w8 ⟨p2, rfl, ho⟩
  have HO := Aside0.mk ho
  clear ho
  refine hK.out _ _ (fun _ => keyH_look HO.out.swap) ?_
  clear hK K
  try simp only [Act.put, List.setIfInBounds_toArray, List.set_cons_zero, List.set_cons_succ]
  refine OrdE.oneE (i := 13) (o := { dst := some 22, op := Go.Op.call { callee := Go.Callee.value (Go.Operand.func 16), args := #[Go.Operand.tmp 20, Go.Operand.tmp 21], argTypes := #[31, 23] }, type := 3, pos := "law.go:122", after := #[{ on := 11, ground := Go.Ground.data }, { on := 12, ground := Go.Ground.data }, { on := 11, ground := Go.Ground.chain }, { on := 5, ground := Go.Ground.guard }], guard := some (5, true) }) (by kernel_rfl) rfl (fun K hK => ?_)
  go_simp
  refine (rBucket_own (k := k) HO.out).mono ?_
  rintro e w9 ⟨rfl, ho⟩
  have HO := Aside0.mk ho.swap
  clear ho
  refine hK.out _ _ (fun _ => keyH_look HO.out) ?_
  clear hK K
  try simp only [Act.put, List.setIfInBounds_toArray, List.set_cons_zero, List.set_cons_succ]
  refine OrdE.takeK (i := 14) (oi := { dst := some 23, op := Go.Op.binOp Go.BinOp.eql 3 (Go.Operand.tmp 18) (Go.Operand.tmp 22) 3, type := 4, pos := "law.go:122", after := #[{ on := 9, ground := Go.Ground.data }, { on := 13, ground := Go.Ground.data }, { on := 5, ground := Go.Ground.guard }], guard := some (5, true) }) (v := (.bool true)) rfl (by kernel_rfl) (by kernel_rfl) (by kernel_rfl) (by kernel_rfl) (fun _ _ _ h => h) (by rfl) ?_ (keyH_look HO.out) ?_
  · intro w hS; have hx0 := hS; go_simp
  try simp only [Act.put, List.setIfInBounds_toArray, List.set_cons_zero, List.set_cons_succ]
  refine OrdE.takeK (i := 15) (oi := { dst := some 24, op := Go.Op.pick (Go.Operand.tmp 14) (Go.Operand.tmp 23) (Go.Operand.const (Go.Value.bool false)), type := 4, pos := "law.go:122", after := #[{ on := 5, ground := Go.Ground.data }, { on := 14, ground := Go.Ground.data }], guard := none }) (v := (.bool true)) rfl (by kernel_rfl) (by kernel_rfl) (by kernel_rfl) (by kernel_rfl) (fun _ _ _ h => h) (by rfl) ?_ (keyH_look HO.out) ?_
  · intro w hS; have hx0 := hS; go_simp
  try simp only [Act.put, List.setIfInBounds_toArray, List.set_cons_zero, List.set_cons_succ]
  refine OrdE.takeK (i := 16) (oi := { dst := some 4, op := Go.Op.assign (Go.Operand.tmp 24), type := 4, pos := "law.go:122", after := #[{ on := 15, ground := Go.Ground.data }, { on := 13, ground := Go.Ground.chain }, { on := 0, ground := Go.Ground.phase }, { on := 1, ground := Go.Ground.phase }, { on := 2, ground := Go.Ground.phase }, { on := 3, ground := Go.Ground.phase }, { on := 4, ground := Go.Ground.phase }, { on := 5, ground := Go.Ground.phase }, { on := 6, ground := Go.Ground.phase }, { on := 7, ground := Go.Ground.phase }, { on := 8, ground := Go.Ground.phase }, { on := 9, ground := Go.Ground.phase }, { on := 10, ground := Go.Ground.phase }, { on := 11, ground := Go.Ground.phase }, { on := 12, ground := Go.Ground.phase }, { on := 13, ground := Go.Ground.phase }, { on := 14, ground := Go.Ground.phase }, { on := 15, ground := Go.Ground.phase }], guard := none }) (v := (.bool true)) rfl (by kernel_rfl) (by kernel_rfl) (by kernel_rfl) (by kernel_rfl) (fun _ _ _ h => h) (by rfl) ?_ (keyH_look HO.out) ?_
  · intro w hS; have hx0 := hS; go_simp
  try simp only [Act.put, List.setIfInBounds_toArray, List.set_cons_zero, List.set_cons_succ]
  refine OrdE.doneE (by kernel_rfl) ?_ _
  go_wp2_with fail
  go_ret
  exact ⟨rfl, HO.out.below⟩
--END
end Go.Proofs.Ytafpaomcmjccaaa.Walk
