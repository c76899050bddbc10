/- A line that is wrong is caught. -/
import Derived.Test.YtlpfineihjefcaaDoorConfP
import Derived.Test.YtlpfineihjefcaaDoorOrdE
set_option linter.unusedVariables false
set_option linter.unusedSimpArgs false
namespace Go.Proofs.YtlpfineihjefcaaDoor.Conf
open Go.RowKit Go.Proofs.YtlpfineihjefcaaDoor.G Go.Proofs.YtlpfineihjefcaaDoorW.PrintWords Go.Proofs.YtlpfineihjefcaaDoorW.PrintMore Go.Proofs.YtlpfineihjefcaaDoor.Foot
theorem row_far (w : World) {g k : Nat} (cs : Array Value) (h : k ≠ g) : (w.setRow g cs).heap[k]? = w.heap[k]? := by
  simp only [World.setRow, Array.getElem?_modify]
  rw [if_neg (fun e => h e.symm)]
theorem keeps_row {F : Nat → Prop} {w wr : World} (h : Keeps F w wr) {g : Nat} (cs : Array Value) (hg : F g ∨ w.heap.size ≤ g) : Keeps F w (wr.setRow g cs) :=
  h.trans (G := fun k => k = g) ⟨rfl, rfl, rfl, by simp, fun k hk hn => row_far wr cs hn⟩ (fun k hk => hk ▸ hg)
theorem assert_stop (n : Int) (w : World) : (Instr.typeAssert (.iface 36 (.agg #[.int .i64 n])) 20 36 true).run Tryd.prog w = .ok (.tuple #[.agg #[.int .i64 n], .bool true]) w := by kernel_rfl
theorem wp_named {P : Program} {c : Code} {Q : Exit → Act → World → Prop} {a : Act} {w : World} (h : ∀ Q' : Exit → Act → World → Prop, Hid (Q' = Q) → Code.wp P c Q' a w) : Code.wp P c Q a w := h Q (Lib.hid rfl)
set_option maxHeartbeats 4000000 in
set_option maxRecDepth 100000 in
theorem catch_stop (a b c : Nat) (n : Int) (v0 v1 v2 v3 v4 v5 : Value) (w : World) (ha : w.heap[a]? = some (.cells #[v0, v1, v2, v3] 27 (0, 0))) (hb : w.heap[b]? = some (.cells #[v4] 3 (0, 0))) (hc : w.heap[c]? = some (.cells #[v5] 28 (0, 0))) (hab : a ≠ b) (hac : a ≠ c) (hbc : b ≠ c) :
    CallsD Tryd.prog 9 #[.pointer (some ⟨a, 0, none⟩), .pointer (some ⟨b, 0, none⟩), .pointer (some ⟨c, 0, none⟩)] (.panicking [stopF n]) w fun e u' w' =>
      e = .returned (.tuple #[]) ∧ u' = .panicking [{ stopF n with recovered := true }] ∧ w'.heap[a]? = some (CO (.slice none 0 0) cf0) ∧ w'.heap[b]? = some (.cells #[.int .i64 n] 3 (0, 0)) ∧ w'.heap[c]? = some (.cells #[.int .i64 124] 28 (0, 0)) ∧ Keeps (fun k => k = a ∨ k = b ∨ k = c) w w' := by
  have hta := assert_stop n
  refine callsD_of_wpS Tryd.func9 rfl fun c₀ cs hu => ?_
  apply wpS_seq
  apply wpS_region
  simp [wpOpsS, go_sem, recoverD, hu, Tryd.ntmps9, Exit.thenS, stopF]
  apply wpS_seq
  apply wpS_region
  simp [wpOpsS, go_sem, Exit.thenS]
  refine wpS_cond (t := true) (by simp [Act.eval, Array.replicate]) ?_
  simp only [if_true]
  apply wpS_seq
  apply wpS_region
  simp [wpOpsS, go_sem, Exit.thenS, hta]
  apply wpS_seq
  apply wpS_seq
  apply wpS_region
  simp [wpOpsS, go_sem, Exit.thenS]
  refine wpS_cond (t := false) (by simp [Act.eval, Array.replicate]) ?_
  simp only [Bool.false_eq_true, if_false]
  refine wpS_of_wp (wp_skip ?_)
  simp only [Exit.thenS]
  refine wpS_of_wp ?_
  refine wp_named fun Q' HQ => ?_
  obtain ⟨q, hq⟩ : ∃ q, w.heap.size = q := ⟨_, rfl⟩
  rw [show (Array.replicate 17 undef : Array Value) = #[undef, undef, undef, undef, undef, undef, undef, undef, undef, undef, undef, undef, undef, undef, undef, undef, undef] from rfl]
  simp only [List.setIfInBounds_toArray, List.set_cons_zero, List.set_cons_succ, List.append_toArray, List.cons_append, List.nil_append]
  have HA := Aside0.mk (blk_alloc ha (.cells #[.int .i64 n] 36))
  have HB := Aside0.mk (blk_alloc hb (.cells #[.int .i64 n] 36))
  have HC := Aside0.mk (blk_alloc hc (.cells #[.int .i64 n] 36))
  have HQB := Aside0.mk (blk_new w (.cells #[.int .i64 n] 36))
  have HK := Aside0.mk ((Keeps.refl (fun k => k = a ∨ k = b ∨ k = c) w).alloc (.cells #[.int .i64 n] 36))
  have haq : a ≠ q := fun e => by have := blk_lt ha; omega
  have hbq : b ≠ q := fun e => by have := blk_lt hb; omega
  have hcq : c ≠ q := fun e => by have := blk_lt hc; omega
  rw [hq] at HQB ⊢
  generalize w.alloc (.cells #[.int .i64 n] 36) = w1 at HA HB HC HQB HK ⊢
  clear hta ha hb hc hq
  refine OrdE.beginS (fun w' => w'.cell? ⟨q, 0, none⟩ = some (.int .i64 n)) (fun _ => true) (by kernel_rfl) ?_
  have HA := Aside0.mk (show w1.drew.heap[a]? = _ from HA.out)
  have HB := Aside0.mk (show w1.drew.heap[b]? = _ from HB.out)
  have HC := Aside0.mk (show w1.drew.heap[c]? = _ from HC.out)
  have HK := Aside0.mk HK.out.drew
  have HQ0 := Aside0.mk (show w1.drew.cell? ⟨q, 0, none⟩ = some (.int .i64 n) from blk_cell HQB.out 0)
  have HQB := Aside0.mk (show w1.drew.heap[q]? = _ from HQB.out)
  generalize w1.drew = w2 at HA HB HC HK HQ0 HQB ⊢
  refine OrdE.takeK (i := 0) (oi := { dst := some 17, op := Go.Op.build 27 #[], type := 27, pos := "conf.go:80", after := #[], guard := none }) (v := .agg #[.slice none 0 0, .bool false, .string ⟨#[]⟩, .int .i64 0]) rfl (by kernel_rfl) (by kernel_rfl) (by kernel_rfl) (by kernel_rfl) (fun _ _ _ h => by rw [HQ.out] at h ⊢; exact h) (by rfl) ?_ (HQ0.out) ?_
  · intro w hS; have hx0 := hS; go_simp
  try simp only [Act.put, List.setIfInBounds_toArray, List.set_cons_zero, List.set_cons_succ]
  refine OrdE.takeK (i := 1) (oi := { dst := some 18, op := Go.Op.fieldAddr 36 (Go.Operand.tmp 4) 0, type := 0, pos := "conf.go:80", after := #[{ on := 3, ground := Go.Ground.gcOnly Go.Departure.lateStores }], guard := none }) (v := .pointer (some ⟨q, 0, none⟩)) rfl (by kernel_rfl) (by kernel_rfl) (by kernel_rfl) (by kernel_rfl) (fun _ _ _ h => by rw [HQ.out] at h ⊢; exact h) (by rfl) ?_ (HQ0.out) ?_
  · intro w hS; have hx0 := hS; go_simp
  try simp only [Act.put, List.setIfInBounds_toArray, List.set_cons_zero, List.set_cons_succ]
  refine OrdE.takeK (i := 2) (oi := { dst := some 19, op := Go.Op.load 3 (Go.Operand.tmp 18), type := 3, pos := "conf.go:80", after := #[{ on := 1, ground := Go.Ground.data }, { on := 3, ground := Go.Ground.gcOnly Go.Departure.lateStores }], guard := none }) (v := .int .i64 n) rfl (by kernel_rfl) (by kernel_rfl) (by kernel_rfl) (by kernel_rfl) (fun _ _ _ h => by rw [HQ.out] at h ⊢; exact h) (by rfl) ?_ (HQ0.out) ?_
  · intro w hS; have hx0 := hS; go_simp
  try simp only [Act.put, List.setIfInBounds_toArray, List.set_cons_zero, List.set_cons_succ]
  refine OrdE.oneE (i := 3) (o := { dst := none, op := Go.Op.store 27 (Go.Operand.tmp 0) (Go.Operand.tmp 17), type := 0, pos := "conf.go:80", after := #[{ on := 0, ground := Go.Ground.data }, { on := 0, ground := Go.Ground.phase }, { on := 1, ground := Go.Ground.textOnly Go.Departure.lateStores }, { on := 2, ground := Go.Ground.textOnly Go.Departure.lateStores }], guard := none }) (by kernel_rfl) rfl (fun K hK => ?_)
  rw [if_pos (by rfl)]
  refine wp_store_row 27 (.tmp 0) (.tmp 17) rfl a #[.slice none 0 0, .bool false, .string ⟨#[]⟩, .int .i64 0] rfl rfl 27 #[v0, v1, v2, v3] HA.out (by kernel_rfl) rfl (by simp [Value.oneCell']) ?_
  have HA3 := Aside0.mk (setRow_heap w2 a _ #[.slice none 0 0, .bool false, .string ⟨#[]⟩, .int .i64 0] 27 (0, 0) HA.out)
  have HK3 := Aside0.mk (keeps_row HK.out #[.slice none 0 0, .bool false, .string ⟨#[]⟩, .int .i64 0] (.inl (.inl rfl)))
  have HB3 := Aside0.mk ((row_far (g := a) w2 #[.slice none 0 0, .bool false, .string ⟨#[]⟩, .int .i64 0] hab.symm).trans HB.out)
  have HC3 := Aside0.mk ((row_far (g := a) w2 #[.slice none 0 0, .bool false, .string ⟨#[]⟩, .int .i64 0] hac.symm).trans HC.out)
  have HQ3 := Aside0.mk ((row_far (g := a) w2 #[.slice none 0 0, .bool false, .string ⟨#[]⟩, .int .i64 0] haq.symm).trans HQB.out)
  generalize w2.setRow a #[.slice none 0 0, .bool false, .string ⟨#[]⟩, .int .i64 0] = w3 at HA3 HK3 HB3 HC3 HQ3 ⊢
  refine hK.out _ _ (fun _ => blk_cell HQ3.out 0) ?_
  clear hK K
  try simp only [Act.put, List.setIfInBounds_toArray, List.set_cons_zero, List.set_cons_succ]
  clear HA HB HC HK HQ0 HQB
  have hb0 := blk_cell HB3.out 0
  have hbz := blk_frozen HB3.out 0
  refine OrdE.oneE (i := 4) (o := { dst := none, op := Go.Op.store 3 (Go.Operand.tmp 1) (Go.Operand.tmp 19), type := 0, pos := "conf.go:80", after := #[{ on := 2, ground := Go.Ground.data }, { on := 3, ground := Go.Ground.chain }, { on := 0, ground := Go.Ground.phase }, { on := 1, ground := Go.Ground.phase }, { on := 2, ground := Go.Ground.phase }, { on := 3, ground := Go.Ground.phase }], guard := none }) (by kernel_rfl) rfl (fun K hK => ?_)
  go_simp
  have HB4 := Aside0.mk (blk_put HB3.out 0 (.int .i64 n) rfl)
  have HA4 := Aside0.mk (blk_far HA3.out (p := ⟨b, 0, none⟩) hab (.int .i64 n))
  have HC4 := Aside0.mk (blk_far HC3.out (p := ⟨b, 0, none⟩) hbc.symm (.int .i64 n))
  have HQ4 := Aside0.mk (blk_far HQ3.out (p := ⟨b, 0, none⟩) hbq.symm (.int .i64 n))
  have HK4 := Aside0.mk (HK3.out.setCell (p := ⟨b, 0, none⟩) (.inl (.inr (.inl rfl))) (.int .i64 n))
  generalize w3.setCell ⟨b, 0, none⟩ (.int .i64 n) = w4 at HB4 HA4 HC4 HQ4 HK4 ⊢
  refine hK.out _ _ (fun _ => blk_cell HQ4.out 0) ?_
  clear hK K
  try simp only [Act.put, List.setIfInBounds_toArray, List.set_cons_zero, List.set_cons_succ]
  clear hb0 hbz HA3 HK3 HB3 HC3 HQ3
  have hc0 := blk_cell HC4.out 0
  have hcz := blk_frozen HC4.out 0
  refine OrdE.oneE (i := 5) (o := { dst := none, op := Go.Op.store 28 (Go.Operand.tmp 2) (Go.Operand.const (Go.Value.int Go.IntKind.i64 124)), type := 0, pos := "conf.go:80", after := #[{ on := 4, ground := Go.Ground.chain }, { on := 0, ground := Go.Ground.phase }, { on := 1, ground := Go.Ground.phase }, { on := 2, ground := Go.Ground.phase }, { on := 3, ground := Go.Ground.phase }, { on := 4, ground := Go.Ground.phase }], guard := none }) (by kernel_rfl) rfl (fun K hK => ?_)
  go_simp
  have HB5 := Aside0.mk (blk_far HB4.out (p := ⟨c, 0, none⟩) hbc (.int .i64 124))
  have HA5 := Aside0.mk (blk_far HA4.out (p := ⟨c, 0, none⟩) hac (.int .i64 124))
  have HC5 := Aside0.mk (blk_put HC4.out 0 (.int .i64 124) rfl)
  have HQ5 := Aside0.mk (blk_far HQ4.out (p := ⟨c, 0, none⟩) hcq.symm (.int .i64 124))
  have HK5 := Aside0.mk (HK4.out.setCell (p := ⟨c, 0, none⟩) (.inl (.inr (.inr rfl))) (.int .i64 124))
  generalize w4.setCell ⟨c, 0, none⟩ (.int .i64 124) = w5 at HB5 HA5 HC5 HQ5 HK5 ⊢
  refine hK.out _ _ (fun _ => blk_cell HQ5.out 0) ?_
  clear hK K
  try simp only [Act.put, List.setIfInBounds_toArray, List.set_cons_zero, List.set_cons_succ]
  refine OrdE.doneE (by kernel_rfl) ?_ _
  rw [HQ.out]
  cases c₀
  simp_all [bodyPostS, results, Tryd.results9]
  exact ⟨HA5.out, HB5.out, HC5.out, HK5.out⟩
end Go.Proofs.YtlpfineihjefcaaDoor.Conf
