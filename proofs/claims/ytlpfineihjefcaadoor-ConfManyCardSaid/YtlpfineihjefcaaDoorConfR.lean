/- A line that is a rule. -/
import Derived.Test.YtlpfineihjefcaaDoorConfW
import Derived.Test.YtlpfineihjefcaaDoorOrdE
set_option linter.unusedVariables false
set_option linter.unusedSimpArgs false
namespace Go.Proofs.YtlpfineihjefcaaDoor.Conf
open Go.RowKit Go.Proofs.YtlpfineihjefcaaDoor.G Go.Proofs.YtlpfineihjefcaaDoorW.PrintWords Go.Proofs.YtlpfineihjefcaaDoorW.PrintMore Go.Proofs.YtlpfineihjefcaaDoor.Foot
theorem infoRule : (Tryd.prog.info? 50).map (fun i => (i.zero, i.size, i.bytes)) = some (some (.agg #[.bool false, .string ⟨#[]⟩, .string ⟨#[]⟩, .string ⟨#[]⟩]), 4, 56) := by kernel_rfl
set_option maxHeartbeats 4000000 in
set_option maxRecDepth 100000 in
theorem good_rule (s x : ByteArray) (r : List ByteArray) (c : Cf) (k : Nat) (r1 : Bool) (r2 r3 r4 : ByteArray) (hw : acl_Words.f s = some (x :: r)) (h0 : 0 < x.size) (hx : bt x 0 ≠ 35) (hr : r.length = 3) (hp : acl_Parse.f k s = some (r1, r2, r3, r4, 0)) (hl : c.rules.length < 50) :
    Good s c { c with rules := c.rules ++ [⟨r1, r2, r3, r4⟩] } := by
  intro p n w F h
  have HI := Aside0.mk h.begin.1
  have HP := Lib.hid hp
  clear h hp
  go_enter Tryd.func11, Tryd.ntmps11
  go_wp2_with fail
  refine (acl_Words.calls s (x :: r) _ hw).mono ?_
  rintro e w1 ⟨v, rfl, hR, hB⟩
  obtain ⟨A, cp, rfl, _, hC⟩ := Kd.R_reads hR
  have HI1 := Aside0.mk (HI.out.below hB)
  obtain ⟨ad, hA, hc0⟩ := at_str hC 0 x rfl
  rw [add0] at hc0
  have hbt : ∀ h : 0 < x.size, (((x[0]'h).toNat : Int) == 35) = false := fun h => beq_eq_false_iff_ne.2 (by have := bt_at x 0 h; rw [show ((x[0]'h).toNat : Int) = bt x 0 from this]; exact hx)
  rw [show (x :: r).length = 4 by rw [List.length_cons, hr]]
  subst hA
  clear hR hB hw hC hx hr
  go_wp2_with fail
  refine (acl_Parse.calls k s r1 r2 r3 r4 0 _ HP.out).mono ?_
  rintro e w2 ⟨rfl, hB2⟩
  have HI2 := Aside0.mk ((HI1.out.below hB2).below (below_alloc (Below.refl _ _) (.cells #[.bool r1, .string r2, .string r3, .string r4] 50)))
  have hqq := blk_new w2 (.cells #[.bool r1, .string r2, .string r3, .string r4] 50)
  obtain ⟨_, hpF, v2, hb2, hR2⟩ := HI1.out.below hB2
  obtain ⟨A0, c0, rfl, hlc, _⟩ := Kd.R_reads hR2
  clear hB2 hc0 HI1
  have HK2 := Aside0.mk HI2.out.1
  have HB2 := Aside0.mk (blk_alloc hb2 (.cells #[.bool r1, .string r2, .string r3, .string r4] 50))
  have HR2 := Aside0.mk (Kd.R_step hR2 (w1 := w2.alloc (.cells #[.bool r1, .string r2, .string r3, .string r4] 50)) (fun k _ hk => Below.heap_alloc w2 _ k hk))
  have HQN := Lib.hid (show ¬ (.slice A0 c.rules.length c0 : Value).ownBlock = some w2.heap.size from fun e => by have := (Kd.R_bound hR2).1 _ e; omega)
  have HQP := Lib.hid (show w2.heap.size ≠ p from fun e => by have := blk_lt hb2; omega)
  have hcell := blk_cell HB2.out 0
  have hlr : (c.rules.length : Int) < 50 := by omega
  go_wp2_with fail
  generalize hq : w2.heap.size = q at hqq HQN HQP ⊢
  generalize w2.alloc (.cells #[.bool r1, .string r2, .string r3, .string r4] 50) = w3 at HI2 HK2 HB2 HR2 hqq hcell ⊢
  clear hb2 hR2 hbt hq
  refine (must_yes _ _).mono ?_
  rintro e w' ⟨rfl, hw'⟩
  rw [hw']
  clear hw'
  go_wp2_with fail
  clear hcell hlr
  refine OrdE.beginS (fun w' => w'.cell? ⟨p, 0, none⟩ = some (.slice A0 c.rules.length c0) ∧ w'.cell? ⟨q, 0, none⟩ = some (.bool r1) ∧ w'.cell? ⟨q, 1, none⟩ = some (.string r2) ∧ w'.cell? ⟨q, 2, none⟩ = some (.string r3) ∧ w'.cell? ⟨q, 3, none⟩ = some (.string r4)) (fun i => i != 10) (by kernel_rfl) ?_
  have HK3 := Aside0.mk HK2.out.drew
  have HR3 := Aside0.mk (Kd.R_step HR2.out (w1 := w3.drew) (fun k _ _ => rfl))
  have HPQ := Aside0.mk (show w3.drew.heap[p]? = _ from HB2.out)
  have HQQ := Aside0.mk (show w3.drew.heap[q]? = _ from hqq)
  clear hqq HI2
  generalize w3.drew = w4 at HK3 HR3 HPQ HQQ ⊢
  have hp0 := blk_cell HPQ.out 0
  have hq0 := blk_cell HQQ.out 0
  have hq1 := blk_cell HQQ.out 1
  have hq2 := blk_cell HQQ.out 2
  have hq3 := blk_cell HQQ.out 3
  refine OrdE.takeK (i := 0) (oi := { dst := some 44, op := Go.Op.move (Go.Operand.tmp 0), type := 41, pos := "conf.go:65", after := #[], guard := none }) (v := .pointer (some ⟨p, 0, none⟩)) rfl (by kernel_rfl) (by kernel_rfl) (by kernel_rfl) (by kernel_rfl) (fun _ _ _ h => h) (by rfl) ?_ (⟨hp0, hq0, hq1, hq2, hq3⟩) ?_
  · intro w hS; obtain ⟨hx0, hx1, hx2, hx3, hx4⟩ := hS; go_simp
  try simp only [Act.put, List.setIfInBounds_toArray, List.set_cons_zero, List.set_cons_succ]
  refine OrdE.takeK (i := 1) (oi := { dst := some 45, op := Go.Op.move (Go.Operand.tmp 0), type := 41, pos := "conf.go:65", after := #[], guard := none }) (v := .pointer (some ⟨p, 0, none⟩)) rfl (by kernel_rfl) (by kernel_rfl) (by kernel_rfl) (by kernel_rfl) (fun _ _ _ h => h) (by rfl) ?_ (⟨hp0, hq0, hq1, hq2, hq3⟩) ?_
  · intro w hS; obtain ⟨hx0, hx1, hx2, hx3, hx4⟩ := hS; go_simp
  try simp only [Act.put, List.setIfInBounds_toArray, List.set_cons_zero, List.set_cons_succ]
  refine OrdE.takeK (i := 2) (oi := { dst := some 46, op := Go.Op.nilCheck (Go.Operand.tmp 45), type := 0, pos := "conf.go:65", after := #[{ on := 1, ground := Go.Ground.data }], guard := none }) (v := .pointer (some ⟨p, 0, none⟩)) rfl (by kernel_rfl) (by kernel_rfl) (by kernel_rfl) (by kernel_rfl) (fun _ _ _ h => h) (by rfl) ?_ (⟨hp0, hq0, hq1, hq2, hq3⟩) ?_
  · intro w hS; obtain ⟨hx0, hx1, hx2, hx3, hx4⟩ := hS; go_simp
  try simp only [Act.put, List.setIfInBounds_toArray, List.set_cons_zero, List.set_cons_succ]
  refine OrdE.takeK (i := 3) (oi := { dst := some 47, op := Go.Op.fieldAddr 27 (Go.Operand.tmp 46) 0, type := 0, pos := "conf.go:65", after := #[{ on := 2, ground := Go.Ground.data }], guard := none }) (v := .pointer (some ⟨p, 0, none⟩)) rfl (by kernel_rfl) (by kernel_rfl) (by kernel_rfl) (by kernel_rfl) (fun _ _ _ h => h) (by rfl) ?_ (⟨hp0, hq0, hq1, hq2, hq3⟩) ?_
  · intro w hS; obtain ⟨hx0, hx1, hx2, hx3, hx4⟩ := hS; go_simp
  try simp only [Act.put, List.setIfInBounds_toArray, List.set_cons_zero, List.set_cons_succ]
  refine OrdE.takeK (i := 4) (oi := { dst := some 48, op := Go.Op.load 25 (Go.Operand.tmp 47), type := 25, pos := "conf.go:65", after := #[{ on := 3, ground := Go.Ground.data }], guard := none }) (v := .slice A0 c.rules.length c0) rfl (by kernel_rfl) (by kernel_rfl) (by kernel_rfl) (by kernel_rfl) (fun _ _ _ h => h) (by rfl) ?_ (⟨hp0, hq0, hq1, hq2, hq3⟩) ?_
  · intro w hS; obtain ⟨hx0, hx1, hx2, hx3, hx4⟩ := hS; go_simp
  try simp only [Act.put, List.setIfInBounds_toArray, List.set_cons_zero, List.set_cons_succ]
  refine OrdE.takeK (i := 5) (oi := { dst := some 49, op := Go.Op.load 50 (Go.Operand.tmp 10), type := 50, pos := "conf.go:65", after := #[], guard := none }) (v := .agg #[.bool r1, .string r2, .string r3, .string r4]) rfl (by kernel_rfl) (by kernel_rfl) (by kernel_rfl) (by kernel_rfl) (fun _ _ _ h => h) (by rfl) ?_ (⟨hp0, hq0, hq1, hq2, hq3⟩) ?_
  · intro w hS; obtain ⟨hx0, hx1, hx2, hx3, hx4⟩ := hS; go_simp
  try simp only [Act.put, List.setIfInBounds_toArray, List.set_cons_zero, List.set_cons_succ]
  refine OrdE.oneE (i := 6) (o := { dst := some 50, op := Go.Op.buildSlice 25 1 #[(0, Go.Operand.tmp 49)], type := 25, pos := "conf.go:65", after := #[{ on := 5, ground := Go.Ground.data }], guard := none }) (by kernel_rfl) rfl (fun K hK => ?_)
  go_simp
  have hp1 := blk_cell (blk_alloc HPQ.out (.cells #[.bool r1, .string r2, .string r3, .string r4] 50)) 0
  have hq5 := blk_alloc HQQ.out (.cells #[.bool r1, .string r2, .string r3, .string r4] 50)
  refine hK.out _ _ (fun _ => ⟨hp1, blk_cell hq5 0, blk_cell hq5 1, blk_cell hq5 2, blk_cell hq5 3⟩) ?_
  clear hK K
  try simp only [Act.put, List.setIfInBounds_toArray, List.set_cons_zero, List.set_cons_succ]
  refine OrdE.oneE (i := 7) (o := { dst := some 51, op := Go.Op.call { callee := Go.Callee.builtin Go.Builtin.append, args := #[Go.Operand.tmp 48, Go.Operand.tmp 50], argTypes := #[25, 25] }, type := 25, pos := "conf.go:65", after := #[{ on := 4, ground := Go.Ground.data }, { on := 6, ground := Go.Ground.data }], guard := none }) (by kernel_rfl) rfl (fun K hK => ?_)
  refine Kd.R_append_step k50 (w0 := w4) 0 (by rfl) (.tmp 48) (.tmp 50) 25 50 (.agg #[.bool false, .string ⟨#[]⟩, .string ⟨#[]⟩, .string ⟨#[]⟩]) 56 (by rfl) Tryd.underlying25 infoRule rfl (by decide) (by decide) (.slice A0 c.rules.length c0) c.rules ⟨r1, r2, r3, r4⟩ [.bool r1, .string r2, .string r3, .string r4] (fun k => (F k ∨ w.heap.size ≤ k) ∧ k ≠ p) (fun _ => False) (by rfl) (by rfl) (k50_mkM _ _ _ _) (fun _ h => h.elim) (fun k hk => ⟨.inr (Nat.le_trans HK3.out.size hk), by have := blk_lt HPQ.out; omega⟩) HR3.out (Below.refl _ _) (Nat.zero_le _) (by omega) ?_
  intro v9 w9 hR9 hB9 hg9 _
  have hb9 := blk_grown HPQ.out hg9 (fun e => (HR3.out.1 p e.symm).2 rfl)
  have hqr : some q = Value.ownBlock (.slice A0 c.rules.length c0) → False := fun e => HQN.out e.symm
  have hq9 := blk_grown HQQ.out hg9 hqr
  have HK9 := Aside0.mk (HK3.out.grown hg9 (fun k e => (HR3.out.1 k e).1))
  obtain ⟨A9, c9, rfl⟩ := Kd.R_slice hR9
  have HR9 := Aside0.mk hR9
  have HB9 := Aside0.mk hb9
  have HQ9 := Aside0.mk hq9
  clear hR9 hB9 hg9 hb9 hq9 hqr
  refine hK.out _ _ (fun _ => ⟨blk_cell HB9.out 0, blk_cell HQ9.out 0, blk_cell HQ9.out 1, blk_cell HQ9.out 2, blk_cell HQ9.out 3⟩) ?_
  clear hK K
  try simp only [Act.put, List.setIfInBounds_toArray, List.set_cons_zero, List.set_cons_succ]
  clear hp1 hq5 hp0 hq0 hq1 hq2 hq3
  refine OrdE.oneE (i := 8) (o := { dst := some 52, op := Go.Op.nilCheck (Go.Operand.tmp 44), type := 0, pos := "conf.go:65", after := #[{ on := 0, ground := Go.Ground.data }, { on := 0, ground := Go.Ground.phase }, { on := 1, ground := Go.Ground.phase }, { on := 2, ground := Go.Ground.phase }, { on := 3, ground := Go.Ground.phase }, { on := 4, ground := Go.Ground.phase }, { on := 5, ground := Go.Ground.phase }, { on := 6, ground := Go.Ground.phase }, { on := 7, ground := Go.Ground.phase }], guard := none }) (by kernel_rfl) rfl (fun K hK => ?_)
  go_simp
  refine hK.out _ _ (fun _ => ⟨blk_cell HB9.out 0, blk_cell HQ9.out 0, blk_cell HQ9.out 1, blk_cell HQ9.out 2, blk_cell HQ9.out 3⟩) ?_
  clear hK K
  try simp only [Act.put, List.setIfInBounds_toArray, List.set_cons_zero, List.set_cons_succ]
  refine OrdE.oneE (i := 9) (o := { dst := some 53, op := Go.Op.fieldAddr 27 (Go.Operand.tmp 52) 0, type := 0, pos := "conf.go:65", after := #[{ on := 8, ground := Go.Ground.data }, { on := 0, ground := Go.Ground.phase }, { on := 1, ground := Go.Ground.phase }, { on := 2, ground := Go.Ground.phase }, { on := 3, ground := Go.Ground.phase }, { on := 4, ground := Go.Ground.phase }, { on := 5, ground := Go.Ground.phase }, { on := 6, ground := Go.Ground.phase }, { on := 7, ground := Go.Ground.phase }], guard := none }) (by kernel_rfl) rfl (fun K hK => ?_)
  go_simp
  refine hK.out _ _ (fun _ => ⟨blk_cell HB9.out 0, blk_cell HQ9.out 0, blk_cell HQ9.out 1, blk_cell HQ9.out 2, blk_cell HQ9.out 3⟩) ?_
  clear hK K
  try simp only [Act.put, List.setIfInBounds_toArray, List.set_cons_zero, List.set_cons_succ]
  have hc9 := blk_cell HB9.out 0
  have hz9 := blk_frozen HB9.out 0
  refine OrdE.oneE (i := 10) (o := { dst := none, op := Go.Op.store 25 (Go.Operand.tmp 53) (Go.Operand.tmp 51), type := 0, pos := "conf.go:65", after := #[{ on := 9, ground := Go.Ground.data }, { on := 7, ground := Go.Ground.data }, { on := 7, ground := Go.Ground.chain }, { on := 0, ground := Go.Ground.phase }, { on := 1, ground := Go.Ground.phase }, { on := 2, ground := Go.Ground.phase }, { on := 3, ground := Go.Ground.phase }, { on := 4, ground := Go.Ground.phase }, { on := 5, ground := Go.Ground.phase }, { on := 6, ground := Go.Ground.phase }, { on := 7, ground := Go.Ground.phase }], guard := none }) (by kernel_rfl) rfl (fun K hK => ?_)
  go_simp
  have hw9 : CfgI p { c with rules := c.rules ++ [⟨r1, r2, r3, r4⟩] } w F (w9.setCell ⟨p, 0, none⟩ (.slice A9 (c.rules ++ [(⟨r1, r2, r3, r4⟩ : S50)]).length c9)) := ⟨HK9.out.setCell (.inl hpF) _, hpF, _, blk_put HB9.out 0 _ rfl, Kd.R_far HR9.out (p := ⟨p, 0, none⟩) (fun k hk => hk.2) _⟩
  have HE := Aside0.mk hw9.done
  clear hw9
  refine hK.out _ _ (fun h => (by cases h)) ?_
  clear hK K
  refine OrdE.doneE (by kernel_rfl) ?_ _
  go_wp2
  go_end0
  exact ⟨rfl, by have h := HE.out; rw [List.length_append, List.length_singleton] at h; exact h⟩
end Go.Proofs.YtlpfineihjefcaaDoor.Conf
