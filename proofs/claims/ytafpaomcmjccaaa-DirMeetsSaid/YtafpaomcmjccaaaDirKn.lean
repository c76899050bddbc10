/- Two entries of one key. -/
import Derived.Test.YtafpaomcmjccaaaDirHh
import Derived.Deep.WholeRow
set_option linter.unusedVariables false
set_option linter.unusedSimpArgs false
namespace Go.Proofs.Ytafpaomcmjccaaa.Dir
open Go.RowKit Go.Proofs.Ytafpaomcmjccaaa.G Go.Proofs.YtafpaomcmjccaaaW.PrintWords Go.Proofs.YtafpaomcmjccaaaW.PrintMore Go.Proofs.Ytafpaomcmjccaaa.Foot

def kk1 : Key := keyOf 1
def e5 : S55 := ⟨0, 5, 2, 1⟩
def e9 : S55 := ⟨0, 9, 2, 2⟩
def D1 : Di := ⟨4, [[], [e5], []]⟩
def D2 : Di := ⟨4, [[], [e5, e9], []]⟩
def D3 : Di := ⟨4, [[], [e9], []]⟩
def D4 : Di := ⟨4, [[], [], []]⟩
theorem kn_tag : kk1.tag = 0 := by decide
theorem kn1 : (newD 3 4).ins kk1 ⟨kk1.tag, 5, 2, 1⟩ = (0, D1) := by kernel_rfl
theorem kn2 : D1.ins kk1 ⟨kk1.tag, 9, 2, 2⟩ = (0, D2) := by kernel_rfl
theorem kn3 : probe kk1.tag (D2.of kk1) = [e9, e5] := by kernel_rfl
theorem kn4 : D2.at_ kk1 = 1 := by kernel_rfl
theorem kn5 : D2.all.length = 2 := by kernel_rfl
theorem kn6 : D2.del kk1 5 = (true, D3) := by kernel_rfl
theorem kn7 : goneN (elder 9 10 3) D3.L = 1 := by kernel_rfl
theorem kn8 : D3.purge (elder 9 10 3) = D4 := by kernel_rfl
theorem kn9 : D4.all.length = 0 := by kernel_rfl
/-- A block that stays as it is, beside other things. -/
def KeyH (g : Nat) (k : Key) : HP := fun w F => (F = fun j => j = g) ∧ w.heap[g]? = some (.cells k.cells 23 (0, 0))
instance {g : Nat} {k : Key} : Firm (KeyH g k) where
  move := by
    rintro w w' F ⟨rfl, hb⟩ hm
    exact ⟨rfl, (hm g rfl).trans hb⟩
  lt := by
    rintro w F ⟨rfl, hb⟩ k rfl
    exact blk_lt hb
theorem keyH_look {W w : World} {g : Nat} {k : Key} {R : HP} (h : Foot.Own W w (star (KeyH g k) R)) : w.heap[g]? = some (.cells k.cells 23 (0, 0)) := h.look fun F hF _ => hF.2
theorem key_new {W w : World} {k : Key} {R : HP} [Firm R] (h : Foot.Own W w R) : Foot.Own W (w.alloc (.cells k.cells 23)) (star (KeyH w.heap.size k) R) :=
  h.add (below_alloc (Below.refl _ _) _) (G := fun j => j = w.heap.size) ⟨rfl, blk_new w _⟩ (fun j hj => by omega)
theorem okE (t a b c : Int) (ht : 0 ≤ t ∧ t ≤ 4095) (ha : 0 ≤ a ∧ a < 4294967296) (hb : 0 ≤ b ∧ b ≤ 65535) (hc : 0 ≤ c ∧ c < 18446744073709551616) : OkE ⟨t, a, b, c⟩ := ⟨ht.1, by show t ≤ _; omega, ha.1, ha.2, hb.1, hb.2, hc.1, hc.2⟩
theorem wpList_load_keyG {ops : Array Oper} {rest : List Oper} {o : Oper} {a : Act} {w : World} {Q : Exit → Act → World → Prop} (k : Key) (g : Nat) (h : w.heap[g]? = some (.cells k.cells 23 (0, 0))) (hwd : Region.wanted o (yielded ops a.tmps) = true) (x : Operand) (ho : o.op = .load 23 x)
    (hx : a.eval x = .pointer (some ⟨g, 0, none⟩)) (hw : wpList Try.prog ops Q rest (a.put o.dst (.agg k.cells)) w) : wpList Try.prog ops Q (o :: rest) a w := by
  unfold wpList
  rw [if_pos hwd]
  refine .inl ?_
  unfold Oper.wp
  rw [exec_load_key k g h x ho hx]
  exact hw
/-- Thirty-two zeros. -/
def kz : Array Value := #[.int .u8 0, .int .u8 0, .int .u8 0, .int .u8 0, .int .u8 0, .int .u8 0, .int .u8 0, .int .u8 0, .int .u8 0, .int .u8 0, .int .u8 0, .int .u8 0, .int .u8 0, .int .u8 0, .int .u8 0, .int .u8 0, .int .u8 0, .int .u8 0, .int .u8 0, .int .u8 0, .int .u8 0, .int .u8 0, .int .u8 0, .int .u8 0, .int .u8 0, .int .u8 0, .int .u8 0, .int .u8 0, .int .u8 0, .int .u8 0, .int .u8 0, .int .u8 0]
theorem store_key_new (k : Key) (w : World) (Z : Array Value) (hZ : Z.size = 32) : (storeCells ⟨w.heap.size, 0, none⟩ k.cells.toList).run Try.prog (w.alloc (.cells Z 23)) = .ok () (w.alloc (.cells k.cells 23)) := by
  have hl : k.cells.toList.length = 32 := by rw [Array.length_toList, k.size]
  rw [Fl.store_run (P := Try.prog) w.heap.size 0 k.cells.toList Z (blk_new w (.cells Z 23)) (by rw [hl, hZ]; decide) (fun v hv => by
    have := Array.all_eq_true_iff_forall_mem.1 k.one v (Array.mem_toList_iff.1 hv)
    exact this), World.setRow_alloc_new]
  rw [List.take_zero, List.nil_append, Nat.zero_add, hl, List.drop_eq_nil_of_le (by rw [Array.length_toList, hZ]; exact Nat.le_refl _), List.append_nil, Array.toArray_toList]
set_option maxHeartbeats 4000000 in
set_option maxRecDepth 100000 in
theorem known_calls (w : World) : Calls Try.prog 9 #[] w fun e w' => e = .returned (.bool true) ∧ Below w.heap.size w w' := by
  go_enter Try.func9, Try.ntmps9
  go_wp2_with fail
  refine (New_own (Foot.Own.start w) 3 4).mono ?_
  rintro e w1 ⟨p, rfl, ho⟩
  have HO := Aside0.mk ho
  clear ho
  go_wp2_with fail
  refine (key_calls 1 w1 (by omega) (by omega)).mono ?_
  rintro e w2 ⟨rfl, hb⟩
  have HO2 := Aside0.mk (HO.out.step hb)
  have HO := Aside0.mk (key_new (k := kk1) HO2.out)
  clear hb HO2
  rw [show keyOf 1 = kk1 from rfl]
  have hst := store_key_new kk1 w2 kz rfl
  unfold kz at hst
  have hks := kk1.size
  go_upto_region 5 with (fail)
  clear hst hks
  generalize w2.heap.size = g at HO ⊢
  generalize w2.alloc (.cells kk1.cells 23) = w3 at HO ⊢
  clear w2
  --REGION
  refine OrdE.beginS (fun w' => w'.heap[g]? = some (.cells kk1.cells 23 (0, 0))) (fun _ => true) (by kernel_rfl) ?_
  have HO := Aside0.mk HO.out.drew
  generalize w3.drew = w4 at HO ⊢
  refine OrdE.takeK (i := 0) (oi := { dst := some 10, op := Go.Op.move (Go.Operand.tmp 1), type := 28, pos := "law.go:35", after := #[], guard := none }) (v := (.pointer (some ⟨p, 0, none⟩))) rfl (by kernel_rfl) (by kernel_rfl) (by kernel_rfl) (by kernel_rfl) (fun _ _ _ h => h) (by rfl) ?_ (keyH_look HO.out) ?_
  · intro w hS; have hx0 := hS; go_simp
  try simp only [Act.put, List.setIfInBounds_toArray, List.set_cons_zero, List.set_cons_succ]
  refine OrdE.takeK (i := 1) (oi := { dst := some 11, op := Go.Op.load 23 (Go.Operand.tmp 2), type := 23, pos := "law.go:35", after := #[], guard := none }) (v := (.agg kk1.cells)) rfl (by kernel_rfl) (by kernel_rfl) (by kernel_rfl) (by kernel_rfl) (fun _ _ _ h => h) (by rfl) ?_ (keyH_look HO.out) ?_
  · intro w hS; have hx0 := hS; exact exec_load_key kk1 g hx0 (.tmp 2) rfl rfl
  try simp only [Act.put, List.setIfInBounds_toArray, List.set_cons_zero, List.set_cons_succ]
  refine OrdE.takeK (i := 3) (oi := { dst := some 13, op := Go.Op.move (Go.Operand.tmp 1), type := 28, pos := "law.go:35", after := #[], guard := none }) (v := (.pointer (some ⟨p, 0, none⟩))) rfl (by kernel_rfl) (by kernel_rfl) (by kernel_rfl) (by kernel_rfl) (fun _ _ _ h => h) (by rfl) ?_ (keyH_look HO.out) ?_
  · intro w hS; have hx0 := hS; go_simp
  try simp only [Act.put, List.setIfInBounds_toArray, List.set_cons_zero, List.set_cons_succ]
  refine OrdE.takeK (i := 4) (oi := { dst := some 14, op := Go.Op.load 23 (Go.Operand.tmp 2), type := 23, pos := "law.go:35", after := #[], guard := none }) (v := (.agg kk1.cells)) rfl (by kernel_rfl) (by kernel_rfl) (by kernel_rfl) (by kernel_rfl) (fun _ _ _ h => h) (by rfl) ?_ (keyH_look HO.out) ?_
  · intro w hS; have hx0 := hS; exact exec_load_key kk1 g hx0 (.tmp 2) rfl rfl
  try simp only [Act.put, List.setIfInBounds_toArray, List.set_cons_zero, List.set_cons_succ]
  refine OrdE.oneE (i := 2) (o := { dst := some 12, op := Go.Op.call { callee := Go.Callee.value (Go.Operand.func 17), args := #[Go.Operand.tmp 10, Go.Operand.tmp 11, Go.Operand.const (Go.Value.int Go.IntKind.u32 5), Go.Operand.const (Go.Value.int Go.IntKind.u16 2), Go.Operand.const (Go.Value.int Go.IntKind.u64 1)], argTypes := #[28, 23, 37, 26, 38] }, type := 34, pos := "law.go:35", after := #[{ on := 0, ground := Go.Ground.data }, { on := 1, ground := Go.Ground.data }], guard := none }) (by kernel_rfl) rfl (fun K hK => ?_)
  go_simp
  refine (Insert_own HO.out.swap 5 2 1 (okE _ _ _ _ kk1.tag_rng (by omega) (by omega) (by omega))).mono ?_
  rintro e w5 ⟨rfl, ho⟩
  rw [kn1] at ho ⊢
  have HO := Aside0.mk ho.swap
  clear ho
  refine hK.out _ _ (fun _ => keyH_look HO.out) ?_
  clear hK K
  try simp only [Act.put, List.setIfInBounds_toArray, List.set_cons_zero, List.set_cons_succ]
  refine OrdE.oneE (i := 5) (o := { dst := some 15, op := Go.Op.call { callee := Go.Callee.value (Go.Operand.func 17), args := #[Go.Operand.tmp 13, Go.Operand.tmp 14, Go.Operand.const (Go.Value.int Go.IntKind.u32 9), Go.Operand.const (Go.Value.int Go.IntKind.u16 2), Go.Operand.const (Go.Value.int Go.IntKind.u64 2)], argTypes := #[28, 23, 37, 26, 38] }, type := 34, pos := "law.go:35", after := #[{ on := 3, ground := Go.Ground.data }, { on := 4, ground := Go.Ground.data }, { on := 2, ground := Go.Ground.chain }], guard := none }) (by kernel_rfl) rfl (fun K hK => ?_)
  go_simp
  refine (Insert_own HO.out.swap 9 2 2 (okE _ _ _ _ kk1.tag_rng (by omega) (by omega) (by omega))).mono ?_
  rintro e w6 ⟨rfl, ho⟩
  rw [kn2] at ho ⊢
  have HO := Aside0.mk ho.swap
  clear ho
  refine hK.out _ _ (fun _ => keyH_look HO.out) ?_
  clear hK K
  try simp only [Act.put, List.setIfInBounds_toArray, List.set_cons_zero, List.set_cons_succ]
  refine OrdE.takeK (i := 6) (oi := { dst := some 3, op := Go.Op.assign (Go.Operand.tmp 12), type := 34, pos := "law.go:35", after := #[{ on := 2, ground := Go.Ground.data }, { on := 5, ground := Go.Ground.chain }, { on := 0, ground := Go.Ground.phase }, { on := 1, ground := Go.Ground.phase }, { on := 2, ground := Go.Ground.phase }, { on := 3, ground := Go.Ground.textOnly Go.Departure.lateStores }, { on := 4, ground := Go.Ground.textOnly Go.Departure.lateStores }, { on := 5, ground := Go.Ground.textOnly Go.Departure.lateStoresUnsure }], guard := none }) (v := (.int .i64 0)) rfl (by kernel_rfl) (by kernel_rfl) (by kernel_rfl) (by kernel_rfl) (fun _ _ _ h => h) (by rfl) ?_ (keyH_look HO.out) ?_
  · intro w hS; have hx0 := hS; go_simp
  try simp only [Act.put, List.setIfInBounds_toArray, List.set_cons_zero, List.set_cons_succ]
  refine OrdE.takeK (i := 7) (oi := { dst := some 4, op := Go.Op.assign (Go.Operand.tmp 15), type := 34, pos := "law.go:35", after := #[{ on := 5, ground := Go.Ground.data }, { on := 6, ground := Go.Ground.chain }, { on := 0, ground := Go.Ground.phase }, { on := 1, ground := Go.Ground.phase }, { on := 2, ground := Go.Ground.phase }, { on := 3, ground := Go.Ground.phase }, { on := 4, ground := Go.Ground.phase }, { on := 5, ground := Go.Ground.phase }, { on := 6, ground := Go.Ground.phase }], guard := none }) (v := (.int .i64 0)) rfl (by kernel_rfl) (by kernel_rfl) (by kernel_rfl) (by kernel_rfl) (fun _ _ _ h => h) (by rfl) ?_ (keyH_look HO.out) ?_
  · intro w hS; have hx0 := hS; go_simp
  try simp only [Act.put, List.setIfInBounds_toArray, List.set_cons_zero, List.set_cons_succ]
  refine OrdE.doneE (by kernel_rfl) ?_ _
  skip
  have hkk := keyH_look HO.out
  go_wp2_with (first | (refine wpList_load_keyG kk1 g hkk (by rfl) (.tmp 2) rfl rfl ?_) | fail)
  refine (Probe_own HO.out.swap).mono ?_
  rintro e w7 ⟨v, rfl, ho⟩
  rw [kn3] at ho
  obtain ⟨A, c, rfl, hlc, hC⟩ := rowC_own ho
  obtain ⟨ad, rfl, -, h9, -, -⟩ := C_four hC (by decide) 0 e9 rfl
  rw [Nat.zero_mul, Addr.add_zero'] at h9
  have HO := Aside0.mk ho.rest.swap
  clear ho hC hkk
  have hlc2 : (2 : Nat) ≤ c := hlc
  rw [show ([e9, e5] : List S55).length = 2 from rfl]
  rw [show e9.f1 = 9 from rfl] at h9
  have hkk := keyH_look HO.out
  go_wp2_with (first | (refine wpList_load_keyG kk1 g hkk (by rfl) (.tmp 2) rfl rfl ?_) | fail)
  refine (Bucket_own HO.out.swap).mono ?_
  rintro e w8 ⟨rfl, ho⟩
  rw [kn4]
  have HO := Aside0.mk ho.swap
  clear ho hkk h9
  have hkk := keyH_look HO.out
  go_wp2_with (first | (refine wpList_load_keyG kk1 g hkk (by rfl) (.tmp 2) rfl rfl ?_) | fail)
  refine (Tag_own HO.out).mono ?_
  rintro e w9 ⟨rfl, ho⟩
  rw [kn_tag]
  have HO := Aside0.mk ho
  clear ho hkk
  have hkk := keyH_look HO.out
  go_wp2_with (first | (refine wpList_load_keyG kk1 g hkk (by rfl) (.tmp 2) rfl rfl ?_) | fail)
  refine (Len_own HO.out.swap).mono ?_
  rintro e w10 ⟨rfl, ho⟩
  rw [kn5]
  have HO := Aside0.mk ho.swap
  clear ho hkk
  have hkk := keyH_look HO.out
  go_wp2_with (first | (refine wpList_load_keyG kk1 g hkk (by rfl) (.tmp 2) rfl rfl ?_) | fail)
  refine (Delete_own HO.out.swap 5).mono ?_
  rintro e w11 ⟨rfl, ho⟩
  rw [kn6] at ho ⊢
  have HO := Aside0.mk ho.swap
  clear ho hkk
  have hkk := keyH_look HO.out
  go_wp2_with (first | (refine wpList_load_keyG kk1 g hkk (by rfl) (.tmp 2) rfl rfl ?_) | fail)
  refine (Purge_own HO.out.swap 9 10 3 (by omega) (by omega)).mono ?_
  rintro e w12 ⟨rfl, ho⟩
  rw [kn7]
  rw [kn8] at ho
  have HO := Aside0.mk ho.swap
  clear ho hkk
  have hkk := keyH_look HO.out
  go_wp2_with (first | (refine wpList_load_keyG kk1 g hkk (by rfl) (.tmp 2) rfl rfl ?_) | fail)
  refine (Len_own HO.out.swap).mono ?_
  rintro e w13 ⟨rfl, ho⟩
  rw [kn9]
  have HO := Aside0.mk ho.swap
  clear ho hkk
  go_wp2_with (first | (refine wpList_load_keyG kk1 g (keyH_look HO.out) (by rfl) (.tmp 2) rfl rfl ?_) | fail)
  go_ret
  exact ⟨rfl, HO.out.below⟩
end Go.Proofs.Ytafpaomcmjccaaa.Dir
