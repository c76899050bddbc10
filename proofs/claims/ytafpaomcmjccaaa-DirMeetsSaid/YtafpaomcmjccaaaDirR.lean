/- The document's directory: what it is made of; a tag, a bucket, a new one. -/
import Derived.Test.YtafpaomcmjccaaaDirQ
import Derived.Test.YtafpaomcmjccaaaGx1
import Derived.Laws.MakeOwn
set_option linter.unusedVariables false
set_option linter.unusedSimpArgs false
namespace Go.Proofs.Ytafpaomcmjccaaa.Dir
open Go.RowKit Go.Proofs.Ytafpaomcmjccaaa.G Go.Proofs.YtafpaomcmjccaaaW.PrintWords Go.Proofs.YtafpaomcmjccaaaW.PrintMore Go.Proofs.Ytafpaomcmjccaaa.Foot
attribute [local go_sem] max2_int min2_int max_two min_two

theorem or64 (x b : Int) (h0 : 0 ≤ x) (h1 : x < 72057594037927936) (h2 : 0 ≤ b) (h3 : b ≤ 255) : bits .or .u64 (IntKind.u64.wrap (x * 256)) (IntKind.u64.wrap b) = x * 256 + b := by
  rw [IntKind.wrap_u64, IntKind.wrap_u64, Int.emod_eq_of_lt (by omega) (by omega), Int.emod_eq_of_lt (by omega) (by omega)]
  obtain ⟨A, rfl⟩ := Int.eq_ofNat_of_zero_le h0
  obtain ⟨B, rfl⟩ := Int.eq_ofNat_of_zero_le h2
  rw [show (A : Int) * 256 = ((A * 256 : Nat) : Int) by omega, u64_or_nat _ _ (by omega) (by omega), nat_join 8 _ _ (by omega) (by omega)]
  omega
theorem get_on (k : Nat) (xs : List Int) (x b : Int) (i : Nat) (h : xs[i]? = some b) (hb : 0 ≤ b ∧ b ≤ 255) (h0 : 0 ≤ x) (h1 : x < 72057594037927936) (hl : xs.length ≤ 1000000) : ambryref1_Get.l0 (k + 1) xs x (i : Int) = ambryref1_Get.l0 k xs (x * 256 + b) ((i + 1 : Nat) : Int) := by
  have hi := (List.getElem?_eq_some_iff.1 h).1
  have hrd : rd xs (i : Int) = b := by
    unfold rd
    rw [Int.toNat_natCast, List.getD_eq_getElem?_getD, h]
    rfl
  rw [ambryref1_Get.l0, if_pos (by omega), if_pos (by omega), hrd, or64 x b h0 h1 hb.1 hb.2]
  congr 1
  unfold wrap64
  omega
theorem get_end (k : Nat) (xs : List Int) (x : Int) : ambryref1_Get.l0 (k + 1) xs x (xs.length : Int) = some x := by
  rw [ambryref1_Get.l0, if_neg (by omega)]
theorem get_two (a b : Int) (ha : 0 ≤ a ∧ a ≤ 255) (hb : 0 ≤ b ∧ b ≤ 255) : ambryref1_Get.f 3 [a, b] = some (a * 256 + b) := by
  unfold ambryref1_Get.f
  have h1 := get_on 2 [a, b] 0 a 0 rfl ha (by omega) (by omega) (by show (_ : Nat) ≤ _; simp)
  have h2 := get_on 1 [a, b] (0 * 256 + a) b 1 rfl hb (by omega) (by omega) (by show (_ : Nat) ≤ _; simp)
  have h3 := get_end 0 [a, b] ((0 * 256 + a) * 256 + b)
  rw [show (0 : Int) * 256 + a = a by omega] at *
  exact (h1.trans h2).trans h3
theorem get_four (a b c d : Int) (ha : 0 ≤ a ∧ a ≤ 255) (hb : 0 ≤ b ∧ b ≤ 255) (hc : 0 ≤ c ∧ c ≤ 255) (hd : 0 ≤ d ∧ d ≤ 255) : ambryref1_Get.f 5 [a, b, c, d] = some (a * 16777216 + b * 65536 + c * 256 + d) := by
  unfold ambryref1_Get.f
  have h1 := get_on 4 [a, b, c, d] 0 a 0 rfl ha (by omega) (by omega) (by show (_ : Nat) ≤ _; simp)
  have h2 := get_on 3 [a, b, c, d] (0 * 256 + a) b 1 rfl hb (by omega) (by omega) (by show (_ : Nat) ≤ _; simp)
  have h3 := get_on 2 [a, b, c, d] ((0 * 256 + a) * 256 + b) c 2 rfl hc (by omega) (by omega) (by show (_ : Nat) ≤ _; simp)
  have h4 := get_on 1 [a, b, c, d] (((0 * 256 + a) * 256 + b) * 256 + c) d 3 rfl hd (by omega) (by omega) (by show (_ : Nat) ≤ _; simp)
  have h5 := get_end 0 [a, b, c, d] ((((0 * 256 + a) * 256 + b) * 256 + c) * 256 + d)
  have e : (((0 * 256 + a) * 256 + b) * 256 + c) * 256 + d = a * 16777216 + b * 65536 + c * 256 + d := by omega
  rw [e] at h4 h5
  exact (((h1.trans h2).trans h3).trans h4).trans h5
/-- Some bytes of a key. -/
theorem key_cut (k : Key) (w : World) (g i n : Nat) (hb : w.heap[g]? = some (.cells k.cells 23 (0, 0))) (hn : i + n ≤ 32) : Kd.C (Kd.int .u8) w (some ⟨g, i, none⟩) n ((k.c.drop i).take n) := by
  refine ⟨by rw [List.length_take, List.length_drop, k.len]; omega, by omega, fun _ => ⟨_, rfl, fun j p hp => ⟨[.int .u8 p], rfl, rfl, fun m u hu => ?_⟩⟩⟩
  have hm : m = 0 := by
    have := (List.getElem?_eq_some_iff.1 hu).1
    rw [List.length_singleton] at this
    omega
  subst hm
  cases hu
  have hj := (List.getElem?_eq_some_iff.1 hp).1
  rw [List.length_take, List.length_drop, k.len] at hj
  rw [List.getElem?_take, if_pos (by omega), List.getElem?_drop] at hp
  show w.cell? ((⟨g, i, none⟩ : Addr).add (j * 1 + 0)) = _
  rw [Addr.add_lit, blk_cell hb, Nat.mul_one, Nat.add_zero]
  unfold Key.cells
  rw [List.getElem?_toArray, List.getElem?_map, hp]
  rfl
theorem key_four (k : Key) : (k.c.drop 0).take 4 = [k.nth 0, k.nth 1, k.nth 2, k.nth 3] := by
  obtain ⟨c, hl, hr⟩ := k
  obtain ⟨a, b, d, e, r, rfl⟩ : ∃ a b d e r, c = a :: b :: d :: e :: r := by
    rcases c with _ | ⟨a, _ | ⟨b, _ | ⟨d, _ | ⟨e, r⟩⟩⟩⟩ <;> first | exact ⟨_, _, _, _, _, rfl⟩ | (simp at hl)
  rfl
theorem key_two (k : Key) : (k.c.drop 4).take 2 = [k.nth 4, k.nth 5] := by
  obtain ⟨c, hl, hr⟩ := k
  obtain ⟨a, b, d, e, f, g, r, rfl⟩ : ∃ a b d e f g r, c = a :: b :: d :: e :: f :: g :: r := by
    rcases c with _ | ⟨a, _ | ⟨b, _ | ⟨d, _ | ⟨e, _ | ⟨f, _ | ⟨g, r⟩⟩⟩⟩⟩⟩ <;> first | exact ⟨_, _, _, _, _, _, _, rfl⟩ | (simp at hl)
  rfl
set_option maxHeartbeats 1000000 in
theorem rTag_calls (k : Key) (w : World) : Calls Try.prog 12 #[.agg k.cells] w fun e w' => e = .returned (.int .u16 k.tag) ∧ Below w.heap.size w w' := by
  have hC := key_cut k (w.alloc (.cells k.cells 23)) w.heap.size 4 2 (blk_new w _) (by omega)
  rw [key_two] at hC
  have hg := get_two (k.nth 4) (k.nth 5) (k.nth_rng 4) (k.nth_rng 5)
  have HC := Lib.hid hC
  have HG := Lib.hid hg
  have hks := k.size
  have HB := Lib.hid (below_alloc (Below.refl _ _) (.cells k.cells 23) : Below w.heap.size w (w.alloc (.cells k.cells 23)))
  clear hC hg
  go_enter Try.func12, Try.ntmps12
  go_wp2_with fail
  refine (ambryref1_Get.calls 3 _ _ [k.nth 4, k.nth 5] _ _ HC.out (show (2 : Nat) ≤ 28 by decide) HG.out).mono ?_
  rintro e w2 ⟨rfl, hd⟩
  have HD := Lib.hid hd
  clear hd
  go_wp2_with fail
  obtain ⟨r4, q4⟩ := k.nth_rng 4
  obtain ⟨r5, q5⟩ := k.nth_rng 5
  rw [IntKind.wrap_u16, Int.emod_eq_of_lt (by omega) (by omega), and4095 _ (by omega) (by omega)]
  go_ret
  exact ⟨rfl, HB.out.trans (HD.out.below.mono (by rw [World.size_alloc]; omega))⟩
/-- The document's directory. -/
structure RefAt (w : World) (p q : Nat) (vs : List Value) (D : Di) : Prop where
  box : w.heap[p]? = some (.cells #[.slice (some ⟨q, 0, none⟩) vs.length vs.length, .int .i64 D.s] 72 (0, 0))
  row : w.heap[q]? = some (.cells vs.toArray 45 (0, 0))
  len : vs.length = D.L.length
  ok : D.Ok
theorem rnum_mod (n : Int) (B : Nat) (h0 : 0 ≤ n) (h1 : n < 4294967296) (hB : 1 ≤ B) (hB2 : B ≤ 4096) : IntKind.i64.wrap (n % (B : Int)) = n % (B : Int) ∧ wrap64 (n % (B : Int)) = n % (B : Int) ∧ n.tmod (B : Int) = n % (B : Int) ∧ IntKind.u64.wrap (B : Int) = (B : Int) := by
  have := Int.emod_nonneg n (show (B : Int) ≠ 0 by omega)
  have := Int.emod_lt_of_pos n (show (0 : Int) < (B : Int) by omega)
  generalize hx : n % (B : Int) = x at *
  rw [IntKind.wrap_i64, IntKind.wrap_u64]
  unfold wrap64
  exact ⟨by omega, by omega, by rw [Int.tmod_eq_emod_of_nonneg h0, hx], by omega⟩
set_option maxHeartbeats 1000000 in
theorem rBucket_calls (k : Key) (w : World) (p : Nat) (R : Option Addr) (B c : Nat) (hp : w.cell? ⟨p, 0, none⟩ = some (.slice R B c)) (hB : 1 ≤ B) (hB2 : B ≤ 4096) :
    Calls Try.prog 16 #[.pointer (some ⟨p, 0, none⟩), .agg k.cells] w fun e w' => e = .returned (.int .i64 (k.num % B)) ∧ Below w.heap.size w w' := by
  have hC := key_cut k (w.alloc (.cells k.cells 23)) w.heap.size 0 4 (blk_new w _) (by omega)
  rw [key_four] at hC
  have hg := get_four (k.nth 0) (k.nth 1) (k.nth 2) (k.nth 3) (k.nth_rng 0) (k.nth_rng 1) (k.nth_rng 2) (k.nth_rng 3)
  have hN : k.num = k.nth 0 * 16777216 + k.nth 1 * 65536 + k.nth 2 * 256 + k.nth 3 := rfl
  rw [← hN] at hg
  have hn := k.num_rng
  have hp' := pw_cell_below (below_alloc (Below.refl _ _) (.cells k.cells 23)) hp
  obtain ⟨hm1, hm2, hm3, hm4⟩ := rnum_mod k.num B hn.1 hn.2 hB hB2
  have hB0 : ¬ B = 0 := by omega
  have HC := Lib.hid hC
  have HG := Lib.hid hg
  have hks := k.size
  have HB := Lib.hid (below_alloc (Below.refl _ _) (.cells k.cells 23) : Below w.heap.size w (w.alloc (.cells k.cells 23)))
  clear hC hg hN
  generalize k.num = n at *
  go_enter Try.func16, Try.ntmps16
  go_upto_region 1 with (fail)
  generalize k.cells = cs at *
  --REGION
  refine OrdE.beginS (fun w' => w'.cell? ⟨p, 0, none⟩ = some (.slice R B c)) (fun _ => true) (by kernel_rfl) ?_
  have HC := Aside0.mk (Kd.C_below HC.out (below_drew (Below.refl _ _)))
  have hp' : (w.alloc (.cells cs 23)).drew.cell? ⟨p, 0, none⟩ = some (.slice R B c) := hp'
  have HB := Lib.hid (below_drew HB.out)
  generalize (w.alloc (.cells cs 23)).drew = w1 at HB HC hp' ⊢
  have HP := Lib.hid hp'
  clear hp'
  refine OrdE.takeK (i := 0) (oi := { dst := some 5, op := Go.Op.slice 23 (Go.Operand.tmp 3) none (some (Go.Operand.const (Go.Value.int Go.IntKind.i64 4))) none, type := 42, pos := "ambryref5.go:25", after := #[], guard := none }) (v := (.slice (some ⟨w.heap.size, 0, none⟩) 4 32)) rfl (by kernel_rfl) (by kernel_rfl) (by kernel_rfl) (by kernel_rfl) (fun _ _ _ h => h) (by rfl) ?_ (HP.out) ?_
  · intro w hS; have hx0 := hS; go_simp
  try simp only [Act.put, List.setIfInBounds_toArray, List.set_cons_zero, List.set_cons_succ]
  refine OrdE.takeK (i := 2) (oi := { dst := some 7, op := Go.Op.move (Go.Operand.tmp 0), type := 31, pos := "ambryref5.go:25", after := #[], guard := none }) (v := (.pointer (some ⟨p, 0, none⟩))) rfl (by kernel_rfl) (by kernel_rfl) (by kernel_rfl) (by kernel_rfl) (fun _ _ _ h => h) (by rfl) ?_ (HP.out) ?_
  · intro w hS; have hx0 := hS; go_simp
  try simp only [Act.put, List.setIfInBounds_toArray, List.set_cons_zero, List.set_cons_succ]
  refine OrdE.takeK (i := 3) (oi := { dst := some 8, op := Go.Op.nilCheck (Go.Operand.tmp 7), type := 0, pos := "ambryref5.go:25", after := #[{ on := 2, ground := Go.Ground.data }], guard := none }) (v := (.pointer (some ⟨p, 0, none⟩))) rfl (by kernel_rfl) (by kernel_rfl) (by kernel_rfl) (by kernel_rfl) (fun _ _ _ h => h) (by rfl) ?_ (HP.out) ?_
  · intro w hS; have hx0 := hS; go_simp
  try simp only [Act.put, List.setIfInBounds_toArray, List.set_cons_zero, List.set_cons_succ]
  refine OrdE.takeK (i := 4) (oi := { dst := some 9, op := Go.Op.fieldAddr 72 (Go.Operand.tmp 8) 0, type := 0, pos := "ambryref5.go:25", after := #[{ on := 3, ground := Go.Ground.data }], guard := none }) (v := (.pointer (some ⟨p, 0, none⟩))) rfl (by kernel_rfl) (by kernel_rfl) (by kernel_rfl) (by kernel_rfl) (fun _ _ _ h => h) (by rfl) ?_ (HP.out) ?_
  · intro w hS; have hx0 := hS; go_simp
  try simp only [Act.put, List.setIfInBounds_toArray, List.set_cons_zero, List.set_cons_succ]
  refine OrdE.takeK (i := 5) (oi := { dst := some 10, op := Go.Op.load 70 (Go.Operand.tmp 9), type := 70, pos := "ambryref5.go:25", after := #[{ on := 4, ground := Go.Ground.data }], guard := none }) (v := (.slice R B c)) rfl (by kernel_rfl) (by kernel_rfl) (by kernel_rfl) (by kernel_rfl) (fun _ _ _ h => h) (by rfl) ?_ (HP.out) ?_
  · intro w hS; have hx0 := hS; go_simp
  try simp only [Act.put, List.setIfInBounds_toArray, List.set_cons_zero, List.set_cons_succ]
  refine OrdE.takeK (i := 6) (oi := { dst := some 11, op := Go.Op.call { callee := Go.Callee.builtin Go.Builtin.len, args := #[Go.Operand.tmp 10], argTypes := #[70] }, type := 3, pos := "ambryref5.go:25", after := #[{ on := 5, ground := Go.Ground.data }], guard := none }) (v := (.int .i64 (B : Int))) rfl (by kernel_rfl) (by kernel_rfl) (by kernel_rfl) (by kernel_rfl) (fun _ _ _ h => h) (by rfl) ?_ (HP.out) ?_
  · intro w hS; have hx0 := hS; go_simp
  try simp only [Act.put, List.setIfInBounds_toArray, List.set_cons_zero, List.set_cons_succ]
  refine OrdE.takeK (i := 7) (oi := { dst := some 12, op := Go.Op.convert 3 38 (Go.Operand.tmp 11), type := 38, pos := "ambryref5.go:25", after := #[{ on := 6, ground := Go.Ground.data }], guard := none }) (v := (.int .u64 (B : Int))) rfl (by kernel_rfl) (by kernel_rfl) (by kernel_rfl) (by kernel_rfl) (fun _ _ _ h => h) (by rfl) ?_ (HP.out) ?_
  · intro w hS; have hx0 := hS; go_simp
  try simp only [Act.put, List.setIfInBounds_toArray, List.set_cons_zero, List.set_cons_succ]
  refine OrdE.oneE (i := 1) (o := { dst := some 6, op := Go.Op.call { callee := Go.Callee.value (Go.Operand.func 36), args := #[Go.Operand.tmp 5], argTypes := #[42] }, type := 38, pos := "ambryref5.go:25", after := #[{ on := 0, ground := Go.Ground.data }], guard := none }) (by kernel_rfl) rfl (fun K hK => ?_)
  go_simp
  refine (ambryref1_Get.calls 5 _ _ [k.nth 0, k.nth 1, k.nth 2, k.nth 3] _ _ HC.out (show (4 : Nat) ≤ 32 by decide) HG.out).mono ?_
  rintro e w2 ⟨rfl, hd⟩
  have HP2 := Lib.hid (pw_cell_below hd.below HP.out)
  have HB2 := Lib.hid (HB.out.trans (hd.below.mono HB.out.size))
  clear hd HB HP HC HG
  refine hK.out _ _ (fun _ => HP2.out) ?_
  clear hK K
  try simp only [Act.put, List.setIfInBounds_toArray, List.set_cons_zero, List.set_cons_succ]
  refine OrdE.takeK (i := 8) (oi := { dst := some 13, op := Go.Op.binOp Go.BinOp.rem 38 (Go.Operand.tmp 6) (Go.Operand.tmp 12) 38, type := 38, pos := "ambryref5.go:25", after := #[{ on := 1, ground := Go.Ground.data }, { on := 7, ground := Go.Ground.data }], guard := none }) (v := (.int .u64 (n % (B : Int)))) rfl (by kernel_rfl) (by kernel_rfl) (by kernel_rfl) (by kernel_rfl) (fun _ _ _ h => h) (by rfl) ?_ (HP2.out) ?_
  · intro w hS; have hx0 := hS; go_simp
  try simp only [Act.put, List.setIfInBounds_toArray, List.set_cons_zero, List.set_cons_succ]
  refine OrdE.takeK (i := 9) (oi := { dst := some 14, op := Go.Op.convert 38 3 (Go.Operand.tmp 13), type := 3, pos := "ambryref5.go:25", after := #[{ on := 8, ground := Go.Ground.data }], guard := none }) (v := (.int .i64 (n % (B : Int)))) rfl (by kernel_rfl) (by kernel_rfl) (by kernel_rfl) (by kernel_rfl) (fun _ _ _ h => h) (by rfl) ?_ (HP2.out) ?_
  · intro w hS; have hx0 := hS; go_simp
  try simp only [Act.put, List.setIfInBounds_toArray, List.set_cons_zero, List.set_cons_succ]
  refine OrdE.takeK (i := 10) (oi := { dst := some 4, op := Go.Op.assign (Go.Operand.tmp 14), type := 3, pos := "ambryref5.go:25", after := #[{ on := 9, ground := Go.Ground.data }, { on := 1, ground := Go.Ground.chain }, { on := 0, ground := Go.Ground.phase }, { on := 1, ground := Go.Ground.phase }, { on := 2, ground := Go.Ground.phase }, { on := 3, ground := Go.Ground.phase }, { on := 4, ground := Go.Ground.phase }, { on := 5, ground := Go.Ground.phase }, { on := 6, ground := Go.Ground.phase }, { on := 7, ground := Go.Ground.phase }, { on := 8, ground := Go.Ground.phase }, { on := 9, ground := Go.Ground.phase }], guard := none }) (v := (.int .i64 (n % (B : Int)))) rfl (by kernel_rfl) (by kernel_rfl) (by kernel_rfl) (by kernel_rfl) (fun _ _ _ h => h) (by rfl) ?_ (HP2.out) ?_
  · intro w hS; have hx0 := hS; go_simp
  try simp only [Act.put, List.setIfInBounds_toArray, List.set_cons_zero, List.set_cons_succ]
  refine OrdE.doneE (by kernel_rfl) ?_ _
  go_wp2_with fail
  go_ret
  exact ⟨rfl, HB2.out⟩
--END
end Go.Proofs.Ytafpaomcmjccaaa.Dir
