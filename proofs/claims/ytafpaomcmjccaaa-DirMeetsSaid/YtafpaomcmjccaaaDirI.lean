/- An entry is put in. -/
import Derived.Test.YtafpaomcmjccaaaDirA
import Derived.Test.YtafpaomcmjccaaaOrdE
set_option linter.unusedVariables false
set_option linter.unusedSimpArgs false
namespace Go.Proofs.Ytafpaomcmjccaaa.Dir
open Go.RowKit Go.Proofs.Ytafpaomcmjccaaa.G Go.Proofs.YtafpaomcmjccaaaW.PrintWords Go.Proofs.YtafpaomcmjccaaaW.PrintMore Go.Proofs.Ytafpaomcmjccaaa.Foot

/-- A key's bucket. -/
def Di.at_ (D : Di) (k : Key) : Nat := (k.num % (D.L.length : Int)).toNat
def Di.of (D : Di) (k : Key) : List S55 := D.L.getD (D.at_ k) []
theorem Di.Ok.at_lt {D : Di} (h : D.Ok) (k : Key) : D.at_ k < D.L.length := by
  have h1 := h.b1
  have := Int.emod_lt_of_pos k.num (show (0 : Int) < (D.L.length : Int) by omega)
  have := Int.emod_nonneg k.num (show (D.L.length : Int) ≠ 0 by omega)
  unfold Di.at_
  omega
theorem Di.Ok.at_eq {D : Di} (h : D.Ok) (k : Key) : (k.num % (D.L.length : Int)) = (D.at_ k : Int) := by
  have h1 := h.b1
  have := Int.emod_nonneg k.num (show (D.L.length : Int) ≠ 0 by omega)
  unfold Di.at_
  omega
theorem Di.Ok.of_eq {D : Di} (h : D.Ok) (k : Key) : D.L[D.at_ k]? = some (D.of k) := by
  unfold Di.of
  rw [List.getD_eq_getElem?_getD, List.getElem?_eq_getElem (h.at_lt k)]
  rfl
def Di.ins (D : Di) (k : Key) (x : S55) : Int × Di :=
  if x.f2 = 0 ∨ 9223372036854775808 ≤ x.f3 then (40, D) else if (D.of k).length = D.s then (50, D) else (0, layD D (D.at_ k) (D.of k ++ [x]))
theorem wpList_load_key {ops : Array Oper} {rest : List Oper} {o : Oper} {a : Act} {w : World} {Q : Exit → Act → World → Prop} (k : Key) (g : Nat) (h : w.heap[g]? = some (.cells k.cells 23 (0, 0))) (hgd : o.guard = none) (x : Operand) (ho : o.op = .load 23 x)
    (hx : a.eval x = .pointer (some ⟨g, 0, none⟩)) (hw : wpList Try.prog ops Q rest (a.put o.dst (.agg k.cells)) w) : wpList Try.prog ops Q (o :: rest) a w :=
  wpList_load_row hgd 23 x ho g hx 23 k.cells (0, 0) _ h Try.underlying23 rfl (by rw [k.size]; kernel_rfl) hw
theorem exec_load_key {o : Oper} {a : Act} {w : World} (k : Key) (g : Nat) (h : w.heap[g]? = some (.cells k.cells 23 (0, 0))) (x : Operand) (ho : o.op = .load 23 x) (hx : a.eval x = .pointer (some ⟨g, 0, none⟩)) : (execOp a.eval o).run Try.prog w = .ok (.value (.agg k.cells)) w := by
  unfold execOp
  simp only [ho, hx, Sem.run_bind, load_key k w g h, Result.andThen_ok, Sem.run_pure]
/-- A free place behind a bucket's entries is written. -/
theorem DirAt.spare {w : World} {p q r : Nat} {D : Di} {M : List S55} (h : DirAt w p q r D M) {i : Nat} {b : List S55} (hb : D.L[i]? = some b) (hl : b.length < D.s) (x : S55) :
    DirAt (w.setRow q (dE.flat (Fl.laid M (i * D.s + b.length) [x])).toArray) p q r D (Fl.laid M (i * D.s + b.length) [x]) ∧ dE.C (w.setRow q (dE.flat (Fl.laid M (i * D.s + b.length) [x])).toArray) (some ⟨q, i * D.s * dE.sz, none⟩) (b ++ [x]) := by
  have hi : i < D.L.length := (List.getElem?_eq_some_iff.1 hb).1
  have hpl := h.ok.place hi
  have hlen := h.len
  rw [Fl.laid_one M _ x (by omega)]
  have hB : dE.Blk 55 (w.setRow q (dE.flat (M.set (i * D.s + b.length) x)).toArray) q (M.set (i * D.s + b.length) x) := Fl.Blk_set (d := dE) (M := M) h.ents _
  constructor
  · refine { box := (setRow_other _ _ _ _ h.pq).trans h.box, ents := hB, nums := (setRow_other _ _ _ _ (Ne.symm h.qr)).trans h.nums, pq := h.pq, pr := h.pr, qr := h.qr, len := by rw [List.length_set]; exact h.len, parts := fun j c hc => ?_, ok := h.ok }
    have hj : j < D.L.length := (List.getElem?_eq_some_iff.1 hc).1
    have hjl := h.ok.place hj
    have hcl := h.ok.fit c (List.mem_of_getElem? hc)
    have hp := h.parts j c hc
    rw [List.drop_set]
    split
    · exact hp
    · rename_i hlt
      rw [List.take_set, List.set_eq_of_length_le]
      · exact hp
      · rw [List.length_take]
        by_cases hij : j = i
        · subst hij
          rw [hb] at hc
          injection hc with hc
          subst hc
          omega
        · have h2 : j < i := by
            rcases Nat.lt_or_ge j i with h3 | h3
            · exact h3
            · have : i * D.s + D.s ≤ j * D.s := by rw [← Nat.succ_mul]; exact Nat.mul_le_mul_right _ (by omega)
              omega
          have : j * D.s + D.s ≤ i * D.s := by rw [← Nat.succ_mul]; exact Nat.mul_le_mul_right _ h2
          omega
  · have := Fl.C_blk hB (i * D.s) (b.length + 1) (by rw [List.length_set]; omega)
    have e : ((M.set (i * D.s + b.length) x).drop (i * D.s)).take (b.length + 1) = b ++ [x] := by
      rw [List.drop_set, if_neg (by omega), Nat.add_sub_cancel_left, List.take_set, List.take_add_one, h.parts i b hb, List.getElem?_drop, List.getElem?_eq_getElem (by omega)]
      simp
    rw [e] at this
    exact this
/-- What a method that writes leaves. -/
def DirPost (p q r : Nat) (D : Di) (v : Value) (w : World) (e : Ending) (w' : World) : Prop := e = .returned v ∧ (∃ M, DirAt w' p q r D M) ∧ Keeps (fun k => k = q ∨ k = r) w w'
section
variable {w : World} {p q r : Nat} {D : Di} {M : List S55} {k : Key} {a f2 f3 : Int}
set_option maxHeartbeats 2000000 in
theorem Insert_bad (h : DirAt w p q r D M) (hbad : f2 = 0 ∨ 9223372036854775808 ≤ f3) :
    Calls Try.prog 17 #[.pointer (some ⟨p, 0, none⟩), .agg k.cells, .int .u32 a, .int .u16 f2, .int .u64 f3] w (DirPost p q r D (.int .i64 40) w) := by
  have HH := Aside0.mk h
  clear h
  by_cases h0 : f2 = 0
  · subst h0
    clear hbad
    go_enter Try.func17, Try.ntmps17
    go_wp2
    go_ret
    exact ⟨rfl, ⟨_, HH.out.below (below_alloc (Below.refl _ _) _)⟩, (Keeps.refl _ _).alloc _⟩
  · have h1 : 9223372036854775808 ≤ f3 := by omega
    have h2 : (f2 == 0) = false := by simpa using h0
    clear hbad h0
    go_enter Try.func17, Try.ntmps17
    go_wp2
    go_ret
    exact ⟨rfl, ⟨_, HH.out.below (below_alloc (Below.refl _ _) _)⟩, (Keeps.refl _ _).alloc _⟩
set_option maxHeartbeats 2000000 in
theorem Insert_full (h : DirAt w p q r D M) (h0 : ¬ f2 = 0) (h1 : ¬ 9223372036854775808 ≤ f3) (hf : (D.of k).length = D.s) :
    Calls Try.prog 17 #[.pointer (some ⟨p, 0, none⟩), .agg k.cells, .int .u32 a, .int .u16 f2, .int .u64 f3] w (DirPost p q r D (.int .i64 50) w) := by
  have HH := Aside0.mk h
  have h2 : (f2 == 0) = false := by simpa using h0
  have h3 : decide (9223372036854775808 ≤ f3) = false := decide_eq_false h1
  have hb := blk_new w (.cells k.cells 23)
  have hld := load_key k _ _ hb
  have HA := Aside0.mk (h.below (below_alloc (Below.refl _ _) (.cells k.cells 23)))
  have hi := h.ok.at_lt k
  have hie := h.ok.at_eq k
  have hoe := h.ok.of_eq k
  have hb2 := h.ok.b2
  have HF := Lib.hid hf
  have HKB := Aside0.mk hb
  have HK1 := Aside0.mk ((Keeps.refl (fun k => k = q ∨ k = r) w).alloc (.cells k.cells 23))
  clear h h0 h1 hb hf hld
  go_enter Try.func17, Try.ntmps17
  go_wp2_with (first | (refine wpList_load_key k _ HKB.out rfl (.tmp 6) rfl rfl ?_) | fail)
  with_reducible refine (Bucket_calls k _ p D.L.length _ _ HA.out.c2 HA.out.ok.b1 HA.out.ok.b2).mono ?_
  rintro e w1 ⟨rfl, hB⟩
  rw [hie]
  have HD := Aside0.mk (HA.out.below hB)
  have c0 := HD.out.c0
  have c2 := HD.out.c2
  have c3 := HD.out.num hoe
  rw [HF.out] at c3
  generalize D.at_ k = i at hi c3 ⊢
  generalize D.L.length = B at hi hb2 c2 ⊢
  have hi0 : (0 : Int) ≤ (i : Int) := by omega
  have hi1 : (i : Int) < (B : Int) := by omega
  have HK2 := Aside0.mk (HK1.out.then_below hB)
  clear hie hoe hB
  go_wp2_with fail
  go_quiet (fail)
  go_wp2
  go_ret
  exact ⟨rfl, ⟨_, HD.out.below (pw_below_drewN (Below.refl _ _) _)⟩, HK2.out.drewN _⟩
set_option maxHeartbeats 4000000 in
set_option maxRecDepth 100000 in
theorem Insert_ok (h : DirAt w p q r D M) (h0 : ¬ f2 = 0) (h1 : ¬ 9223372036854775808 ≤ f3) (hf : ¬ (D.of k).length = D.s) (hok : OkE ⟨k.tag, a, f2, f3⟩) :
    Calls Try.prog 17 #[.pointer (some ⟨p, 0, none⟩), .agg k.cells, .int .u32 a, .int .u16 f2, .int .u64 f3] w (DirPost p q r (layD D (D.at_ k) (D.of k ++ [⟨k.tag, a, f2, f3⟩])) (.int .i64 0) w) := by
  have HH := Aside0.mk h
  have h2 : (f2 == 0) = false := by simpa using h0
  have h3 : decide (9223372036854775808 ≤ f3) = false := decide_eq_false h1
  have hb := blk_new w (.cells k.cells 23)
  have hld := load_key k _ _ hb
  have HA := Aside0.mk (h.below (below_alloc (Below.refl _ _) (.cells k.cells 23)))
  have hi := h.ok.at_lt k
  have hie := h.ok.at_eq k
  have hoe := h.ok.of_eq k
  have hb2 := h.ok.b2
  have hle := h.ok.fit _ (List.mem_of_getElem? hoe)
  have hs2 := h.ok.s2
  have HOE := Lib.hid hoe
  have HOK := Lib.hid (show ∀ x ∈ D.of k ++ [⟨k.tag, a, f2, f3⟩], OkE x from fun x hx => by
    rcases List.mem_append.1 hx with hx | hx
    · exact h.ok.ok _ (List.mem_of_getElem? hoe) x hx
    · rw [List.mem_singleton.1 hx]; exact hok)
  have HKB := Aside0.mk hb
  have HK1 := Aside0.mk ((Keeps.refl (fun k => k = q ∨ k = r) w).alloc (.cells k.cells 23))
  clear h h0 h1 hb hok hld
  go_enter Try.func17, Try.ntmps17
  go_wp2_with (first | (refine wpList_load_key k _ HKB.out rfl (.tmp 6) rfl rfl ?_) | fail)
  with_reducible refine (Bucket_calls k _ p D.L.length _ _ HA.out.c2 HA.out.ok.b1 HA.out.ok.b2).mono ?_
  rintro e w1 ⟨rfl, hB⟩
  rw [hie]
  have HD := Aside0.mk (HA.out.below hB)
  have c0 := HD.out.c0
  have c2 := HD.out.c2
  have c3 := HD.out.num hoe
  have hkb := blk_below HKB.out hB
  have hld := load_key k _ _ hkb
  have HKB := Aside0.mk hkb
  have HK2 := Aside0.mk (HK1.out.then_below hB)
  obtain ⟨i, hiq⟩ : ∃ i, D.at_ k = i := ⟨_, rfl⟩
  rw [hiq] at hi c3 HOE ⊢
  have HIQ := Lib.hid hiq
  have HI := Lib.hid hi
  obtain ⟨b, hbq⟩ : ∃ b, D.of k = b := ⟨_, rfl⟩
  have HBQ := Lib.hid hbq
  rw [hbq] at hf hle c3 HOE HOK
  obtain ⟨n, hn⟩ : ∃ n, b.length = n := ⟨_, rfl⟩
  have HN := Lib.hid hn
  rw [hn] at hf hle c3
  obtain ⟨s, hs⟩ : ∃ s, D.s = s := ⟨_, rfl⟩
  have HS := Lib.hid hs
  rw [hs] at hf hle hs2 c0
  generalize D.L.length = B at hi hb2 c2 ⊢
  have hi0 : (0 : Int) ≤ (i : Int) := by omega
  have hi1 : (i : Int) < (B : Int) := by omega
  have hns : ((n : Int) == (s : Int)) = false := by rw [beq_eq_false_iff_ne]; omega
  clear hie hoe hB hbq hn hs HA HK1 hiq
  go_wp2_with fail
  go_quiet (fail)
  have HD := Aside0.mk (HD.out.below (pw_below_drewN (Below.refl _ _) nq))
  have HK2 := Aside0.mk (HK2.out.drewN nq)
  have HKB := Aside0.mk (show (w1.drewN nq).heap[w.heap.size]? = some (.cells k.cells 23 (0, 0)) from HKB.out)
  generalize w1.drewN nq = w2 at HD HK2 HKB ⊢
  generalize w.heap.size = g at HKB ⊢
  have hgq : g ≠ q := blk_ne HKB.out HD.out.ents (by decide)
  have hgr : g ≠ r := blk_ne HKB.out HD.out.nums (by decide)
  clear hld hkb c0 c2 c3
  go_wp2_with fail
  refine OrdE.beginS (fun w' => w'.heap[g]? = some (.cells k.cells 23 (0, 0))) (fun _ => true) (by kernel_rfl) ?_
  have HD := Aside0.mk (HD.out.below (below_drew (Below.refl _ _)))
  have HK2 := Aside0.mk HK2.out.drew
  have HKB := Aside0.mk (show w2.drew.heap[g]? = some (.cells k.cells 23 (0, 0)) from HKB.out)
  generalize w2.drew = w3 at HD HK2 HKB ⊢
  --REGION
  refine OrdE.takeK (i := 0) (oi := { dst := some 33, op := Go.Op.move (Go.Operand.tmp 0), type := 28, pos := "dir.go:62", after := #[], guard := none }) (v := (.pointer (some ⟨p, 0, none⟩))) rfl (by kernel_rfl) (by kernel_rfl) (by kernel_rfl) (by kernel_rfl) (fun _ _ _ h => h) (by rfl) ?_ (HKB.out) ?_
  · intro w hS; have hx0 := hS; go_simp
  try simp only [Act.put, List.setIfInBounds_toArray, List.set_cons_zero, List.set_cons_succ]
  refine OrdE.takeK (i := 1) (oi := { dst := some 34, op := Go.Op.move (Go.Operand.tmp 11), type := 3, pos := "dir.go:62", after := #[], guard := none }) (v := (.int .i64 (i : Int))) rfl (by kernel_rfl) (by kernel_rfl) (by kernel_rfl) (by kernel_rfl) (fun _ _ _ h => h) (by rfl) ?_ (HKB.out) ?_
  · intro w hS; have hx0 := hS; go_simp
  try simp only [Act.put, List.setIfInBounds_toArray, List.set_cons_zero, List.set_cons_succ]
  refine OrdE.takeK (i := 2) (oi := { dst := some 35, op := Go.Op.move (Go.Operand.tmp 0), type := 28, pos := "dir.go:62", after := #[], guard := none }) (v := (.pointer (some ⟨p, 0, none⟩))) rfl (by kernel_rfl) (by kernel_rfl) (by kernel_rfl) (by kernel_rfl) (fun _ _ _ h => h) (by rfl) ?_ (HKB.out) ?_
  · intro w hS; have hx0 := hS; go_simp
  try simp only [Act.put, List.setIfInBounds_toArray, List.set_cons_zero, List.set_cons_succ]
  refine OrdE.takeK (i := 3) (oi := { dst := some 36, op := Go.Op.move (Go.Operand.tmp 11), type := 3, pos := "dir.go:62", after := #[], guard := none }) (v := (.int .i64 (i : Int))) rfl (by kernel_rfl) (by kernel_rfl) (by kernel_rfl) (by kernel_rfl) (fun _ _ _ h => h) (by rfl) ?_ (HKB.out) ?_
  · intro w hS; have hx0 := hS; go_simp
  try simp only [Act.put, List.setIfInBounds_toArray, List.set_cons_zero, List.set_cons_succ]
  refine OrdE.takeK (i := 5) (oi := { dst := some 38, op := Go.Op.load 23 (Go.Operand.tmp 6), type := 23, pos := "dir.go:62", after := #[], guard := none }) (v := (.agg k.cells)) rfl (by kernel_rfl) (by kernel_rfl) (by kernel_rfl) (by kernel_rfl) (fun _ _ _ h => h) (by rfl) ?_ (HKB.out) ?_
  · intro w hS; have hx0 := hS; exact exec_load_key k g hx0 (.tmp 6) rfl rfl
  try simp only [Act.put, List.setIfInBounds_toArray, List.set_cons_zero, List.set_cons_succ]
  refine OrdE.takeK (i := 7) (oi := { dst := some 40, op := Go.Op.move (Go.Operand.tmp 2), type := 37, pos := "dir.go:62", after := #[], guard := none }) (v := (.int .u32 a)) rfl (by kernel_rfl) (by kernel_rfl) (by kernel_rfl) (by kernel_rfl) (fun _ _ _ h => h) (by rfl) ?_ (HKB.out) ?_
  · intro w hS; have hx0 := hS; go_simp
  try simp only [Act.put, List.setIfInBounds_toArray, List.set_cons_zero, List.set_cons_succ]
  refine OrdE.takeK (i := 8) (oi := { dst := some 41, op := Go.Op.move (Go.Operand.tmp 3), type := 26, pos := "dir.go:62", after := #[], guard := none }) (v := (.int .u16 f2)) rfl (by kernel_rfl) (by kernel_rfl) (by kernel_rfl) (by kernel_rfl) (fun _ _ _ h => h) (by rfl) ?_ (HKB.out) ?_
  · intro w hS; have hx0 := hS; go_simp
  try simp only [Act.put, List.setIfInBounds_toArray, List.set_cons_zero, List.set_cons_succ]
  refine OrdE.takeK (i := 9) (oi := { dst := some 42, op := Go.Op.move (Go.Operand.tmp 4), type := 38, pos := "dir.go:62", after := #[], guard := none }) (v := (.int .u64 f3)) rfl (by kernel_rfl) (by kernel_rfl) (by kernel_rfl) (by kernel_rfl) (fun _ _ _ h => h) (by rfl) ?_ (HKB.out) ?_
  · intro w hS; have hx0 := hS; go_simp
  try simp only [Act.put, List.setIfInBounds_toArray, List.set_cons_zero, List.set_cons_succ]
  refine OrdE.oneE (i := 4) (o := { dst := some 37, op := Go.Op.call { callee := Go.Callee.value (Go.Operand.func 38), args := #[Go.Operand.tmp 35, Go.Operand.tmp 36], argTypes := #[28, 3] }, type := 45, pos := "dir.go:62", after := #[{ on := 2, ground := Go.Ground.data }, { on := 3, ground := Go.Ground.data }], guard := none }) (by kernel_rfl) rfl (fun K hK => ?_)
  go_simp
  with_reducible refine (bucket_calls _ p q r D M HD.out i b HOE.out).mono ?_
  rintro e w4 ⟨rfl, hB⟩
  have HD4 := Aside0.mk (HD.out.below hB)
  have HK4 := Aside0.mk (HK2.out.then_below hB)
  have HKB4 := Aside0.mk (blk_below HKB.out hB)
  clear hB
  try simp only [Result.andThen]
  refine hK.out _ _ (fun _ => HKB4.out) ?_
  clear hK K
  try simp only [Act.put, List.setIfInBounds_toArray, List.set_cons_zero, List.set_cons_succ]
  refine OrdE.oneE (i := 6) (o := { dst := some 39, op := Go.Op.call { callee := Go.Callee.value (Go.Operand.func 11), args := #[Go.Operand.tmp 38], argTypes := #[23] }, type := 26, pos := "dir.go:62", after := #[{ on := 5, ground := Go.Ground.data }, { on := 4, ground := Go.Ground.chain }], guard := none }) (by kernel_rfl) rfl (fun K hK => ?_)
  go_simp
  with_reducible refine (Tag_calls k _).mono ?_
  rintro e w5 ⟨rfl, hB⟩
  have HD5 := Aside0.mk (HD4.out.below hB)
  have HK5 := Aside0.mk (HK4.out.then_below hB)
  have HKB5 := Aside0.mk (blk_below HKB4.out hB)
  clear hB HD HD4 HK2 HK4 HKB HKB4
  refine hK.out _ _ (fun _ => HKB5.out) ?_
  clear hK K
  try simp only [Act.put, List.setIfInBounds_toArray, List.set_cons_zero, List.set_cons_succ]
  refine OrdE.takeK (i := 10) (oi := { dst := some 43, op := Go.Op.build 55 #[(0, Go.Operand.tmp 39), (1, Go.Operand.tmp 40), (2, Go.Operand.tmp 41), (3, Go.Operand.tmp 42)], type := 55, pos := "dir.go:62", after := #[{ on := 6, ground := Go.Ground.data }, { on := 7, ground := Go.Ground.data }, { on := 8, ground := Go.Ground.data }, { on := 9, ground := Go.Ground.data }], guard := none }) (v := (.agg #[.int .u16 k.tag, .int .u32 a, .int .u16 f2, .int .u64 f3])) rfl (by kernel_rfl) (by kernel_rfl) (by kernel_rfl) (by kernel_rfl) (fun _ _ _ h => h) (by rfl) ?_ (HKB5.out) ?_
  · intro w hS; have hx0 := hS; go_simp
  try simp only [Act.put, List.setIfInBounds_toArray, List.set_cons_zero, List.set_cons_succ]
  refine OrdE.oneE (i := 11) (o := { dst := some 44, op := Go.Op.buildSlice 45 1 #[(0, Go.Operand.tmp 43)], type := 45, pos := "dir.go:62", after := #[{ on := 10, ground := Go.Ground.data }], guard := none }) (by kernel_rfl) rfl (fun K hK => ?_)
  go_simp
  have HD6 := Aside0.mk (HD5.out.below (below_alloc (Below.refl _ _) (.cells #[.int .u16 k.tag, .int .u32 a, .int .u16 f2, .int .u64 f3] 55)))
  have HK6 := Aside0.mk (HK5.out.alloc (.cells #[.int .u16 k.tag, .int .u32 a, .int .u16 f2, .int .u64 f3] 55))
  have HKB6 := Aside0.mk (blk_alloc HKB5.out (.cells #[.int .u16 k.tag, .int .u32 a, .int .u16 f2, .int .u64 f3] 55))
  have HX := Aside0.mk (show dE.C (w5.alloc (.cells #[.int .u16 k.tag, .int .u32 a, .int .u16 f2, .int .u64 f3] 55)) (some ⟨w5.heap.size, 0, none⟩) [⟨k.tag, a, f2, f3⟩] from
    Fl.C_blk (d := dE) (M := [⟨k.tag, a, f2, f3⟩]) (e := 55) (blk_new w5 (.cells #[.int .u16 k.tag, .int .u32 a, .int .u16 f2, .int .u64 f3] 55)) 0 1 (Nat.le_refl _))
  generalize w5.heap.size = h5 at HX ⊢
  generalize w5.alloc (.cells #[.int .u16 k.tag, .int .u32 a, .int .u16 f2, .int .u64 f3] 55) = w6 at HD6 HK6 HKB6 HX ⊢
  refine hK.out _ _ (fun _ => HKB6.out) ?_
  clear hK K
  try simp only [Act.put, List.setIfInBounds_toArray, List.set_cons_zero, List.set_cons_succ]
  obtain ⟨i0, hi0', _, hsz, _⟩ := szE
  have hrun := Fl.run_append_room (P := Try.prog) (ty := 45) Try.underlying45 hi0' hsz (i * D.s) b.length D.s 1 1 (e' := 55) HD6.out.ents HX.out rfl (by rw [HN.out, HS.out]; omega) (by rw [HD6.out.len, HN.out]; have := HD6.out.ok.place HI.out; rw [HS.out] at this ⊢; omega)
  obtain ⟨hd7, hc7⟩ := HD6.out.spare HOE.out (by rw [HN.out, HS.out]; omega) ⟨k.tag, a, f2, f3⟩
  have hk7 : Keeps (fun k => k = q ∨ k = r) w (w6.setRow q (dE.flat (Fl.laid M (i * D.s + b.length) [⟨k.tag, a, f2, f3⟩])).toArray) := HK6.out.trans (G := fun k => k = q) ⟨rfl, rfl, rfl, by simp, fun k hk hn => setRow_other _ _ _ _ hn⟩ (fun k hk => .inl (.inl hk))
  have hkb7 := (setRow_other w6 q g (dE.flat (Fl.laid M (i * D.s + b.length) [⟨k.tag, a, f2, f3⟩])).toArray hgq).trans HKB6.out
  generalize w6.setRow q (dE.flat (Fl.laid M (i * D.s + b.length) [⟨k.tag, a, f2, f3⟩])).toArray = w7 at hrun hd7 hc7 hk7 hkb7
  generalize Fl.laid M (i * D.s + b.length) [⟨k.tag, a, f2, f3⟩] = M7 at hd7
  have HD7 := Aside0.mk hd7
  have HC7 := Aside0.mk hc7
  have HK7 := Aside0.mk hk7
  have HKB7 := Aside0.mk hkb7
  have HRUN := Lib.hid hrun
  clear hrun hd7 hc7 hk7 hkb7 HD5 HD6 HK5 HK6 HKB5 HKB6 HX
  refine OrdE.oneE (i := 12) (o := { dst := some 45, op := Go.Op.call { callee := Go.Callee.builtin Go.Builtin.append, args := #[Go.Operand.tmp 37, Go.Operand.tmp 44], argTypes := #[45, 45] }, type := 45, pos := "dir.go:62", after := #[{ on := 4, ground := Go.Ground.data }, { on := 11, ground := Go.Ground.data }, { on := 6, ground := Go.Ground.chain }], guard := none }) (by kernel_rfl) rfl (fun K hK => ?_)
  refine Fl.step_append_run rfl (.tmp 37) (.tmp 44) 45 45 rfl _ _ _ rfl rfl HRUN.out ?_
  refine hK.out _ _ (fun _ => HKB7.out) ?_
  clear hK K
  try simp only [Act.put, List.setIfInBounds_toArray, List.set_cons_zero, List.set_cons_succ]
  refine OrdE.oneE (i := 13) (o := { dst := some 46, op := Go.Op.call { callee := Go.Callee.value (Go.Operand.func 37), args := #[Go.Operand.tmp 33, Go.Operand.tmp 34, Go.Operand.tmp 45], argTypes := #[28, 3, 45] }, type := 0, pos := "dir.go:62", after := #[{ on := 0, ground := Go.Ground.data }, { on := 1, ground := Go.Ground.data }, { on := 12, ground := Go.Ground.data }, { on := 12, ground := Go.Ground.chain }], guard := none }) (by kernel_rfl) rfl (fun K hK => ?_)
  go_simp
  have hll : (b ++ [(⟨k.tag, a, f2, f3⟩ : S55)]).length = b.length + 1 := by rw [List.length_append]; rfl
  have hlay := lay_calls w7 p q r D M7 HD7.out i HI.out (some ⟨q, i * D.s * dE.sz, none⟩) D.s (b ++ [⟨k.tag, a, f2, f3⟩]) (K_of_C HC7.out (by rw [hll, HN.out]; omega)) (by rw [hll, HN.out, HS.out]; omega) HOK.out
  rw [hll] at hlay
  refine hlay.mono ?_
  rintro e w8 ⟨rfl, hd8, hk8⟩
  have HD8 := Aside0.mk hd8
  have HK8 := Aside0.mk (HK7.out.trans hk8 (fun k hk => .inl hk))
  have HKB8 := Aside0.mk (hk8.blk HKB7.out (fun e => e.elim hgq hgr))
  clear hd8 hk8 hlay hll
  refine hK.out _ _ (fun _ => HKB8.out) ?_
  clear hK K
  try simp only [Act.put, List.setIfInBounds_toArray, List.set_cons_zero, List.set_cons_succ]
  refine OrdE.doneE (by kernel_rfl) ?_ _
  go_wp2
  go_ret
  exact ⟨rfl, by rw [HIQ.out, HBQ.out]; exact HD8.out, HK8.out⟩
end
end Go.Proofs.Ytafpaomcmjccaaa.Dir
