/- A reader: a list is read. -/
import Derived.Test.YthbapljhhglamaaCodeY
import Derived.Test.YthbapljhhglamaaOrdE
set_option linter.unusedVariables false
set_option linter.unusedSimpArgs false
namespace Go.Proofs.Ythbapljhhglamaa.Code
open Go.RowKit Go.Proofs.Ythbapljhhglamaa.G Go.Proofs.YthbapljhhglamaaW.PrintWords Go.Proofs.YthbapljhhglamaaW.PrintMore Go.Proofs.Ythbapljhhglamaa.Foot Go.Proofs.Ythbapljhhglamaa.CodeL Go.Proofs.Ythbapljhhglamaa.Leaf

def fieldOf (p : List Int × List Int) : S66 := ⟨strOfNums p.1, strOfNums p.2⟩
theorem text_yes (p : Nat) (xs b r : List Int) (W : World) (F : Nat → Prop) (hp : F p) (hF : ∀ k, F k → k < W.heap.size) (hR : Rdo W p xs F) (hl : xs.length ≤ 1000000000) (h : textD xs = some (b, r)) :
    Calls Try.prog 36 #[.pointer (some ⟨p, 0, none⟩)] W fun e w' => ∃ A c, e = .returned (.slice A b.length c) ∧ CS (Kd.int .u8) (fun k => k < W.heap.size) w' A b.length b ∧ Rdo w' p r F ∧ Keeps (fun k => k = p) W w' := by
  refine (text_calls p xs W F hp hF hR hl).mono ?_
  rintro e w' ⟨hk, hpost⟩
  rw [h] at hpost
  obtain ⟨v, rfl, hv, hr⟩ := hpost
  obtain ⟨A, c, rfl, _, hC⟩ := Kd.R_reads hv
  exact ⟨A, c, rfl, CS.of_R (Kd.R_bound hv) (fun k hk => by have := hk.2.1; omega), hr, hk⟩
theorem text_no (p : Nat) (xs : List Int) (W : World) (F : Nat → Prop) (hp : F p) (hF : ∀ k, F k → k < W.heap.size) (hR : Rdo W p xs F) (hl : xs.length ≤ 1000000000) (h : textD xs = none) :
    Calls Try.prog 36 #[.pointer (some ⟨p, 0, none⟩)] W fun e w' => e = .panicked [stop] ∧ (∃ r, Rdo w' p r F) ∧ Keeps (fun k => k = p) W w' := by
  refine (text_calls p xs W F hp hF hR hl).mono ?_
  rintro e w' ⟨hk, hpost⟩
  rw [h] at hpost
  exact ⟨hpost.1, hpost.2, hk⟩
/-- What stands in memory in the middle of a list's reading: the reader, its box, the list so far. -/
structure Mid (p a b B : Nat) (W : World) (F : Nat → Prop) (ys : List Int) (A : Option Addr) (c : Nat) (acc : List (S66)) (w : World) : Prop where
  rd : Rdo w p ys F
  box : w.heap[a]? = some (.cells #[.pointer (some ⟨p, 0, none⟩)] 32 (0, 0))
  lst : w.heap[b]? = some (.cells #[.slice A acc.length c] 48 (0, 0))
  row : Kd.R k66 66 w 0 (fun k => B ≤ k) (.slice A acc.length c) acc
  keeps : Keeps (fun k => k = p ∨ k = b) W w
theorem Mid.step {p a b B : Nat} {W w w' : World} {F : Nat → Prop} {ys zs : List Int} {A : Option Addr} {c : Nat} {acc : List (S66)} (h : Mid p a b B W F ys A c acc w) (hap : a ≠ p) (hbp : b ≠ p) (hpB : p < B) (hr : Rdo w' p zs F) (hk : Keeps (fun k => k = p) w w') : Mid p a b B W F zs A c acc w' :=
  ⟨hr, hk.blk h.box hap, hk.blk h.lst hbp, hk.R h.row (fun k hk => by omega), h.keeps.trans hk (fun k h => .inl (.inl h))⟩
theorem Mid.below {p a b B : Nat} {W w w' : World} {F : Nat → Prop} {ys : List Int} {A : Option Addr} {c : Nat} {acc : List (S66)} (h : Mid p a b B W F ys A c acc w) (hF : ∀ k, F k → k < w.heap.size) (hb : Below w.heap.size w w') : Mid p a b B W F ys A c acc w' :=
  ⟨h.rd.below hF hb, blk_below h.box hb, blk_below h.lst hb, Kd.R_below h.row hb, h.keeps.then_below hb⟩
theorem info_field : (Try.prog.info? 66).map (fun i => (i.zero, i.size, i.bytes)) = some (some (.agg #[.string ByteArray.empty, .string ByteArray.empty]), 2, 32) := by kernel_rfl
def RoundPost (K : World → Prop) (p a b B : Nat) (W : World) (F : Nat → Prop) (ys : List Int) (acc : List (S66)) : Prop := ∀ A c w, Mid p a b B W F ys A c acc w → K w
def regF : Code := .region 4 #[{ dst := some 17, op := Go.Op.load 48 (Go.Operand.tmp 1), type := 48, pos := "code.go:132", after := #[], guard := none }, { dst := some 18, op := Go.Op.load 32 (Go.Operand.tmp 0), type := 32, pos := "code.go:132", after := #[], guard := none }, { dst := some 19, op := Go.Op.call { callee := Go.Callee.value (Go.Operand.func 36), args := #[Go.Operand.tmp 18], argTypes := #[32] }, type := 22, pos := "code.go:132", after := #[{ on := 1, ground := Go.Ground.data }], guard := none }, { dst := some 20, op := Go.Op.convert 22 9 (Go.Operand.tmp 19), type := 9, pos := "code.go:132", after := #[{ on := 2, ground := Go.Ground.data }], guard := none }, { dst := some 21, op := Go.Op.load 32 (Go.Operand.tmp 0), type := 32, pos := "code.go:132", after := #[], guard := none }, { dst := some 22, op := Go.Op.call { callee := Go.Callee.value (Go.Operand.func 36), args := #[Go.Operand.tmp 21], argTypes := #[32] }, type := 22, pos := "code.go:132", after := #[{ on := 4, ground := Go.Ground.data }, { on := 2, ground := Go.Ground.chain }], guard := none }, { dst := some 23, op := Go.Op.convert 22 9 (Go.Operand.tmp 22), type := 9, pos := "code.go:132", after := #[{ on := 5, ground := Go.Ground.data }], guard := none }, { dst := some 24, op := Go.Op.build 66 #[(0, Go.Operand.tmp 20), (1, Go.Operand.tmp 23)], type := 66, pos := "code.go:132", after := #[{ on := 3, ground := Go.Ground.data }, { on := 6, ground := Go.Ground.data }], guard := none }, { dst := some 25, op := Go.Op.buildSlice 48 1 #[(0, Go.Operand.tmp 24)], type := 48, pos := "code.go:132", after := #[{ on := 7, ground := Go.Ground.data }], guard := none }, { dst := some 26, op := Go.Op.call { callee := Go.Callee.builtin Go.Builtin.append, args := #[Go.Operand.tmp 17, Go.Operand.tmp 25], argTypes := #[48, 48] }, type := 48, pos := "code.go:132", after := #[{ on := 0, ground := Go.Ground.data }, { on := 8, ground := Go.Ground.data }, { on := 5, ground := Go.Ground.chain }], guard := none }, { dst := none, op := Go.Op.store 48 (Go.Operand.tmp 1) (Go.Operand.tmp 26), type := 0, pos := "code.go:132", after := #[{ on := 9, ground := Go.Ground.data }, { on := 9, ground := Go.Ground.chain }, { on := 0, ground := Go.Ground.phase }, { on := 1, ground := Go.Ground.phase }, { on := 2, ground := Go.Ground.phase }, { on := 3, ground := Go.Ground.phase }, { on := 4, ground := Go.Ground.phase }, { on := 5, ground := Go.Ground.phase }, { on := 6, ground := Go.Ground.phase }, { on := 7, ground := Go.Ground.phase }, { on := 8, ground := Go.Ground.phase }, { on := 9, ground := Go.Ground.phase }], guard := none }] true
set_option maxHeartbeats 4000000 in
set_option maxRecDepth 100000 in
theorem round_yes (p a b B : Nat) (ys x1 r1 x2 r2 : List Int) (W wr : World) (F : Nat → Prop) (A : Option Addr) (c : Nat) (acc : List (S66)) (hp : F p) (hF : ∀ k, F k → k < W.heap.size) (hap : a ≠ p) (hbp : b ≠ p) (hab : a ≠ b) (hpB : p < B) (hFB : ∀ k, F k → k < B) (haB : a < B) (hbB : b < B) (hFb : ¬ F b) (hWB : W.heap.size ≤ B) (hBW : B ≤ wr.heap.size) (hl : ys.length ≤ 1000000000)
    (h1 : textD ys = some (x1, r1)) (h2 : textD r1 = some (x2, r2)) (hl1 : r1.length ≤ 1000000000) (hacc : acc.length ≤ 1000000000) (hM : Mid p a b B W F ys A c acc wr)
    (t2 t3 t4 t5 t6 t7 t8 t9 t10 t11 t12 t13 t14 t15 t16 t17 t18 t19 t20 t21 t22 t23 t24 t25 t26 t27 : Value) (Q : Exit → Act → World → Prop)
    (hP : ∀ (ch : List PanicEntry) (x y : Act) (w : World), x.defers = y.defers → Q (.panic ch) x w → Q (.panic ch) y w)
    (hQ : ∀ A' c' w' u17 u18 u19 u20 u21 u22 u23 u24 u25 u26, Mid p a b B W F r2 A' c' (acc ++ [fieldOf (x1, x2)]) w' → Q .normal ⟨#[.pointer (some ⟨a, 0, none⟩), .pointer (some ⟨b, 0, none⟩), t2, t3, t4, t5, t6, t7, t8, t9, t10, t11, t12, t13, t14, t15, t16, u17, u18, u19, u20, u21, u22, u23, u24, u25, u26, t27], []⟩ w') :
    regF.wp Try.prog Q ⟨#[.pointer (some ⟨a, 0, none⟩), .pointer (some ⟨b, 0, none⟩), t2, t3, t4, t5, t6, t7, t8, t9, t10, t11, t12, t13, t14, t15, t16, t17, t18, t19, t20, t21, t22, t23, t24, t25, t26, t27], []⟩ wr := by
  have HM := Lib.hid hM
  have HQ := Lib.hid hQ
  have HP := Lib.hid hP
  have HFW := Lib.hid (show ∀ k, F k → k < wr.heap.size from fun k hk => Nat.lt_of_lt_of_le (hF k hk) hM.keeps.size)
  clear hM hQ hP
  unfold regF
  refine OrdE.beginE (fun j => decide (j < 10)) (by kernel_rfl) ?_
  refine OrdE.takeE (fun w' => w'.cell? ⟨b, 0, none⟩ = some (.slice A acc.length c)) (i := 0) (oi := { dst := some 17, op := Go.Op.load 48 (Go.Operand.tmp 1), type := 48, pos := "code.go:132", after := #[], guard := none }) (v := .slice A acc.length c) rfl (by kernel_rfl) (by kernel_rfl) (by kernel_rfl) (by kernel_rfl) (fun c x w h => HP.out c _ x w (by rfl) h) (by rfl) ?_ trivial (blk_cell HM.out.lst 0) ?_
  · intro w hS; have h1 : w.cell? ⟨b, 0, none⟩ = some (.slice A acc.length c) := hS.2; clear hS; go_simp
  try simp only [Act.put, List.setIfInBounds_toArray, List.set_cons_zero, List.set_cons_succ]
  refine OrdE.takeE (fun w' => w'.cell? ⟨a, 0, none⟩ = some (.pointer (some ⟨p, 0, none⟩))) (i := 1) (oi := { dst := some 18, op := Go.Op.load 32 (Go.Operand.tmp 0), type := 32, pos := "code.go:132", after := #[], guard := none }) (v := .pointer (some ⟨p, 0, none⟩)) rfl (by kernel_rfl) (by kernel_rfl) (by kernel_rfl) (by kernel_rfl) (fun c x w h => HP.out c _ x w (by rfl) h) (by rfl) ?_ ⟨trivial, blk_cell HM.out.lst 0⟩ (blk_cell HM.out.box 0) ?_
  · intro w hS; have h1 : w.cell? ⟨a, 0, none⟩ = some (.pointer (some ⟨p, 0, none⟩)) := hS.2; clear hS; go_simp
  try simp only [Act.put, List.setIfInBounds_toArray, List.set_cons_zero, List.set_cons_succ]
  refine OrdE.takeE (fun _ => True) (i := 4) (oi := { dst := some 21, op := Go.Op.load 32 (Go.Operand.tmp 0), type := 32, pos := "code.go:132", after := #[], guard := none }) (v := .pointer (some ⟨p, 0, none⟩)) rfl (by kernel_rfl) (by kernel_rfl) (by kernel_rfl) (by kernel_rfl) (fun c x w h => HP.out c _ x w (by rfl) h) (by rfl) ?_ ⟨⟨trivial, blk_cell HM.out.lst 0⟩, blk_cell HM.out.box 0⟩ trivial ?_
  · intro w hS; have h1 : w.cell? ⟨a, 0, none⟩ = some (.pointer (some ⟨p, 0, none⟩)) := hS.1.2; clear hS; go_simp
  try simp only [Act.put, List.setIfInBounds_toArray, List.set_cons_zero, List.set_cons_succ]
  refine OrdE.oneE (i := 2) (o := { dst := some 19, op := Go.Op.call { callee := Go.Callee.value (Go.Operand.func 36), args := #[Go.Operand.tmp 18], argTypes := #[32] }, type := 22, pos := "code.go:132", after := #[{ on := 1, ground := Go.Ground.data }], guard := none }) (by kernel_rfl) rfl (fun K hK => ?_)
  go_simp
  refine (text_yes p ys x1 r1 wr.drew F hp HFW.out ((HM.out.below HFW.out (below_drew (Below.refl _ _))).rd) hl h1).mono ?_
  rintro e w5 ⟨A1, c1, rfl, hC1, hr5, hk5⟩
  have M5 := Lib.hid ((HM.out.below HFW.out (below_drew (Below.refl _ _))).step hap hbp hpB hr5 hk5)
  have HC1 := Lib.hid hC1
  have HK5 := Lib.hid hk5
  have HF5 := Lib.hid (show ∀ k, F k → k < w5.heap.size from fun k hk => Nat.lt_of_lt_of_le (HFW.out k hk) hk5.size)
  clear hC1 hr5 hk5
  refine hK.out _ _ (fun _ => ⟨⟨⟨trivial, blk_cell M5.out.lst 0⟩, blk_cell M5.out.box 0⟩, trivial⟩) ?_
  clear hK
  try simp only [Act.put, List.setIfInBounds_toArray, List.set_cons_zero, List.set_cons_succ]
  refine OrdE.takeE (fun w' => Kd.C (Kd.int .u8) w' A1 x1.length x1) (i := 3) (oi := { dst := some 20, op := Go.Op.convert 22 9 (Go.Operand.tmp 19), type := 9, pos := "code.go:132", after := #[{ on := 2, ground := Go.Ground.data }], guard := none }) (v := .string (strOfNums x1)) rfl (by kernel_rfl) (by kernel_rfl) (by kernel_rfl) (by kernel_rfl) (fun c x w h => HP.out c _ x w (by rfl) h) (by rfl) ?_ ⟨⟨⟨trivial, blk_cell M5.out.lst 0⟩, blk_cell M5.out.box 0⟩, trivial⟩ HC1.out.now ?_
  · intro w hS; have hcv := Kd.C_string (P := Try.prog) (A := A1) (c := c1) Try.underlying22 Try.underlying5 Try.underlying9 hS.2; clear hS; go_simp
  try simp only [Act.put, List.setIfInBounds_toArray, List.set_cons_zero, List.set_cons_succ]
  refine OrdE.oneE (i := 5) (o := { dst := some 22, op := Go.Op.call { callee := Go.Callee.value (Go.Operand.func 36), args := #[Go.Operand.tmp 21], argTypes := #[32] }, type := 22, pos := "code.go:132", after := #[{ on := 4, ground := Go.Ground.data }, { on := 2, ground := Go.Ground.chain }], guard := none }) (by kernel_rfl) rfl (fun K hK => ?_)
  go_simp
  refine (text_yes p r1 x2 r2 _ F hp HF5.out M5.out.rd hl1 h2).mono ?_
  rintro e w6 ⟨A2, c2, rfl, hC2, hr6, hk6⟩
  have M6 := Lib.hid (M5.out.step hap hbp hpB hr6 hk6)
  have HC2 := Lib.hid hC2
  have HC61 := Lib.hid (HC1.out _ (hk6.mono (fun k hk => .inl (by subst hk; exact HFW.out _ hp))))
  have HK6 := Lib.hid hk6
  have HF6 := Lib.hid (show ∀ k, F k → k < w6.heap.size from fun k hk => Nat.lt_of_lt_of_le (HF5.out k hk) hk6.size)
  clear hC2 hr6 hk6
  refine hK.out _ _ (fun _ => ⟨⟨⟨⟨trivial, blk_cell M6.out.lst 0⟩, blk_cell M6.out.box 0⟩, trivial⟩, HC61.out⟩) ?_
  clear hK
  try simp only [Act.put, List.setIfInBounds_toArray, List.set_cons_zero, List.set_cons_succ]
  refine OrdE.takeE (fun w' => Kd.C (Kd.int .u8) w' A2 x2.length x2) (i := 6) (oi := { dst := some 23, op := Go.Op.convert 22 9 (Go.Operand.tmp 22), type := 9, pos := "code.go:132", after := #[{ on := 5, ground := Go.Ground.data }], guard := none }) (v := .string (strOfNums x2)) rfl (by kernel_rfl) (by kernel_rfl) (by kernel_rfl) (by kernel_rfl) (fun c x w h => HP.out c _ x w (by rfl) h) (by rfl) ?_ ⟨⟨⟨⟨trivial, blk_cell M6.out.lst 0⟩, blk_cell M6.out.box 0⟩, trivial⟩, HC61.out⟩ HC2.out.now ?_
  · intro w hS; have hcv := Kd.C_string (P := Try.prog) (A := A2) (c := c2) Try.underlying22 Try.underlying5 Try.underlying9 hS.2; clear hS; go_simp
  try simp only [Act.put, List.setIfInBounds_toArray, List.set_cons_zero, List.set_cons_succ]
  refine OrdE.takeE (fun _ => True) (i := 7) (oi := { dst := some 24, op := Go.Op.build 66 #[(0, Go.Operand.tmp 20), (1, Go.Operand.tmp 23)], type := 66, pos := "code.go:132", after := #[{ on := 3, ground := Go.Ground.data }, { on := 6, ground := Go.Ground.data }], guard := none }) (v := .agg #[.string (strOfNums x1), .string (strOfNums x2)]) rfl (by kernel_rfl) (by kernel_rfl) (by kernel_rfl) (by kernel_rfl) (fun c x w h => HP.out c _ x w (by rfl) h) (by rfl) ?_ ⟨⟨⟨⟨⟨trivial, blk_cell M6.out.lst 0⟩, blk_cell M6.out.box 0⟩, trivial⟩, HC61.out⟩, HC2.out.now⟩ trivial ?_
  · intro w hS; clear hS; go_simp
  try simp only [Act.put, List.setIfInBounds_toArray, List.set_cons_zero, List.set_cons_succ]
  refine OrdE.oneE (i := 8) (o := { dst := some 25, op := Go.Op.buildSlice 48 1 #[(0, Go.Operand.tmp 24)], type := 48, pos := "code.go:132", after := #[{ on := 7, ground := Go.Ground.data }], guard := none }) (by kernel_rfl) rfl (fun K hK => ?_)
  go_simp
  have M7 := Lib.hid (M6.out.below HF6.out (below_alloc (Below.refl _ _) (.cells #[.string (strOfNums x1), .string (strOfNums x2)] 66)))
  refine hK.out _ _ (fun _ => ⟨⟨⟨⟨⟨⟨trivial, blk_cell M7.out.lst 0⟩, blk_cell M7.out.box 0⟩, trivial⟩, (Kd.C_alloc HC61.out _)⟩, (Kd.C_alloc HC2.out.now _)⟩, trivial⟩) ?_
  clear hK
  try simp only [Act.put, List.setIfInBounds_toArray, List.set_cons_zero, List.set_cons_succ]
  refine OrdE.oneE (i := 9) (o := { dst := some 26, op := Go.Op.call { callee := Go.Callee.builtin Go.Builtin.append, args := #[Go.Operand.tmp 17, Go.Operand.tmp 25], argTypes := #[48, 48] }, type := 48, pos := "code.go:132", after := #[{ on := 0, ground := Go.Ground.data }, { on := 8, ground := Go.Ground.data }, { on := 5, ground := Go.Ground.chain }], guard := none }) (by kernel_rfl) rfl (fun K hK => ?_)
  refine Kd.R_append_step k66 (w0 := w6) 0 (by rfl) (.tmp 17) (.tmp 25) 48 66 (.agg #[.string ByteArray.empty, .string ByteArray.empty]) 32 (by rfl) Try.underlying48 info_field rfl (by decide) (by decide) (.slice A acc.length c) acc ⟨strOfNums x1, strOfNums x2⟩ [.string (strOfNums x1), .string (strOfNums x2)] (fun k => B ≤ k) (fun _ => False) (by rfl) (by rfl) (k66_mkM _ _ _ _) (fun _ h => h.elim) ?fr M6.out.row (Below.refl _ _) (Nat.zero_le _) (by omega) ?_
  case fr => exact fun k hk => Nat.le_trans hBW (Nat.le_trans (Nat.le_trans HK5.out.size HK6.out.size) hk)
  intro v9 w9 ho hb hg hat
  have hob : ∀ k, (Value.slice A acc.length c).ownBlock = some k → B ≤ k ∧ k < wr.heap.size := fun k e => ⟨HM.out.row.1 k e, Kd.R_lt HM.out.row k e⟩
  have hk9 : ∀ G : Nat → Prop, (∀ k, B ≤ k → k < wr.heap.size → G k) → Keeps G w6 w9 := fun G hG => (Keeps.refl G w6).grown hg (fun k e => .inl (hG k (hob k e).1 (hob k e).2))
  have hC91 := HC1.out w9 ((HK6.out.mono (fun k hk => .inl (by subst hk; exact HFW.out _ hp))).trans (hk9 (fun k => k < wr.heap.size) (fun k _ h => h)) (fun k hk => .inl hk))
  have hC92 := HC2.out w9 (hk9 (fun k => k < w5.heap.size) (fun k _ h => Nat.lt_of_lt_of_le h HK5.out.size))
  have hrd9 := M6.out.rd.keeps hp HF6.out (hk9 (fun k => B ≤ k) (fun k h _ => h)) (fun k hk => by have := hFB k hk; omega)
  have hbx9 := blk_grown M6.out.box hg (fun e => by have := (hob a e.symm).1; omega)
  have hls9 := blk_grown M6.out.lst hg (fun e => by have := (hob b e.symm).1; omega)
  have hkw9 : Keeps (fun k => k = p ∨ k = b) W w9 := M6.out.keeps.trans (hk9 (fun k => B ≤ k) (fun k h _ => h)) (fun k h => .inr (Nat.le_trans hWB h))
  obtain ⟨A9, c9, rfl⟩ := Kd.R_slice ho
  have hcb := blk_cell hls9 0
  have hzb := blk_frozen hls9 0
  have HO := Lib.hid ho
  have HRD := Lib.hid hrd9
  have HBX := Lib.hid hbx9
  have HLS := Lib.hid hls9
  have HKW := Lib.hid hkw9
  have HS9 := Lib.hid (show (fun w => (((((True ∧ w.cell? ⟨b, 0, none⟩ = some (.slice A acc.length c)) ∧ w.cell? ⟨a, 0, none⟩ = some (.pointer (some ⟨p, 0, none⟩))) ∧ True) ∧ Kd.C (Kd.int .u8) w A1 x1.length x1) ∧ Kd.C (Kd.int .u8) w A2 x2.length x2) ∧ True) w9 from ⟨⟨⟨⟨⟨⟨trivial, blk_cell hls9 0⟩, blk_cell hbx9 0⟩, trivial⟩, hC91⟩, hC92⟩, trivial⟩)
  clear hk9 ho hrd9 hbx9 hls9 hkw9 hg hat hb hob hC91 hC92
  refine hK.out _ _ (fun _ => HS9.out) ?_
  clear hK HS9
  try simp only [Act.put, List.setIfInBounds_toArray, List.set_cons_zero, List.set_cons_succ]
  refine OrdE.oneE (i := 10) (o := { dst := none, op := Go.Op.store 48 (Go.Operand.tmp 1) (Go.Operand.tmp 26), type := 0, pos := "code.go:132", after := #[{ on := 9, ground := Go.Ground.data }, { on := 9, ground := Go.Ground.chain }, { on := 0, ground := Go.Ground.phase }, { on := 1, ground := Go.Ground.phase }, { on := 2, ground := Go.Ground.phase }, { on := 3, ground := Go.Ground.phase }, { on := 4, ground := Go.Ground.phase }, { on := 5, ground := Go.Ground.phase }, { on := 6, ground := Go.Ground.phase }, { on := 7, ground := Go.Ground.phase }, { on := 8, ground := Go.Ground.phase }, { on := 9, ground := Go.Ground.phase }], guard := none }) (by kernel_rfl) rfl (fun K hK => ?_)
  go_simp
  refine hK.out _ _ (fun h => by cases h) ?_
  refine OrdE.doneE (by kernel_rfl) ?_ _
  refine HQ.out A9 c9 _ _ _ _ _ _ _ _ _ _ _ ⟨HRD.out.ok (w1 := w9) (q := ⟨b, 0, none⟩) (fun k hk e => hFb (by subst e; exact hk)) hp _, blk_far HBX.out hab _, by have h := blk_put HLS.out 0 (Value.slice A9 (acc.length + 1) c9) rfl; rw [List.length_append]; exact h, ?_, HKW.out.setCell (.inl (.inr rfl)) _⟩
  have h := Kd.R_far HO.out (p := ⟨b, 0, none⟩) (fun k hk => by show k ≠ b; omega) (Value.slice A9 (acc.length + 1) c9)
  exact h
set_option maxHeartbeats 4000000 in
set_option maxRecDepth 100000 in
theorem round_no1 (p a b B : Nat) (ys : List Int) (W wr : World) (F : Nat → Prop) (A : Option Addr) (c : Nat) (acc : List (S66)) (hp : F p) (hF : ∀ k, F k → k < W.heap.size) (hap : a ≠ p) (hbp : b ≠ p) (hab : a ≠ b) (hpB : p < B) (hFB : ∀ k, F k → k < B) (haB : a < B) (hbB : b < B) (hFb : ¬ F b) (hWB : W.heap.size ≤ B) (hBW : B ≤ wr.heap.size) (hl : ys.length ≤ 1000000000)
    (h1 : textD ys = none) (hacc : acc.length ≤ 1000000000) (hM : Mid p a b B W F ys A c acc wr)
    (t2 t3 t4 t5 t6 t7 t8 t9 t10 t11 t12 t13 t14 t15 t16 t17 t18 t19 t20 t21 t22 t23 t24 t25 t26 t27 : Value) (Q : Exit → Act → World → Prop)
    (hP : ∀ (ch : List PanicEntry) (x y : Act) (w : World), x.defers = y.defers → Q (.panic ch) x w → Q (.panic ch) y w)
    (hQ : ∀ (x : Act) w' r, x.defers = [] → Rdo w' p r F → Keeps (fun k => k = p ∨ k = b) W w' → Q (.panic [stop]) x w') :
    regF.wp Try.prog Q ⟨#[.pointer (some ⟨a, 0, none⟩), .pointer (some ⟨b, 0, none⟩), t2, t3, t4, t5, t6, t7, t8, t9, t10, t11, t12, t13, t14, t15, t16, t17, t18, t19, t20, t21, t22, t23, t24, t25, t26, t27], []⟩ wr := by
  have HM := Lib.hid hM
  have HQ := Lib.hid hQ
  have HP := Lib.hid hP
  have HFW := Lib.hid (show ∀ k, F k → k < wr.heap.size from fun k hk => Nat.lt_of_lt_of_le (hF k hk) hM.keeps.size)
  clear hM hQ hP
  unfold regF
  refine OrdE.beginE (fun j => decide (j < 10)) (by kernel_rfl) ?_
  refine OrdE.takeE (fun w' => w'.cell? ⟨b, 0, none⟩ = some (.slice A acc.length c)) (i := 0) (oi := { dst := some 17, op := Go.Op.load 48 (Go.Operand.tmp 1), type := 48, pos := "code.go:132", after := #[], guard := none }) (v := .slice A acc.length c) rfl (by kernel_rfl) (by kernel_rfl) (by kernel_rfl) (by kernel_rfl) (fun c x w h => HP.out c _ x w (by rfl) h) (by rfl) ?_ trivial (blk_cell HM.out.lst 0) ?_
  · intro w hS; have h1 : w.cell? ⟨b, 0, none⟩ = some (.slice A acc.length c) := hS.2; clear hS; go_simp
  try simp only [Act.put, List.setIfInBounds_toArray, List.set_cons_zero, List.set_cons_succ]
  refine OrdE.takeE (fun w' => w'.cell? ⟨a, 0, none⟩ = some (.pointer (some ⟨p, 0, none⟩))) (i := 1) (oi := { dst := some 18, op := Go.Op.load 32 (Go.Operand.tmp 0), type := 32, pos := "code.go:132", after := #[], guard := none }) (v := .pointer (some ⟨p, 0, none⟩)) rfl (by kernel_rfl) (by kernel_rfl) (by kernel_rfl) (by kernel_rfl) (fun c x w h => HP.out c _ x w (by rfl) h) (by rfl) ?_ ⟨trivial, blk_cell HM.out.lst 0⟩ (blk_cell HM.out.box 0) ?_
  · intro w hS; have h1 : w.cell? ⟨a, 0, none⟩ = some (.pointer (some ⟨p, 0, none⟩)) := hS.2; clear hS; go_simp
  try simp only [Act.put, List.setIfInBounds_toArray, List.set_cons_zero, List.set_cons_succ]
  refine OrdE.takeE (fun _ => True) (i := 4) (oi := { dst := some 21, op := Go.Op.load 32 (Go.Operand.tmp 0), type := 32, pos := "code.go:132", after := #[], guard := none }) (v := .pointer (some ⟨p, 0, none⟩)) rfl (by kernel_rfl) (by kernel_rfl) (by kernel_rfl) (by kernel_rfl) (fun c x w h => HP.out c _ x w (by rfl) h) (by rfl) ?_ ⟨⟨trivial, blk_cell HM.out.lst 0⟩, blk_cell HM.out.box 0⟩ trivial ?_
  · intro w hS; have h1 : w.cell? ⟨a, 0, none⟩ = some (.pointer (some ⟨p, 0, none⟩)) := hS.1.2; clear hS; go_simp
  try simp only [Act.put, List.setIfInBounds_toArray, List.set_cons_zero, List.set_cons_succ]
  refine OrdE.oneE (i := 2) (o := { dst := some 19, op := Go.Op.call { callee := Go.Callee.value (Go.Operand.func 36), args := #[Go.Operand.tmp 18], argTypes := #[32] }, type := 22, pos := "code.go:132", after := #[{ on := 1, ground := Go.Ground.data }], guard := none }) (by kernel_rfl) rfl (fun K hK => ?_)
  go_simp
  refine (text_no p ys wr.drew F hp HFW.out ((HM.out.below HFW.out (below_drew (Below.refl _ _))).rd) hl h1).mono ?_
  rintro e w5 ⟨rfl, ⟨r, hr⟩, hk5⟩
  exact HQ.out _ _ r rfl hr ((HM.out.below HFW.out (below_drew (Below.refl _ _))).keeps.trans hk5 (fun k h => .inl (.inl h)))
set_option maxHeartbeats 4000000 in
set_option maxRecDepth 100000 in
theorem round_no2 (p a b B : Nat) (ys x1 r1 : List Int) (W wr : World) (F : Nat → Prop) (A : Option Addr) (c : Nat) (acc : List (S66)) (hp : F p) (hF : ∀ k, F k → k < W.heap.size) (hap : a ≠ p) (hbp : b ≠ p) (hab : a ≠ b) (hpB : p < B) (hFB : ∀ k, F k → k < B) (haB : a < B) (hbB : b < B) (hFb : ¬ F b) (hWB : W.heap.size ≤ B) (hBW : B ≤ wr.heap.size) (hl : ys.length ≤ 1000000000)
    (h1 : textD ys = some (x1, r1)) (h2 : textD r1 = none) (hl1 : r1.length ≤ 1000000000) (hacc : acc.length ≤ 1000000000) (hM : Mid p a b B W F ys A c acc wr)
    (t2 t3 t4 t5 t6 t7 t8 t9 t10 t11 t12 t13 t14 t15 t16 t17 t18 t19 t20 t21 t22 t23 t24 t25 t26 t27 : Value) (Q : Exit → Act → World → Prop)
    (hP : ∀ (ch : List PanicEntry) (x y : Act) (w : World), x.defers = y.defers → Q (.panic ch) x w → Q (.panic ch) y w)
    (hQ : ∀ (x : Act) w' r, x.defers = [] → Rdo w' p r F → Keeps (fun k => k = p ∨ k = b) W w' → Q (.panic [stop]) x w') :
    regF.wp Try.prog Q ⟨#[.pointer (some ⟨a, 0, none⟩), .pointer (some ⟨b, 0, none⟩), t2, t3, t4, t5, t6, t7, t8, t9, t10, t11, t12, t13, t14, t15, t16, t17, t18, t19, t20, t21, t22, t23, t24, t25, t26, t27], []⟩ wr := by
  have HM := Lib.hid hM
  have HQ := Lib.hid hQ
  have HP := Lib.hid hP
  have HFW := Lib.hid (show ∀ k, F k → k < wr.heap.size from fun k hk => Nat.lt_of_lt_of_le (hF k hk) hM.keeps.size)
  clear hM hQ hP
  unfold regF
  refine OrdE.beginE (fun j => decide (j < 10)) (by kernel_rfl) ?_
  refine OrdE.takeE (fun w' => w'.cell? ⟨b, 0, none⟩ = some (.slice A acc.length c)) (i := 0) (oi := { dst := some 17, op := Go.Op.load 48 (Go.Operand.tmp 1), type := 48, pos := "code.go:132", after := #[], guard := none }) (v := .slice A acc.length c) rfl (by kernel_rfl) (by kernel_rfl) (by kernel_rfl) (by kernel_rfl) (fun c x w h => HP.out c _ x w (by rfl) h) (by rfl) ?_ trivial (blk_cell HM.out.lst 0) ?_
  · intro w hS; have h1 : w.cell? ⟨b, 0, none⟩ = some (.slice A acc.length c) := hS.2; clear hS; go_simp
  try simp only [Act.put, List.setIfInBounds_toArray, List.set_cons_zero, List.set_cons_succ]
  refine OrdE.takeE (fun w' => w'.cell? ⟨a, 0, none⟩ = some (.pointer (some ⟨p, 0, none⟩))) (i := 1) (oi := { dst := some 18, op := Go.Op.load 32 (Go.Operand.tmp 0), type := 32, pos := "code.go:132", after := #[], guard := none }) (v := .pointer (some ⟨p, 0, none⟩)) rfl (by kernel_rfl) (by kernel_rfl) (by kernel_rfl) (by kernel_rfl) (fun c x w h => HP.out c _ x w (by rfl) h) (by rfl) ?_ ⟨trivial, blk_cell HM.out.lst 0⟩ (blk_cell HM.out.box 0) ?_
  · intro w hS; have h1 : w.cell? ⟨a, 0, none⟩ = some (.pointer (some ⟨p, 0, none⟩)) := hS.2; clear hS; go_simp
  try simp only [Act.put, List.setIfInBounds_toArray, List.set_cons_zero, List.set_cons_succ]
  refine OrdE.takeE (fun _ => True) (i := 4) (oi := { dst := some 21, op := Go.Op.load 32 (Go.Operand.tmp 0), type := 32, pos := "code.go:132", after := #[], guard := none }) (v := .pointer (some ⟨p, 0, none⟩)) rfl (by kernel_rfl) (by kernel_rfl) (by kernel_rfl) (by kernel_rfl) (fun c x w h => HP.out c _ x w (by rfl) h) (by rfl) ?_ ⟨⟨trivial, blk_cell HM.out.lst 0⟩, blk_cell HM.out.box 0⟩ trivial ?_
  · intro w hS; have h1 : w.cell? ⟨a, 0, none⟩ = some (.pointer (some ⟨p, 0, none⟩)) := hS.1.2; clear hS; go_simp
  try simp only [Act.put, List.setIfInBounds_toArray, List.set_cons_zero, List.set_cons_succ]
  refine OrdE.oneE (i := 2) (o := { dst := some 19, op := Go.Op.call { callee := Go.Callee.value (Go.Operand.func 36), args := #[Go.Operand.tmp 18], argTypes := #[32] }, type := 22, pos := "code.go:132", after := #[{ on := 1, ground := Go.Ground.data }], guard := none }) (by kernel_rfl) rfl (fun K hK => ?_)
  go_simp
  refine (text_yes p ys x1 r1 wr.drew F hp HFW.out ((HM.out.below HFW.out (below_drew (Below.refl _ _))).rd) hl h1).mono ?_
  rintro e w5 ⟨A1, c1, rfl, hC1, hr5, hk5⟩
  have M5 := Lib.hid ((HM.out.below HFW.out (below_drew (Below.refl _ _))).step hap hbp hpB hr5 hk5)
  have HC1 := Lib.hid hC1
  have HK5 := Lib.hid hk5
  have HF5 := Lib.hid (show ∀ k, F k → k < w5.heap.size from fun k hk => Nat.lt_of_lt_of_le (HFW.out k hk) hk5.size)
  clear hC1 hr5 hk5
  refine hK.out _ _ (fun _ => ⟨⟨⟨trivial, blk_cell M5.out.lst 0⟩, blk_cell M5.out.box 0⟩, trivial⟩) ?_
  clear hK
  try simp only [Act.put, List.setIfInBounds_toArray, List.set_cons_zero, List.set_cons_succ]
  refine OrdE.takeE (fun w' => Kd.C (Kd.int .u8) w' A1 x1.length x1) (i := 3) (oi := { dst := some 20, op := Go.Op.convert 22 9 (Go.Operand.tmp 19), type := 9, pos := "code.go:132", after := #[{ on := 2, ground := Go.Ground.data }], guard := none }) (v := .string (strOfNums x1)) rfl (by kernel_rfl) (by kernel_rfl) (by kernel_rfl) (by kernel_rfl) (fun c x w h => HP.out c _ x w (by rfl) h) (by rfl) ?_ ⟨⟨⟨trivial, blk_cell M5.out.lst 0⟩, blk_cell M5.out.box 0⟩, trivial⟩ HC1.out.now ?_
  · intro w hS; have hcv := Kd.C_string (P := Try.prog) (A := A1) (c := c1) Try.underlying22 Try.underlying5 Try.underlying9 hS.2; clear hS; go_simp
  try simp only [Act.put, List.setIfInBounds_toArray, List.set_cons_zero, List.set_cons_succ]
  refine OrdE.oneE (i := 5) (o := { dst := some 22, op := Go.Op.call { callee := Go.Callee.value (Go.Operand.func 36), args := #[Go.Operand.tmp 21], argTypes := #[32] }, type := 22, pos := "code.go:132", after := #[{ on := 4, ground := Go.Ground.data }, { on := 2, ground := Go.Ground.chain }], guard := none }) (by kernel_rfl) rfl (fun K hK => ?_)
  go_simp
  refine (text_no p r1 _ F hp HF5.out M5.out.rd hl1 h2).mono ?_
  rintro e w6 ⟨rfl, ⟨r, hr⟩, hk6⟩
  exact HQ.out _ _ r rfl hr (M5.out.keeps.trans hk6 (fun k h => .inl (.inl h)))
end Go.Proofs.Ythbapljhhglamaa.Code
