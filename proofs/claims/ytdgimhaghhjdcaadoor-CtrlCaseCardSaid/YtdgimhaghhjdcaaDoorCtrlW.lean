/- What ctrl.Text's closures write. -/
import Derived.Test.YtdgimhaghhjdcaaDoorFeet
import Derived.Test.YtdgimhaghhjdcaaDoorOrdE
import Derived.Test.YtdgimhaghhjdcaaDoorShelf
import Derived.Test.YtdgimhaghhjdcaaDoorDrawn
import Derived.Test.YtdgimhaghhjdcaaDoorGx0
import Derived.Outline
import Derived.Deep.DeepMust
import Derived.Shelf.Unicode.PredsPay
import Derived.Lib.AppendIntMem
import Derived.Lib.ItoaLen
set_option linter.unusedVariables false
set_option linter.unusedSimpArgs false
namespace Go.Proofs.YtdgimhaghhjdcaaDoor.Ctrl
open Go.RowKit Go.Proofs.YtdgimhaghhjdcaaDoor.G Go.Proofs.YtdgimhaghhjdcaaDoorW.PrintWords Go.Proofs.YtdgimhaghhjdcaaDoorW.PrintMore Go.Proofs.YtdgimhaghhjdcaaDoor.Foot

/-- The list of words in its box. -/
abbrev Ls (g : Nat) (l : List ByteArray) : HP := Bx Kd.string 33 9 g l
def addW (b : Bool) (s : ByteArray) (l : List ByteArray) : List ByteArray := if b = true then l ++ [s] else l
set_option maxHeartbeats 2000000 in
set_option maxRecDepth 100000 in
theorem word (g : Nat) (l : List ByteArray) (is : Bool) (s : ByteArray) (w : World) (F : Nat → Prop) (h : Ls g l w F) (hl : l.length ≤ 1000) :
    Calls Tryd.prog 16 #[.bool is, .string s, .pointer (some ⟨g, 0, none⟩)] w fun e w' => e = .returned (.tuple #[]) ∧ BxE Kd.string 33 9 g (addW is s l) w F w' := by
  obtain ⟨⟨hk, hp, v, hb, hR⟩, hpl⟩ := h.begin
  have HE := Lib.hid h.begin.1
  have hc0 : w.cell? ⟨g, 0, none⟩ = some v := blk_cell hb 0
  have HB := Aside0.mk hb
  have HR := Aside0.mk hR
  clear h hk hb hR
  cases is with
  | false =>
    go_enter Tryd.func16, Tryd.ntmps16
    go_wp2
    go_end0
    exact ⟨rfl, HE.out.done⟩
  | true =>
    obtain ⟨A0, c0, rfl⟩ := Kd.R_slice HR.out
    go_enter Tryd.func16, Tryd.ntmps16
    go_wp2_with (first
      | ((with_reducible refine gate_builtin (b := .append) (xs := #[.tmp 6, .tmp 8]) rfl ?_); at_builtin; refine Kd.R_append Kd.string (w0 := w) 0 rfl (.tmp 6) (.tmp 8) 33 9 (.string ⟨#[]⟩) 16 rfl Tryd.underlying33 info9 rfl (by decide) (by decide) (.slice A0 l.length c0) l s [.string s] (fun k => (F k ∨ w.heap.size ≤ k) ∧ k ≠ g) (fun _ => False) rfl rfl rfl (fun _ hk => hk.elim) ?aF ?aO (Below.refl _ _) (Nat.zero_le _) ?aL ?_; (case aF => exact fun q hq => ⟨.inr hq, by omega⟩); (case aO => exact HR.out); (case aL => omega); intro v' w3 ho hb hg hat; obtain ⟨hc3, hz3, hw3⟩ := BxI.put (Keeps.refl F w) hp HB.out HR.out hg ho; have HW3 := Aside0.mk hw3; obtain ⟨A9, c9, rfl⟩ := Kd.R_slice ho; clear ho hb hg hat hw3))
    go_end0
    refine ⟨rfl, ?_⟩
    have hw := HW3.out.done
    rw [List.length_append, List.length_singleton] at hw
    exact hw
theorem tab_below {w w' : World} (h : Lib.TabIs Tryd.prog w "internal/strconv.uint64pow10" .u64 Lib.pow10Tab) (hb : Below w.heap.size w w') : Lib.TabIs Tryd.prog w' "internal/strconv.uint64pow10" .u64 Lib.pow10Tab := by
    cases hg : Tryd.prog.globalNamed "internal/strconv.uint64pow10" with
    | none =>
      unfold Lib.TabIs World.var? at h
      rw [hg] at h
      cases h
    | some g => exact TabIs_below hg h hb
theorem fmt (n : Int) (h0 : -9223372036854775808 ≤ n) (h1 : n ≤ 9223372036854775807) (w : World) (htab : Lib.TabIs Tryd.prog w "internal/strconv.uint64pow10" .u64 Lib.pow10Tab) :
    Calls Tryd.prog 18 #[.int .i64 n, .int .i64 10] w fun e w' => e = .returned (.string ⟨(Lib.itoa n).toArray⟩) ∧ Below w.heap.size w w' := by
  have HT := Lib.hid htab
  clear htab
  go_enter Tryd.func18, Tryd.ntmps18
  go_wp2_with fail
  refine (Tryd.internal_strconv_FormatInt_10 n h0 h1 _ HT.out).mono ?_
  rintro e w' ⟨rfl, k, os, rfl⟩
  go_wp2
  go_ret
  exact ⟨rfl, Lib.below_grow _ _ (Nat.le_refl _) k os⟩
def addN (n : Int) (s : ByteArray) (l : List ByteArray) : List ByteArray := if 0 ≤ n then l ++ [s ++ (⟨(Lib.itoa (min n 2147483647)).toArray⟩ : ByteArray)] else l
theorem addN_eq (n : Int) (s : ByteArray) (l : List ByteArray) : addN n s l = addW (decide (0 ≤ n)) (s ++ (⟨(Lib.itoa (min n 2147483647)).toArray⟩ : ByteArray)) l := by
  unfold addN addW
  by_cases h : 0 ≤ n
  · rw [if_pos h, if_pos (decide_eq_true h)]
  · rw [if_neg h, if_neg (by simpa using h)]
set_option maxHeartbeats 4000000 in
set_option maxRecDepth 100000 in
theorem number (g h : Nat) (l : List ByteArray) (n : Int) (s : ByteArray) (w : World) (F : Nat → Prop) (hn0 : -9223372036854775808 ≤ n) (hn1 : n ≤ 9223372036854775807) (hs : s.size ≤ 1000) (htab : Lib.TabIs Tryd.prog w "internal/strconv.uint64pow10" .u64 Lib.pow10Tab)
    (hL : Ls g l w F) (hh : w.heap[h]? = some (.cells #[.func (.func 16) #[] #[.pointer (some ⟨g, 0, none⟩)]] 43 (0, 0))) (hFh : ¬ F h) (hl : l.length ≤ 1000) :
    Calls Tryd.prog 17 #[.int .i64 n, .string s, .pointer (some ⟨h, 0, none⟩)] w fun e w' => e = .returned (.tuple #[]) ∧ BxE Kd.string 33 9 g (addN n s l) w F w' := by
  have HL := Aside0.mk hL
  have HH := Aside0.mk hh
  have HT := Aside0.mk htab
  have hmin : min n 2147483647 ≤ 9223372036854775807 := by omega
  have hmin0 : -9223372036854775808 ≤ min n 2147483647 := by omega
  clear hL hh htab
  go_enter Tryd.func17, Tryd.ntmps17
  rw [addN_eq]
  have hzl : (⟨(Lib.itoa (min n 2147483647)).toArray⟩ : ByteArray).size ≤ 21 := Lib.itoa_length_le _ hmin0 hmin
  generalize hit : (⟨(Lib.itoa (min n 2147483647)).toArray⟩ : ByteArray) = z at hzl ⊢
  have hsz : ¬ 9223372036854775807 < s.size + z.size := by omega
  have HF := Lib.hid (fun w => fmt (min n 2147483647) hmin0 hmin w)
  simp only [hit] at HF
  have HU := Lib.hid (show Below w.heap.size w w.drew from below_drew (Below.refl _ _))
  refine OrdE.beginS (fun w' => w'.cell? ⟨h, 0, none⟩ = some (.func (.func 16) #[] #[.pointer (some ⟨g, 0, none⟩)])) (fun _ => true) (by kernel_rfl) ?_
  refine OrdE.takeK (i := 0) (oi := { dst := some 5, op := Go.Op.load 43 (Go.Operand.tmp 2), type := 43, pos := "ctrl.go:113", after := #[], guard := none }) (v := .func (.func 16) #[] #[.pointer (some ⟨g, 0, none⟩)]) rfl (by kernel_rfl) (by kernel_rfl) (by kernel_rfl) (by kernel_rfl) (fun _ _ _ h => h) (by rfl) ?_ (blk_cell (blk_drew HH.out) 0) ?_
  · intro w hS; go_simp
  try simp only [Act.put, List.setIfInBounds_toArray, List.set_cons_zero, List.set_cons_succ]
  refine OrdE.takeK (i := 1) (oi := { dst := some 6, op := Go.Op.move (Go.Operand.tmp 0), type := 2, pos := "ctrl.go:113", after := #[], guard := none }) (v := .int .i64 n) rfl (by kernel_rfl) (by kernel_rfl) (by kernel_rfl) (by kernel_rfl) (fun _ _ _ h => h) (by rfl) ?_ (blk_cell (blk_drew HH.out) 0) ?_
  · intro w hS; go_simp
  try simp only [Act.put, List.setIfInBounds_toArray, List.set_cons_zero, List.set_cons_succ]
  refine OrdE.takeK (i := 2) (oi := { dst := some 7, op := Go.Op.binOp Go.BinOp.geq 2 (Go.Operand.tmp 6) (Go.Operand.const (Go.Value.int Go.IntKind.i64 0)) 2, type := 4, pos := "ctrl.go:113", after := #[{ on := 1, ground := Go.Ground.data }], guard := none }) (v := .bool (decide (0 ≤ n))) rfl (by kernel_rfl) (by kernel_rfl) (by kernel_rfl) (by kernel_rfl) (fun _ _ _ h => h) (by rfl) ?_ (blk_cell (blk_drew HH.out) 0) ?_
  · intro w hS; go_simp
  try simp only [Act.put, List.setIfInBounds_toArray, List.set_cons_zero, List.set_cons_succ]
  refine OrdE.takeK (i := 3) (oi := { dst := some 8, op := Go.Op.move (Go.Operand.tmp 1), type := 9, pos := "ctrl.go:113", after := #[], guard := none }) (v := .string s) rfl (by kernel_rfl) (by kernel_rfl) (by kernel_rfl) (by kernel_rfl) (fun _ _ _ h => h) (by rfl) ?_ (blk_cell (blk_drew HH.out) 0) ?_
  · intro w hS; go_simp
  try simp only [Act.put, List.setIfInBounds_toArray, List.set_cons_zero, List.set_cons_succ]
  refine OrdE.takeK (i := 4) (oi := { dst := some 9, op := Go.Op.move (Go.Operand.tmp 0), type := 2, pos := "ctrl.go:113", after := #[], guard := none }) (v := .int .i64 n) rfl (by kernel_rfl) (by kernel_rfl) (by kernel_rfl) (by kernel_rfl) (fun _ _ _ h => h) (by rfl) ?_ (blk_cell (blk_drew HH.out) 0) ?_
  · intro w hS; go_simp
  try simp only [Act.put, List.setIfInBounds_toArray, List.set_cons_zero, List.set_cons_succ]
  refine OrdE.oneE (i := 5) (o := { dst := some 10, op := Go.Op.call { callee := Go.Callee.builtin Go.Builtin.min, args := #[Go.Operand.tmp 9, Go.Operand.const (Go.Value.int Go.IntKind.i64 2147483647)], argTypes := #[2, 2] }, type := 2, pos := "ctrl.go:113", after := #[{ on := 4, ground := Go.Ground.data }], guard := none }) (by kernel_rfl) rfl (fun K hK => ?_)
  go_simp
  refine hK.out _ _ (fun _ => (blk_cell (blk_drew HH.out) 0)) ?_
  clear hK K
  try simp only [Act.put, List.setIfInBounds_toArray, List.set_cons_zero, List.set_cons_succ]
  refine OrdE.oneE (i := 6) (o := { dst := some 11, op := Go.Op.call { callee := Go.Callee.value (Go.Operand.func 18), args := #[Go.Operand.tmp 10, Go.Operand.const (Go.Value.int Go.IntKind.i64 10)], argTypes := #[2, 3] }, type := 9, pos := "ctrl.go:113", after := #[{ on := 5, ground := Go.Ground.data }], guard := none }) (by kernel_rfl) rfl (fun K hK => ?_)
  go_simp
  refine (HF.out w.drew (tab_below HT.out HU.out)).mono ?_
  rintro e w3 ⟨rfl, hb⟩
  have HB3 := Lib.hid (HU.out.trans hb)
  clear hb
  refine hK.out _ _ (fun _ => blk_cell (blk_below HH.out HB3.out) 0) ?_
  clear hK K
  try simp only [Act.put, List.setIfInBounds_toArray, List.set_cons_zero, List.set_cons_succ]
  refine OrdE.oneE (i := 7) (o := { dst := some 12, op := Go.Op.binOp Go.BinOp.add 9 (Go.Operand.tmp 8) (Go.Operand.tmp 11) 9, type := 9, pos := "ctrl.go:113", after := #[{ on := 3, ground := Go.Ground.data }, { on := 6, ground := Go.Ground.data }], guard := none }) (by kernel_rfl) rfl (fun K hK => ?_)
  go_simp
  refine hK.out _ _ (fun _ => blk_cell (blk_below HH.out HB3.out) 0) ?_
  clear hK K
  try simp only [Act.put, List.setIfInBounds_toArray, List.set_cons_zero, List.set_cons_succ]
  refine OrdE.oneE (i := 8) (o := { dst := some 13, op := Go.Op.call { callee := Go.Callee.value (Go.Operand.tmp 5), args := #[Go.Operand.tmp 7, Go.Operand.tmp 12], argTypes := #[4, 9] }, type := 0, pos := "ctrl.go:113", after := #[{ on := 0, ground := Go.Ground.data }, { on := 2, ground := Go.Ground.data }, { on := 7, ground := Go.Ground.data }, { on := 6, ground := Go.Ground.chain }], guard := none }) (by kernel_rfl) rfl (fun K hK => ?_)
  go_simp
  refine (word g l (decide (0 ≤ n)) (s ++ z) _ F (Firm.move HL.out (fun k hk => HB3.out.block k (HL.out.2.1 k hk))) hl).mono ?_
  rintro e w4 ⟨rfl, hE⟩
  have HE4 := Lib.hid hE
  clear hE
  refine hK.out _ _ (fun _ => blk_cell (HE4.out.blk (blk_below HH.out HB3.out) hFh) 0) ?_
  clear hK K
  try simp only [Act.put, List.setIfInBounds_toArray, List.set_cons_zero, List.set_cons_succ]
  refine OrdE.doneE (by kernel_rfl) ?_ _
  go_end0
  exact ⟨rfl, HE4.out.after HB3.out⟩
end Go.Proofs.YtdgimhaghhjdcaaDoor.Ctrl
