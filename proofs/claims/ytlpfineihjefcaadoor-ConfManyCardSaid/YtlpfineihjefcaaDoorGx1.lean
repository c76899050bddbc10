-- PRINTED by print.py (a twelfth state) out of the translation. Not trusted: Lean checks it.
import Derived.Test.YtlpfineihjefcaaDoorGx0
namespace Go.Proofs.YtlpfineihjefcaaDoor.G
open Go.RowKit Go.Proofs.YtlpfineihjefcaaDoorW.PrintWords Go.Proofs.YtlpfineihjefcaaDoorW.PrintLast Go.Proofs.YtlpfineihjefcaaDoorW.PrintMore
attribute [local go_sem] max2_int min2_int max_two min_two max_three min_three max_four min_four   -- for this text's walks alone
set_option linter.unusedVariables false
set_option linter.unusedSimpArgs false

/-! ### conf_Default: function 8 -/
def conf_Default.f  : Option ((List (S50)) × Bool × ByteArray × Int) := some (([] : List (S50)), true, (⟨#[99, 111, 110, 115, 111, 108, 101]⟩ : ByteArray), 100)
set_option maxHeartbeats 8000000 in
set_option maxRecDepth 100000 in
theorem conf_Default.calls  (r1 : List (S50)) (r2 : Bool) (r3 : ByteArray) (r4 : Int) (w : World) (h : conf_Default.f  = some (r1, r2, r3, r4)) :
    Calls Tryd.prog 8 #[] w fun e w' => ∃ v0_ : Value, e = .returned (.agg #[v0_, .bool r2, .string r3, .int .i64 r4]) ∧ Kd.R k50 50 w' w.heap.size (fun _ => True) v0_ r1 ∧ Below w.heap.size w w' := by
  have hu27 := Tryd.underlying27
  have HB := Aside0.mk (Below.refl w.heap.size w)
  have H : (some (([] : List (S50)), true, (⟨#[99, 111, 110, 115, 111, 108, 101]⟩ : ByteArray), 100)) = some (r1, r2, r3, r4) := h
  clear h
  simp only [Option.some.injEq, Prod.mk.injEq] at H
  obtain ⟨rfl, rfl, rfl, rfl⟩ := H
  go_enter Tryd.func8, Tryd.ntmps8
  go_wp2_with (first | ((with_reducible refine gate_dst (N := 0) rfl ?_); refine box_event ?hg (N := 0) ?hd (cs := #[.slice none 0 0, .bool false, .string (⟨#[]⟩ : ByteArray), .int .i64 0]) (t := 27) ?hr ?_; (case hd => rfl); (case hg => rfl); (case hr => first | (go_simp; done) | (go_simp; rfl)); intro gb101 hg w1 hbox hb; have n0_ := Aside0.mk (below_step (by repeat (first | (with_reducible first | exact HB.out | apply below_alloc | apply pw_below_drewN | apply below_drew1) | exact HB.out)) hb); have n1_ := Aside0.mk (hbox); have n2_ := Aside0.mk ((by rw [hg]; exact (below_size (by repeat (first | (with_reducible first | exact HB.out | apply below_alloc | apply pw_below_drewN | apply below_drew1) | exact HB.out))) : w.heap.size ≤ gb101)); have n3_ := Aside0.mk ((by rw [hg]; exact (below_size (by repeat (first | (with_reducible first | exact HB.out | apply below_alloc | apply pw_below_drewN | apply below_drew1) | exact HB.out))) : w.heap.size ≤ gb101)); clear HB; have HB := n0_; have BK101 := n1_; have GW101 := n2_; have GE101 := n3_; clear n0_ n1_ n2_ n3_; clear hb hbox hg; have hcz2_0 : w1.cell? ⟨gb101, 0, none⟩ = some (.slice none 0 0) := (blk_cell BK101.out 0).trans rfl; have hcz2_1 : w1.cell? ⟨gb101, 1, none⟩ = some (.bool false) := (blk_cell BK101.out 1).trans rfl; have hcz2_2 : w1.cell? ⟨gb101, 2, none⟩ = some (.string (⟨#[]⟩ : ByteArray)) := (blk_cell BK101.out 2).trans rfl; have hcz2_3 : w1.cell? ⟨gb101, 3, none⟩ = some (.int .i64 0) := (blk_cell BK101.out 3).trans rfl; have hfz2_0 := blk_frozen BK101.out 0; have hfz2_1 := blk_frozen BK101.out 1; have hfz2_2 := blk_frozen BK101.out 2; have hfz2_3 := blk_frozen BK101.out 3))
  refine bodyPost_ret (results_cell_row rfl _ _ gb101 27 #[.slice none 0 0, .bool true, .string (⟨#[99, 111, 110, 115, 111, 108, 101]⟩ : ByteArray), .int .i64 100] (0, 0) _ rfl (by (with_reducible repeat (first | refine blk_drewN ?_ _ | refine blk_drew ?_ | refine blk_alloc ?_ _)); refine blk_put (cs := #[.slice none 0 0, .bool true, .string (⟨#[99, 111, 110, 115, 111, 108, 101]⟩ : ByteArray), .int .i64 0]) ?_ 3 _ rfl; (with_reducible repeat (first | refine blk_drewN ?_ _ | refine blk_drew ?_ | refine blk_alloc ?_ _)); refine blk_put (cs := #[.slice none 0 0, .bool true, .string (⟨#[]⟩ : ByteArray), .int .i64 0]) ?_ 2 _ rfl; (with_reducible repeat (first | refine blk_drewN ?_ _ | refine blk_drew ?_ | refine blk_alloc ?_ _)); refine blk_put (cs := #[.slice none 0 0, .bool false, .string (⟨#[]⟩ : ByteArray), .int .i64 0]) ?_ 1 _ rfl; (with_reducible repeat (first | refine blk_drewN ?_ _ | refine blk_drew ?_ | refine blk_alloc ?_ _)); refine blk_put (cs := #[.slice none 0 0, .bool false, .string (⟨#[]⟩ : ByteArray), .int .i64 0]) ?_ 0 _ rfl; (with_reducible repeat (first | refine blk_drewN ?_ _ | refine blk_drew ?_ | refine blk_alloc ?_ _)); exact BK101.out) Tryd.underlying27 rfl (by kernel_rfl)) rfl ?_
  exact ⟨_, by first | rfl | (simp [errW_none, errW_some] <;> rfl) | (simp [*, errW_none, errW_some] <;> rfl), by first | exact Kd.R_nil _ _ _ _ _ | exact Kd.N_nil _ _ _ _ _ | exact Kd.V_nil _ _ _ _ _ | exact Kd.Q_nil _ _ _ _ _ | exact Kd.S_nil _ _ _ _ _, by repeat (first | (with_reducible first | exact HB.out | apply below_alloc | apply pw_below_drewN | apply below_drew1 | refine below_set ?_ GE101.out) | exact HB.out)⟩

-- NOT PRINTED: function 29 (utf8_RuneCountInString)

-- NOT PRINTED: function 35 (utf8_decodeRuneInStringSlow)

-- NOT PRINTED: function 30 (utf8_DecodeRuneInString)

-- NOT PRINTED: function 20 (strings_explode)

-- NOT PRINTED: function 39 (bytealg_IndexByteString)

-- NOT PRINTED: function 33 (stringslite_IndexByte)

-- NOT PRINTED: function 36 (bytealg_IndexString)

/-! ### bytealg_Cutover: function 37 -/
-- NOT PRINTED: function 32 (stringslite_Index)

-- NOT PRINTED: function 22 (strings_Index)

-- NOT PRINTED: function 31 (bytealg_CountString)

-- NOT PRINTED: function 21 (strings_Count)

-- NOT PRINTED: function 13 (strings_genSplit)

-- NOT PRINTED: function 10 (strings_Split)

/-! ### acl_Words: function 14 -/
-- FOR ambry/acl.Words
-- MAKING
def acl_Words.sp (n : Nat) : Bool := n == 32 || n == 9
def acl_Words.f (a0 : ByteArray) : Option (List ByteArray) := if a0.size ≤ 4294967296 then some (Lib.goFieldsP acl_Words.sp a0) else none
theorem acl_Words.clo (W : World) (x : Nat) : FnGives Tryd.prog 24 #[] #[encR x] (.bool (acl_Words.sp x)) W := by
  show Calls Tryd.prog 24 #[.int .i32 (x : Int)] W _
  by_cases h1 : x = 32
  · subst h1
    go_enter Tryd.func24, Tryd.ntmps24
    go_wp2
    go_ret
    exact ⟨rfl, 0, rfl⟩
  by_cases h2 : x = 9
  · subst h2
    go_enter Tryd.func24, Tryd.ntmps24
    go_wp2
    go_ret
    exact ⟨rfl, 0, rfl⟩
  have e : acl_Words.sp x = false := by unfold acl_Words.sp; rw [beq_false_of_ne h1, beq_false_of_ne h2]; rfl
  have b1 : ((x : Int) == 32) = false := beq_false_of_ne (by omega)
  have b2 : ((x : Int) == 9) = false := beq_false_of_ne (by omega)
  rw [e]
  go_enter Tryd.func24, Tryd.ntmps24
  go_wp2
  go_ret
  exact ⟨by simp [b1, b2], 0, rfl⟩
theorem acl_Words.calls (a0 : ByteArray) (r : List ByteArray) (w : World) (h : acl_Words.f a0 = some r) :
    Calls Tryd.prog 14 #[.string a0] w fun e w' => ∃ v0_ : Value, e = .returned (v0_) ∧ Kd.R Kd.string 9 w' w.heap.size (fun _ => True) v0_ r ∧ Below w.heap.size w w' := by
  unfold acl_Words.f at h
  split at h
  case isFalse => cases h
  rename_i hs
  obtain rfl := Option.some.inj h
  clear h
  have HS := Lib.hid hs
  clear hs
  go_enter Tryd.func14, Tryd.ntmps14
  go_wp2_with (go_at_call 23; refine (Tryd.strings_FieldsFunc_runes 24 #[] (enters_of Tryd.func24 (by kernel_rfl) rfl) acl_Words.sp a0 _ HS.out (fun W x _ _ => acl_Words.clo W x)).mono ?_)
  rintro e w1 ⟨A, rfl, hA, hown, hB⟩
  have HO := Aside0.mk (Kd.R_of_own (enc := Value.string) (h1 := fun _ => rfl) (ok := fun _ => True) hown (fun _ _ => trivial))
  have HB := Aside0.mk hB
  clear hown hB
  go_wp2
  go_ret
  exact ⟨_, rfl, HO.out, HB.out⟩

/-! ### strings_IndexByte: function 25 -/
-- FOR strings.IndexByte
def strings_IndexByte.f (a0 : ByteArray) (a1 : Int) : Option (Int) := some (Lib.indexByte a0.data.toList a1.toNat.toUInt8)
theorem strings_IndexByte.calls (a0 : ByteArray) (a1 : Int) (r : Int) (w : World) (h : strings_IndexByte.f a0 a1 = some r) :
    Calls Tryd.prog 25 #[.string a0, .int .u8 a1] w fun e w' => e = .returned (.int .i64 r) ∧ Drawn0 w w' := by
  obtain rfl := Option.some.inj h
  exact (Tryd.strings_IndexByte a0 a1 w).mono (fun e w' ⟨he, hw⟩ => ⟨he, Leaf.d_of_eq hw⟩)

end Go.Proofs.YtlpfineihjefcaaDoor.G
