/- slices.Clone of bytes: a row of the call's own with the same bytes. -/
import Derived.Test.YthbapljhhglamaaProg
import Derived.Test.YthbapljhhglamaaDrawn
import Derived.WalkSpells
import Derived.Test.YthbapljhhglamaaWMore
set_option linter.unusedVariables false
set_option linter.unusedSimpArgs false
namespace Go.Proofs.Ythbapljhhglamaa.Leaf
open Go.RowKit Go.Proofs.YthbapljhhglamaaW.PrintWords Go.Proofs.YthbapljhhglamaaW.PrintMore
theorem clone_info : (Try.prog.info? 5).map (fun i => (i.zero, i.size, i.bytes)) = some (some (.int .u8 0), 1, 1) := by kernel_rfl
theorem clone_bytes (A0 : Option Addr) (c0 : Nat) (l0 : List Int) (w : World) (hr0 : Kd.C (Kd.int .u8) w A0 l0.length l0) (hs : l0.length ≤ 140737488355328) :
    Calls Try.prog 31 #[.slice A0 l0.length c0] w fun e w' => ∃ v0_ : Value, e = .returned (v0_) ∧ Kd.R (Kd.int .u8) 5 w' w.heap.size (fun _ => True) v0_ l0 ∧ Below w.heap.size w w' := by
  have HS := Lib.hid hs
  have HR := Lib.hid hr0
  clear hs hr0
  cases A0 with
  | none =>
    have h0 : l0.length = 0 := by
      rcases Nat.eq_zero_or_pos l0.length with h0 | h0
      · exact h0
      · obtain ⟨ad, e, _⟩ := HR.out.2.2 h0
        cases e
    have hl : l0 = [] := List.eq_nil_of_length_eq_zero h0
    clear HS HR h0
    subst hl
    have hq := fun W => Lib.run_eql_slice_nil (P := Try.prog) W 22 5 (none : Option Addr) 0 c0 0 0 Try.underlying22
    go_enter Try.func31, Try.ntmps31
    go_wp2
    go_ret
    exact ⟨_, rfl, Kd.R_nil _ _ _ _ _, Below.refl _ _⟩
  | some ad =>
    have hq := fun W => Lib.run_eql_slice_nil (P := Try.prog) W 22 5 (some ad) l0.length c0 0 0 Try.underlying22
    go_enter Try.func31, Try.ntmps31
    go_wp2_with (at_builtin; refine Kd.R_append_row (Value.int .u8) 0 (h1 := fun _ => rfl) (w0 := w) w.heap.size rfl (.tmp 5) (.tmp 6) 22 5 (.int .u8 0) 1 rfl Try.underlying22 clone_info rfl (by decide) _ [] l0 (some ad) l0.length c0 (fun _ => True) rfl rfl (fun _ _ => trivial) (emptyR (Kd.int .u8) w w.heap.size 5 (Nat.le_refl _)) (Kd.C_below HR.out (below_alloc (Below.refl _ _) _)) (below_alloc (Below.refl _ _) _) (by simp) (by have := HS.out; simpa using this) ?_)
    intro v1 w1 hR hB _ _
    have HR1 := Lib.hid hR
    have HB1 := Lib.hid hB
    clear hR hB
    go_wp2
    go_ret
    exact ⟨_, rfl, HR1.out, HB1.out⟩
theorem clone_bytes_n (A0 : Option Addr) (n c0 : Nat) (l0 : List Int) (w : World) (hn : l0.length = n) (hr0 : Kd.C (Kd.int .u8) w A0 n l0) (hs : n ≤ 140737488355328) :
    Calls Try.prog 31 #[.slice A0 n c0] w fun e w' => ∃ v0_ : Value, e = .returned (v0_) ∧ Kd.R (Kd.int .u8) 5 w' w.heap.size (fun _ => True) v0_ l0 ∧ Below w.heap.size w w' := by
  subst hn
  exact clone_bytes A0 c0 l0 w hr0 hs
end Go.Proofs.Ythbapljhhglamaa.Leaf
