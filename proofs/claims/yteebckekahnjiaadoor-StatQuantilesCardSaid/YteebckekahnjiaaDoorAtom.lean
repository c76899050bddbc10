/- atomic.Int64: read, stored, added to, in a run of one goroutine. -/
import Derived.Test.YteebckekahnjiaaDoorProg
import Derived.WalkKit
import Derived.KernelRfl
import Derived.Laws.LoneSync
import Derived.Outline
set_option linter.unusedVariables false
set_option linter.unusedSimpArgs false
namespace Go.Proofs.YteebckekahnjiaaDoor.Atom
open Go.RowKit
set_option maxRecDepth 100000 in
theorem load_calls (a : Addr) (x : Int) (w : World) (hc : w.cell? a = some (.int .i64 x)) :
    Calls Tryd.prog 24 #[.pointer (some a)] w fun e w' => e = .returned (.int .i64 x) ∧ w' = w := by
  obtain ⟨b, off, pa⟩ := a
  have hl := run_call_load (P := Tryd.prog) Tryd.func34 (by kernel_rfl) (by kernel_rfl) (by kernel_rfl) .i64 (by kernel_rfl) hc
  go_enter Tryd.func24, Tryd.ntmps24
  go_wp2
  go_ret
  exact ⟨rfl, rfl⟩
set_option maxRecDepth 100000 in
theorem add_calls (a : Addr) (x y : Int) (w : World) (hc : w.cell? a = some (.int .i64 x)) (hz : w.frozen? a = false) (hs : -9223372036854775808 ≤ x + y ∧ x + y ≤ 9223372036854775807) :
    Calls Tryd.prog 20 #[.pointer (some a), .int .i64 y] w fun e w' => e = .returned (.int .i64 (x + y)) ∧ w' = w.setCell a (.int .i64 (x + y)) := by
  obtain ⟨b, off, pa⟩ := a
  have hl := run_call_add (P := Tryd.prog) Tryd.func29 (by kernel_rfl) (by kernel_rfl) (by kernel_rfl) .i64 (by kernel_rfl) (y := y) (s := x + y) hc hz (by simp only [go_sem]; rw [IntWalk.i64_in _ hs]; rfl)
  go_enter Tryd.func20, Tryd.ntmps20
  go_wp2
  go_ret
  exact ⟨rfl, rfl⟩
end Go.Proofs.YteebckekahnjiaaDoor.Atom
