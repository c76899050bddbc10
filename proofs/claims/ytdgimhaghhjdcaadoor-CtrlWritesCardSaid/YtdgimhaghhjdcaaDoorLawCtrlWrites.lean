/- The row of the law CtrlWrites, out of its contract. -/
import Derived.Test.YtdgimhaghhjdcaaDoorTie
import Derived.Test.YtdgimhaghhjdcaaDoorCards
import Derived.LaidMore
import Derived.Lay
import Derived.SevenTiedAt
import Derived.Stop.Joined
import Derived.Handed
import Derived.Test.YtdgimhaghhjdcaaDoorRows
import Derived.Test.YtdgimhaghhjdcaaDoorOpens
import Derived.Test.YtdgimhaghhjdcaaDoorWalkCtrlWrites
import Derived.Test.YtdgimhaghhjdcaaDoorCtrlTab
import Derived.WalkKit
import Derived.ProofKit
import Derived.OpenShut
import Derived.ShutString
import Derived.ChangeOld
import Derived.Below
import Derived.SizedLaws
set_option linter.unusedVariables false
set_option linter.unusedSimpArgs false
namespace Go.Proofs.YtdgimhaghhjdcaaDoor.ctrlWrites
open Go.ChangeShapes Go.WideShapes Go.ChangeAt Go.RowKit Go.Proofs.YtdgimhaghhjdcaaDoor.Opens
open Go.ChangeMaps (open_string shut_string)
theorem own : ownKnob Tryd.prog.godebug = none := by kernel_rfl
theorem laidOut : laidOutB Tryd.prog = true := by kernel_rfl
set_option maxRecDepth 100000 in
theorem lifted (os : Os) (started : os.Started) (H : Type) (enc : TypeId × Value → H) :
    ReturnsInHanded {} Tryd.checked os 3 .any (fun w args => (Rows.ctrlWritesSpec.pre enc Tryd.prog Tryd.f3 Rows.ctrlWritesRow.domain false w args ∧ laidMetH Tryd.prog Rows.ctrlWritesRow.laid w) ∧ sizedMet enc Tryd.prog Tryd.f3 (OpenSpec.ofChange Rows.ctrlWritesSpec) false w args)
      (Rows.ctrlWritesSpec.post enc Tryd.prog Tryd.f3 false true false false) := by
  refine returnsInHanded_of_change_and (C := Tryd.checked) (X := fun w _ => laidMetH Tryd.prog Rows.ctrlWritesRow.laid w) (fun _ _ _ hh h => h.of_heap hh) own started (by kernel_rfl) Tryd.func3
    (ChangeSpec.witness_shaped (enc := enc) (C := Tryd.checked) (os := os) (X := fun w _ => laidMetH Tryd.prog Rows.ctrlWritesRow.laid w) false (World.laidAll Tryd.prog os Rows.ctrlWritesRow.laid) #[.agg #[.bool false, .bool false, .bool false, .bool false, .bool false, .bool false, .bool false, .bool false, .int .i64 0, .int .i64 0, .int .i64 0, .int .i64 0]] 8 (World.laidAll_os _ _ _)
      (World.shaped_of_ZipB (by kernel_rfl) (by kernel_rfl)) (by kernel_rfl) (by kernel_rfl) (by kernel_rfl)
      (by rw [MakeChecks.laidMetH_plain _ _ _ (by kernel_rfl)]; exact laidMet_laidAll _ (by kernel_rfl) (by kernel_rfl))) ?_
  intro W base args ds gs before hval0 hW hcnd hsz0 hL _
  have hsz : (DataW.weightsEach Tryd.prog (Tryd.f3.params.toList ++ Rows.ctrlWritesSpec.plain.varTypes Tryd.prog) (ds ++ gs)).all (· ≤ reachBytes) = true := hsz0
  have hval : ∀ (j : Nat) t v, Tryd.f3.params[j]? = some t → args[j]? = some v → Value.okWide Tryd.prog W .any base t v := hval0
  have hW' := hW
  obtain ⟨p, q, hA0, hV, rfl, hfz, hnd⟩ := hW
  have hA : DataW.TrodAll enc Tryd.prog W 0 (fun _ => true) true Tryd.f3.params.toList args.toList ds p := hA0
  rw [Tryd.params3] at hA hval hsz
  obtain ⟨v0, vs0, d0, ds0, p0, q0, hargs, rfl, rfl, h0, r0⟩ := trodAll_cons hA
  obtain ⟨rfl, rfl, rfl⟩ := trodAll_nil r0
  obtain rfl : args = #[v0] := by cases args; simp_all
  obtain ⟨rfl, rfl⟩ := trodVars_none hV
  obtain ⟨cs0, rfl, hcs0⟩ := okWide_struct Tryd.underlying23 (hval 0 23 v0 rfl rfl)
  have lt0 : ∀ x ∈ p0, x.block < W.heap.size := by obtain ⟨m, hm⟩ := h0; exact DataW.trod_lt m _ _ _ hm
  obtain ⟨x0, hK0, hG0⟩ := op_arg_struct (op_struct Tryd.underlying23 (by kernel_rfl) (.cons (op_bool Tryd.underlying4) rfl (by kernel_rfl) (.cons (op_bool Tryd.underlying4) rfl (by kernel_rfl) (.cons (op_bool Tryd.underlying4) rfl (by kernel_rfl) (.cons (op_bool Tryd.underlying4) rfl (by kernel_rfl) (.cons (op_bool Tryd.underlying4) rfl (by kernel_rfl) (.cons (op_bool Tryd.underlying4) rfl (by kernel_rfl) (.cons (op_bool Tryd.underlying4) rfl (by kernel_rfl) (.cons (op_bool Tryd.underlying4) rfl (by kernel_rfl) (.cons (op_int Tryd.underlying2) rfl (by kernel_rfl) (.cons (op_int Tryd.underlying2) rfl (by kernel_rfl) (.cons (op_int Tryd.underlying2) rfl (by kernel_rfl) (.last (op_int Tryd.underlying2) rfl (by kernel_rfl)))))))))))))) h0
  obtain ⟨_, _, E0_0, rfl, ⟨_, _, E0_1, rfl, ⟨_, _, E0_2, rfl, ⟨_, _, E0_3, rfl, ⟨_, _, E0_4, rfl, ⟨_, _, E0_5, rfl, ⟨_, _, E0_6, rfl, ⟨_, _, E0_7, rfl, ⟨_, _, E0_8, rfl, ⟨_, _, E0_9, rfl, ⟨_, _, E0_10, rfl, rfl⟩⟩⟩⟩⟩⟩⟩⟩⟩⟩⟩ := hK0
  subst E0_10
  subst E0_9
  subst E0_8
  subst E0_7
  subst E0_6
  subst E0_5
  subst E0_4
  subst E0_3
  subst E0_2
  subst E0_1
  obtain rfl := arr_of E0_0
  refine (Walk.CtrlWrites W (Ctrl.tab_of_laid hL) x0.1 x0.2.1 x0.2.2.1 x0.2.2.2.1 x0.2.2.2.2.1 x0.2.2.2.2.2.1 x0.2.2.2.2.2.2.1 x0.2.2.2.2.2.2.2.1 x0.2.2.2.2.2.2.2.2.1 x0.2.2.2.2.2.2.2.2.2.1 x0.2.2.2.2.2.2.2.2.2.2.1 x0.2.2.2.2.2.2.2.2.2.2.2 hG0).mono fun e W' ⟨he, bel⟩ => ?_
  subst he
  exact ⟨_, rfl, _, _, _, [], _, [], hW', trodAll_mk1 (shut_bool Tryd.underlying4 _), (trodAll_cons_mk (Below.trod laidOut (by kernel_rfl) (of_decide_eq_true (by kernel_rfl)) h0 bel lt0) trodAll_mk0), rfl, bel.frame _, fun h => by cases h⟩
theorem over : Rows.ctrlWritesRow.holds Tryd.pinned (OpenSpec.ofChange Rows.ctrlWritesSpec) :=
  OpenClaim.holds_of_wide 3 Tryd.f3 rfl rfl rfl rfl rfl rfl rfl ⟨rfl, rfl, rfl, rfl, rfl⟩ rfl rfl rfl rfl rfl (by kernel_rfl) Tryd.func3 (by kernel_rfl)
    (of_decide_eq_true (by kernel_rfl)) (by unfold Func.isWrapper; first | (rw [if_pos (by decide +kernel)]; kernel_rfl) | (rw [if_neg (by decide +kernel)]; exact ⟨rfl, rfl⟩))
    (fun os started H enc _ => lifted os started H enc)
theorem card : Rows.CtrlWritesCardSaid :=
  Claim7.holds_tied_plain_at .later [] [.data, .data, .data] true (true, "db96a10ea365250b3a46c3b8aca7b65db096958db2b9b7647af5e0665e6844e9") false over (fun _ h => by cases h) (by kernel_rfl) (fun _ h => by cases h) ctrlWrites_row_tie rfl ⟨rfl, rfl⟩ (by kernel_rfl) rfl
    (fun f fn hf hfn => by
      obtain rfl : f = 3 := Option.some.inj ((show Tryd.prog.funcNamed "ambry/ambrylaw13.CtrlWrites" = some 3 by kernel_rfl).symm.trans hf) |>.symm
      obtain rfl : fn = Tryd.f3 := (Option.some.inj (Tryd.func3.symm.trans hfn)).symm
      exact ⟨by kernel_rfl, fun j t ht => by
        rw [Tryd.params3] at ht
        have hm : t ∈ [23] := by simpa using Array.mem_of_getElem? ht
        have hall : ([23].all fun u => !Tryd.prog.wantsStandIn u) = true := by kernel_rfl
        exact (show Tryd.prog.wantsStandIn t = false by simpa using List.all_eq_true.1 hall t hm)⟩)
    (by kernel_rfl)
end Go.Proofs.YtdgimhaghhjdcaaDoor.ctrlWrites
namespace Go.Proofs.YtdgimhaghhjdcaaDoor
theorem ctrlWrites_holds : Rows.CtrlWritesCardSaid := ctrlWrites.card
#print axioms ctrlWrites_holds
end Go.Proofs.YtdgimhaghhjdcaaDoor
