/- The row of the law AclFirst, out of its contract. -/
import Derived.Test.YtjliebggdphmpaaRows
import Derived.Test.YtjliebggdphmpaaOpens
import Derived.Test.YtjliebggdphmpaaWalkAclFirst
import Derived.WalkKit
import Derived.ProofKit
import Derived.OpenShut
import Derived.ShutString
import Derived.ChangeOld
import Derived.Below
import Derived.SizedLaws
set_option linter.unusedVariables false
set_option linter.unusedSimpArgs false
namespace Go.Proofs.Ytjliebggdphmpaa.aclFirst
open Go.ChangeShapes Go.WideShapes Go.ChangeAt Go.RowKit Go.Proofs.Ytjliebggdphmpaa.Opens
open Go.ChangeMaps (open_string shut_string)
theorem own : ownKnob Try.prog.godebug = none := by kernel_rfl
theorem laidOut : laidOutB Try.prog = true := by kernel_rfl
set_option maxRecDepth 100000 in
theorem lifted (os : Os) (started : os.Started) (H : Type) (enc : TypeId × Value → H) :
    ReturnsInHanded {} Try.checked os 5 .any (Rows.aclFirstSpec.pre6 enc Try.prog Try.f5 Rows.aclFirstRow.domain false) (Rows.aclFirstSpec.post enc Try.prog Try.f5 false true false false) := by
  refine returnsInHanded_of_change_sized (C := Try.checked) own started (by kernel_rfl) Try.func5
    (ChangeSpec.witness6 (enc := enc) (C := Try.checked) false ⟨#[], #[.slice none 0 0, .agg #[.string ByteArray.empty, .string ByteArray.empty, .slice none 0 0, .slice none 0 0], .bool false], []⟩ 8 (by kernel_rfl) (by kernel_rfl) (by kernel_rfl) (by kernel_rfl)) ?_
  intro W base args ds gs before hval0 hW hcnd hsz0 _
  have hsz : (DataW.weightsEach Try.prog (Try.f5.params.toList ++ Rows.aclFirstSpec.plain.varTypes Try.prog) (ds ++ gs)).all (· ≤ reachBytes) = true := hsz0
  have hval : ∀ (j : Nat) t v, Try.f5.params[j]? = some t → args[j]? = some v → Value.okWide Try.prog W .any base t v := hval0
  have hW' := hW
  obtain ⟨p, q, hA0, hV, rfl, hfz, hnd⟩ := hW
  have hA : DataW.TrodAll enc Try.prog W 0 (fun _ => true) true Try.f5.params.toList args.toList ds p := hA0
  rw [Try.params5] at hA hval hsz
  obtain ⟨v0, vs0, d0, ds0, p0, q0, hargs, rfl, rfl, h0, r0⟩ := trodAll_cons hA
  obtain ⟨v1, vs1, d1, ds1, p1, q1, rfl, rfl, rfl, h1, r1⟩ := trodAll_cons r0
  obtain ⟨v2, vs2, d2, ds2, p2, q2, rfl, rfl, rfl, h2, r2⟩ := trodAll_cons r1
  obtain ⟨rfl, rfl, rfl⟩ := trodAll_nil r2
  obtain rfl : args = #[v0, v1, v2] := by cases args; simp_all
  obtain ⟨rfl, rfl⟩ := trodVars_none hV
  obtain ⟨A0, n0, c0, rfl⟩ := okWide_slice Try.underlying26 (hval 0 26 v0 rfl rfl)
  have lt0 : ∀ x ∈ p0, x.block < W.heap.size := by obtain ⟨m, hm⟩ := h0; exact DataW.trod_lt m _ _ _ hm
  obtain ⟨l0, rfl, hc0, hr0, g0⟩ := op_arg_slice Try.underlying26 (by kernel_rfl) (op_iso (op_struct Try.underlying23 (by kernel_rfl) (.cons (op_bool Try.underlying4) rfl (by kernel_rfl) (.cons (op_string Try.underlying9) rfl (by kernel_rfl) (.cons (op_string Try.underlying9) rfl (by kernel_rfl) (.last (op_string Try.underlying9) rfl (by kernel_rfl)))))) (fun x : Go.Proofs.Ytjliebggdphmpaa.G.S23 => (x.f0, (x.f1, (x.f2, x.f3)))) (fun p => ⟨p.1, p.2.1, p.2.2.1, p.2.2.2⟩) (fun _ => rfl)) h0
  obtain ⟨cs1, rfl, hcs1⟩ := okWide_struct Try.underlying38 (hval 1 38 v1 rfl rfl)
  have lt1 : ∀ x ∈ p1, x.block < W.heap.size := by obtain ⟨m, hm⟩ := h1; exact DataW.trod_lt m _ _ _ hm
  obtain ⟨x1, hK1, hG1⟩ := op_arg_struct (op_struct Try.underlying38 (by kernel_rfl) (.cons (op_string Try.underlying9) rfl (by kernel_rfl) (.cons (op_string Try.underlying9) rfl (by kernel_rfl) (.cons (op_slice Try.underlying35 (by kernel_rfl) (op_iso (op_struct Try.underlying72 (by kernel_rfl) (.cons (op_string Try.underlying9) rfl (by kernel_rfl) (.last (op_string Try.underlying9) rfl (by kernel_rfl)))) (fun x : Go.Proofs.Ytjliebggdphmpaa.G.S72 => (x.f0, x.f1)) (fun p => ⟨p.1, p.2⟩) (fun _ => rfl))) rfl (by kernel_rfl) (.last (op_slice Try.underlying36 (by kernel_rfl) (op_int Try.underlying5)) rfl (by kernel_rfl)))))) h1
  obtain ⟨_, _, E1_0, rfl, ⟨_, _, E1_1, rfl, ⟨_, _, E1_2, ⟨A1_2, c1_2, rfl, hc1_2, hr1_2⟩, ⟨A1_3, c1_3, rfl, hc1_3, hr1_3⟩⟩⟩⟩ := hK1
  subst E1_2
  subst E1_1
  obtain rfl := arr_of E1_0
  obtain ⟨a2, rfl, rfl, rfl⟩ := open_bool Try.underlying4 (hval 2 4 v2 rfl rfl) h2
  refine (Walk.AclFirst W A0 c0 l0 x1.1 x1.2.1 A1_2 c1_2 x1.2.2.1 A1_3 c1_3 x1.2.2.2 a2 hr0 hc0 g0 hr1_2 hc1_2 hr1_3 hc1_3).mono fun e W' ⟨he, bel⟩ => ?_
  subst he
  exact ⟨_, rfl, _, _, _, [], _, [], hW', trodAll_mk1 (shut_bool Try.underlying4 _), (trodAll_cons_mk (Below.trod laidOut (by kernel_rfl) (of_decide_eq_true (by kernel_rfl)) h0 bel lt0) (trodAll_cons_mk (Below.trod laidOut (by kernel_rfl) (of_decide_eq_true (by kernel_rfl)) h1 bel lt1) (trodAll_cons_mk (shut_bool Try.underlying4 _) trodAll_mk0))), rfl, bel.frame _, fun h => by cases h⟩
theorem over : Rows.aclFirstRow.holds Try.pinned (OpenSpec.ofChange Rows.aclFirstSpec) :=
  OpenClaim.holds_of_wide 5 Try.f5 rfl rfl rfl rfl rfl rfl rfl ⟨rfl, rfl, rfl, rfl, rfl⟩ rfl rfl rfl rfl rfl (by kernel_rfl) Try.func5 (by kernel_rfl)
    (of_decide_eq_true (by kernel_rfl)) (by unfold Func.isWrapper; first | (rw [if_pos (by decide +kernel)]; kernel_rfl) | (rw [if_neg (by decide +kernel)]; exact ⟨rfl, rfl⟩))
    (fun os started H enc _ => lifted os started H enc)
end Go.Proofs.Ytjliebggdphmpaa.aclFirst
namespace Go.Proofs.Ytjliebggdphmpaa
theorem aclFirst_holds : Rows.AclFirstSaid := aclFirst.over
#print axioms aclFirst_holds
end Go.Proofs.Ytjliebggdphmpaa
