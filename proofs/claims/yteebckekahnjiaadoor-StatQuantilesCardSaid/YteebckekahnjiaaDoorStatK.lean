/- The example: counted once, told. -/
import Derived.Test.YteebckekahnjiaaDoorStatA
import Derived.Test.YteebckekahnjiaaDoorSto
set_option linter.unusedVariables false
set_option linter.unusedSimpArgs false
namespace Go.Proofs.YteebckekahnjiaaDoor.Stat
open Go.RowKit Go.Proofs.YteebckekahnjiaaDoor.G Go.Proofs.YteebckekahnjiaaDoorW.PrintWords Go.Proofs.YteebckekahnjiaaDoorW.PrintMore Go.Proofs.YteebckekahnjiaaDoor.Foot Go.Proofs.YteebckekahnjiaaDoor.StatL Go.Proofs.YteebckekahnjiaaDoor.Itoa
def once : List Int := [1, 0, 0, 0, 0, 0, 0, 0, 1, 0, 0, 0, 0, 0, 0, 1, 0, 0, 0, 0, 0, 0, 0, 0, 0, 0, 0, 0, 0, 0, 0, 0, 0, 0, 0, 0, 0, 0, 0, 0, 0, 0, 0, 0, 5]
theorem bl5 : bl 5 = 3 := by rw [bl_pos (by decide), bl_pos (by decide), bl_pos (by decide), show 5 / 2 / 2 / 2 = 0 from rfl, bl_zero]
theorem once_eq : add zero 0 200 5 = once := by
  unfold add add3
  rw [show siz 5 = 5 from rfl, show (5 : Int).toNat = 5 from rfl, bl5]
  decide
theorem once_text : textOf once = ⟨#[104, 105, 116, 32, 49, 10, 109, 105, 115, 115, 32, 48, 10, 99, 104, 101, 99, 107, 32, 48, 10, 100, 101, 110, 121, 32, 48, 10, 101, 114, 114, 111, 114, 32, 48, 10, 99, 111, 110, 115, 111, 108, 101, 32, 48, 10, 98, 121, 116, 101, 115, 32, 53, 10]⟩ := by decide +kernel
set_option maxHeartbeats 4000000 in
set_option maxRecDepth 100000 in
theorem known_calls (w : World) (htab : Lib.TabIs Tryd.prog w "internal/strconv.uint64pow10" .u64 Lib.pow10Tab) :
    Calls Tryd.prog 6 #[] w fun e w' => e = .returned (.bool true) ∧ Below w.heap.size w w' := by
  have HT := Lib.hid htab
  clear htab
  go_enter Tryd.func6, Tryd.ntmps6
  go_wp2_with fail
  refine (new_calls _).mono ?_
  rintro e w1 ⟨rfl, rfl⟩
  have HO : Aside0 (Sto w (w.alloc (.cells (En zero) 56)) [(w.heap.size, OS zero)]) := ⟨(Sto.start w).push _⟩
  generalize w.heap.size = p at HO ⊢
  generalize w.alloc (.cells (En zero) 56) = w1 at HO ⊢
  go_wp2_with fail
  refine (add_calls p 0 0 200 5 zero _ (HO.out.get 0 rfl) Bd.zero (by decide) (by decide) (by decide)).mono ?_
  rintro e w2 ⟨rfl, hb, hk⟩
  have hbd := Bd.zero.add 0 200 5
  rw [once_eq] at hb hbd
  have HO2 : Aside0 (Sto w w2 [(p, OS once)]) := ⟨HO.out.put 0 rfl hb hk⟩
  have HBd := Lib.hid hbd
  clear hb hk hbd HO
  go_wp2_with fail
  refine (sizes_calls p once _ (HO2.out.get 0 rfl) rfl).mono ?_
  rintro e w3 ⟨v, rfl, hR, hB⟩
  obtain ⟨A, c, rfl, hlc, hC⟩ := Kd.R_reads hR
  have HO3 := Aside0.mk (HO2.out.step hB)
  obtain ⟨ad, hA, hcell⟩ := Kd.at_int hC 3 (by decide) (by decide)
  rw [show rd (sizes once) 3 = 1 from rfl, show (3 : Int).toNat = 3 from rfl, show ad.add 3 = ⟨ad.block, ad.off + 3, none⟩ from rfl] at hcell
  subst hA
  rw [show (sizes once).length = 32 from rfl]
  clear hR hC hB hlc HO2
  go_wp2_with fail
  refine (of_calls p 0 once _ (HO3.out.get 0 rfl) rfl).mono ?_
  rintro e w' ⟨rfl, rfl⟩
  rw [show ofV once 0 = 1 from rfl]
  go_wp2_with fail
  refine (class_calls p 2 once _ (HO3.out.get 0 rfl) rfl).mono ?_
  rintro e w' ⟨rfl, rfl⟩
  rw [show classV once 2 = 1 from rfl]
  go_wp2_with fail
  refine (bytes_calls p once _ (HO3.out.get 0 rfl) rfl).mono ?_
  rintro e w' ⟨rfl, rfl⟩
  rw [show nth once 44 = 5 from rfl]
  go_wp2_with fail
  refine (quant_calls p 1 50 once _ (HO3.out.get 0 rfl) HBd.out (by decide)).mono ?_
  rintro e w4 ⟨rfl, hB⟩
  rw [show quant once 50 = 7 by decide]
  have HO4 := Aside0.mk (HO3.out.step hB)
  clear hB HO3 hcell
  go_wp2_with fail
  refine (text_calls p 1 once _ (HO4.out.get 0 rfl) HBd.out (by decide) (tab_below HT.out HO4.out.below)).mono ?_
  rintro e w5 ⟨rfl, hB⟩
  rw [once_text]
  have HO5 := Aside0.mk (HO4.out.step hB)
  clear hB HO4
  go_wp2
  go_ret
  exact ⟨rfl, HO5.out.below⟩
end Go.Proofs.YteebckekahnjiaaDoor.Stat
