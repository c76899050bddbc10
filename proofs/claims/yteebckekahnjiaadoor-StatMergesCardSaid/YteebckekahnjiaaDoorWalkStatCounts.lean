/- The contract of StatCounts: whatever is counted comes to the document's numbers. -/
import Derived.Test.YteebckekahnjiaaDoorStatK
import Derived.Test.YteebckekahnjiaaDoorKn
import Derived.Deep.DeepMust
import Derived.OpenShut
set_option linter.unusedVariables false
set_option linter.unusedSimpArgs false
namespace Go.Proofs.YteebckekahnjiaaDoor.Walk
open Go.RowKit Go.Proofs.YteebckekahnjiaaDoor.G Go.Proofs.YteebckekahnjiaaDoorW.PrintWords Go.Proofs.YteebckekahnjiaaDoorW.PrintMore Go.Proofs.YteebckekahnjiaaDoor.Foot Go.Proofs.YteebckekahnjiaaDoor.Stat Go.Proofs.YteebckekahnjiaaDoor.StatL Go.Proofs.YteebckekahnjiaaDoor.Itoa
def runA (l : List S33) : List Int := l.foldl (fun s x => StatL.add s x.f0 x.f1 x.f2) StatL.zero
theorem runA_snoc (l : List S33) (x : S33) : runA (l ++ [x]) = StatL.add (runA l) x.f0 x.f1 x.f2 := by simp [runA]
theorem runA_next (l : List S33) (i : Nat) (hi : i < l.length) : runA (l.take (i + 1)) = StatL.add (runA (l.take i)) (rd_T33 l i).f0 (rd_T33 l i).f1 (rd_T33 l i).f2 := by
  rw [List.take_succ_eq_append_getElem hi, runA_snoc]
  unfold rd_T33
  rw [Int.toNat_natCast, List.getD_eq_getElem?_getD, List.getElem?_eq_getElem hi]
  rfl
theorem runA_bd (l : List S33) : ∀ i, i ≤ l.length → Bd i (runA (l.take i))
  | 0, _ => Bd.zero
  | i + 1, h => by rw [runA_next l i (by omega)]; exact (runA_bd l i (by omega)).add _ _ _
theorem wf_bd {x : Int} (h : (Lit.int .i64 x).wf = true) : -9223372036854775808 ≤ x ∧ x ≤ 9223372036854775807 := bounds_i64 h
theorem act_bd {l : List S33} (g : ∀ x ∈ l, (Lit.int .i64 x.f0).wf = true ∧ (Lit.int .i64 x.f1).wf = true ∧ (Lit.int .i64 x.f2).wf = true) (i : Nat) (hi : i < l.length) :
    (-9223372036854775808 ≤ (rd_T33 l i).f1 ∧ (rd_T33 l i).f1 ≤ 9223372036854775807) ∧ (-9223372036854775808 ≤ (rd_T33 l i).f2 ∧ (rd_T33 l i).f2 ≤ 9223372036854775807) := by
  have e : rd_T33 l i = l[i] := by unfold rd_T33; rw [Int.toNat_natCast, List.getD_eq_getElem?_getD, List.getElem?_eq_getElem hi]; rfl
  rw [e]
  have := g _ (List.getElem_mem hi)
  exact ⟨wf_bd this.2.1, wf_bd this.2.2⟩
set_option maxHeartbeats 8000000 in
set_option maxRecDepth 100000 in
theorem StatCounts (W : World) (htab : Lib.TabIs Tryd.prog W "internal/strconv.uint64pow10" .u64 Lib.pow10Tab) (A0 : Option Addr) (c0 : Nat) (l0 : List S33) (a1 : Int)
    (hr0 : Kd.C k33 W A0 l0.length l0) (hc0 : l0.length ≤ c0) (g0 : ∀ x ∈ l0, (Lit.int .i64 x.f0).wf = true ∧ (Lit.int .i64 x.f1).wf = true ∧ (Lit.int .i64 x.f2).wf = true) (w1 : (Lit.int .i64 a1).wf = true) :
    Calls Tryd.prog 3 #[.slice A0 l0.length c0, .int .i64 a1] W fun e w' => e = .returned (.bool true) ∧ Below W.heap.size W w' := by
  have HT := Lib.hid htab
  have HR0 := Lib.hid hr0
  have HG0 := Lib.hid g0
  clear htab hr0 g0 w1
  go_enter Tryd.func3, Tryd.ntmps3
  go_wp2_with fail
  refine (known_calls _ HT.out).mono ?_
  rintro e w1 ⟨rfl, hB⟩
  have HO := Aside0.mk (Sto.of_below hB)
  clear hB
  by_cases hl : 100 < l0.length
  · have hl' : decide (100 < (l0.length : Int)) = true := by simp; omega
    go_wp2
    go_ret
    exact ⟨rfl, HO.out.below⟩
  have hl' : decide (100 < (l0.length : Int)) = false := by simp; omega
  go_wp2_with fail
  refine (new_calls _).mono ?_
  rintro e w2 ⟨rfl, rfl⟩
  have HO : Aside0 (Sto W ((w1.alloc (.cells (En zero) 56)).alloc (.cells (En zero) 30)) [(w1.heap.size, OS zero), ((w1.alloc (.cells (En zero) 56)).heap.size, OR zero)]) := ⟨(HO.out.push _).push _⟩
  go_wp2_with fail
  simp only [World.size_alloc] at HO
  clear hl'
  change Code.wp _ _ _ _ ((w1.alloc (.cells (En zero) 56)).alloc (.cells (En zero) 30))
  obtain ⟨p, hp⟩ : ∃ p, w1.heap.size = p := ⟨_, rfl⟩
  rw [hp] at HO ⊢
  obtain ⟨q, hq⟩ : ∃ q, p + 1 = q := ⟨_, rfl⟩
  rw [hq] at HO ⊢
  generalize ((w1.alloc (.cells (En zero) 56)).alloc (.cells (En zero) 30)) = w2 at HO ⊢
  clear hp hq
  go_loopw [7] (fun v7 wr => ∃ i : Nat, i ≤ l0.length ∧ v7 = .int .i64 (i : Int) ∧ Aside0 (Sto W wr [(p, OS (runA (l0.take i))), (q, OR (runA (l0.take i)))])) (fun v7 _ => l0.length - (intOf v7).toNat)
  case atStart => exact ⟨0, Nat.zero_le _, rfl, HO⟩
  case round =>
    clear HO
    obtain ⟨i, hi, rfl, HO⟩ := hrel
    by_cases hlt : i < l0.length
    · have hi0 : (0 : Int) ≤ (i : Int) := by omega
      have hi1 : (i : Int) < (l0.length : Int) := by omega
      obtain ⟨ad, hA, hx0, hx1, hx2⟩ := at_T33 (Kd.C_below HR0.out HO.out.below) (i : Int) hi0 hi1
      have hab := act_bd HG0.out i hlt
      have hbd := runA_bd l0 i hi
      have HNX := Lib.hid (runA_next l0 i hlt)
      rw [Int.toNat_natCast] at hx0 hx1 hx2
      generalize hx : rd_T33 l0 (i : Int) = x at hx0 hx1 hx2 hab HNX
      have HX := Lib.hid hx
      clear hx
      generalize runA (l0.take i) = cs at hbd HNX HO
      obtain ⟨f0, f1, f2⟩ := x
      have HAB := Lib.hid hab
      have HBd := Lib.hid hbd
      subst hA
      clear hab hbd
      go_wp2_with fail
      have HO2 := Aside0.mk HO.out.drew
      have HC := Aside0.mk (And.intro hx0 (And.intro hx1 hx2))
      go_still_tail 16, (by kernel_rfl)
      change wpList _ _ _ _ _ wr.drew
      have HC2 := Aside0.mk (show wr.drew.cell? (ad.add (i * 3)) = some (.int .i64 f0) ∧ wr.drew.cell? ⟨(ad.add (i * 3)).block, (ad.add (i * 3)).off + 1, none⟩ = some (.int .i64 f1) ∧ wr.drew.cell? ⟨(ad.add (i * 3)).block, (ad.add (i * 3)).off + 2, none⟩ = some (.int .i64 f2) from HC.out)
      clear hx0 hx1 hx2 HC HO
      generalize wr.drew = w4 at HO2 HC2 ⊢
      go_wp2_with fail
      refine (Stat.add_calls _ i f0 f1 f2 cs _ (HO2.out.get 0 rfl) HBd.out (by omega) HAB.out.1 HAB.out.2).mono ?_
      rintro e w5 ⟨rfl, hb, hk⟩
      have HO3 : Aside0 (Sto W w5 [(p, OS (StatL.add cs f0 f1 f2)), (q, OR cs)]) := ⟨HO2.out.put 0 rfl hb hk⟩
      obtain ⟨ad2, hA2, hx0, hx1, hx2⟩ := at_T33 (Kd.C_below HR0.out HO3.out.below) (i : Int) hi0 hi1
      cases hA2
      rw [Int.toNat_natCast] at hx0 hx1 hx2
      have HRD := Lib.hid (show rd_T33 l0 (i : Int) = ⟨f0, f1, f2⟩ from HX.out)
      rw [HRD.out] at hx0 hx1 hx2
      clear hb hk HO2 HC2
      go_wp2_with fail
      have HO4 := Aside0.mk HO3.out.drew
      go_still_tail 16, (by kernel_rfl)
      change wpList _ _ _ _ _ w5.drew
      clear hx0 hx1 hx2 HO3
      generalize w5.drew = w6 at HO4 ⊢
      go_wp2_with fail
      refine (radd_calls _ i f0 f1 f2 cs _ (HO4.out.get 1 rfl) HBd.out (by omega) HAB.out.1 HAB.out.2).mono ?_
      rintro e w7 ⟨rfl, hb, hk⟩
      have HO5 : Aside0 (Sto W w7 [(p, OS (StatL.add cs f0 f1 f2)), (q, OR (StatL.add cs f0 f1 f2))]) := ⟨HO4.out.put 1 rfl hb hk⟩
      clear hb hk HO4
      go_wp2_with fail
      go_roundw
      case rel => exact ⟨i + 1, by omega, by go_num, ⟨by rw [HNX.out]; exact HO5.out⟩⟩
      case measure => simp [intOf]; omega
    · have hin : i = l0.length := by omega
      have htk : l0.take i = l0 := List.take_of_length_le (by omega)
      rw [htk] at HO
      have hic : ((i : Nat) : Int) = (l0.length : Int) := by omega
      rw [hic]
      clear hin htk hic hi hlt
      go_wp2_with fail
      have HBd := Lib.hid (runA_bd l0 l0.length (Nat.le_refl _))
      rw [List.take_length] at HBd
      generalize runA l0 = cs at HBd HO
      refine (alike_calls p q l0.length cs _ (HO.out.get 0 rfl) (HO.out.get 1 rfl) HBd.out (by omega) (tab_below HT.out HO.out.below)).mono ?_
      rintro e w3 ⟨rfl, hB⟩
      have HO3 := Aside0.mk (HO.out.step hB)
      clear hB HO
      go_wp2_with fail
      refine (quant_calls p l0.length a1 cs _ (HO3.out.get 0 rfl) HBd.out (by omega)).mono ?_
      rintro e w4 ⟨rfl, hB⟩
      have HO4 := Aside0.mk (HO3.out.step hB)
      clear hB HO3
      go_wp2_with fail
      refine (rquant_calls q l0.length a1 cs _ (HO4.out.get 1 rfl) HBd.out (by omega)).mono ?_
      rintro e w5 ⟨rfl, rfl⟩
      generalize quant cs a1 = y
      go_wp2
      go_ret
      exact ⟨rfl, HO4.out.below⟩
end Go.Proofs.YteebckekahnjiaaDoor.Walk
