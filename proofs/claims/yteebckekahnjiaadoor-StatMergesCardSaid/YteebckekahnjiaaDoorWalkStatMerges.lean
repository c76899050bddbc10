/- The contract of StatMerges: numbers that are put together. -/
import Derived.Test.YteebckekahnjiaaDoorWalkStatCounts
import Derived.Test.YteebckekahnjiaaDoorKn
import Derived.Deep.DeepMust
import Derived.OpenShut
set_option linter.unusedVariables false
set_option linter.unusedSimpArgs false
namespace Go.Proofs.YteebckekahnjiaaDoor.Walk
open Go.RowKit Go.Proofs.YteebckekahnjiaaDoor.G Go.Proofs.YteebckekahnjiaaDoorW.PrintWords Go.Proofs.YteebckekahnjiaaDoorW.PrintMore Go.Proofs.YteebckekahnjiaaDoor.Foot Go.Proofs.YteebckekahnjiaaDoor.Stat Go.Proofs.YteebckekahnjiaaDoor.StatL Go.Proofs.YteebckekahnjiaaDoor.Itoa
set_option maxHeartbeats 16000000 in
set_option maxRecDepth 100000 in
theorem StatMerges (W : World) (htab : Lib.TabIs Tryd.prog W "internal/strconv.uint64pow10" .u64 Lib.pow10Tab) (A0 : Option Addr) (c0 : Nat) (l0 : List S33) (A1 : Option Addr) (c1 : Nat) (l1 : List S33)
    (hr0 : Kd.C k33 W A0 l0.length l0) (hc0 : l0.length ≤ c0) (g0 : ∀ x ∈ l0, (Lit.int .i64 x.f0).wf = true ∧ (Lit.int .i64 x.f1).wf = true ∧ (Lit.int .i64 x.f2).wf = true)
    (hr1 : Kd.C k33 W A1 l1.length l1) (hc1 : l1.length ≤ c1) (g1 : ∀ x ∈ l1, (Lit.int .i64 x.f0).wf = true ∧ (Lit.int .i64 x.f1).wf = true ∧ (Lit.int .i64 x.f2).wf = true) :
    Calls Tryd.prog 5 #[.slice A0 l0.length c0, .slice A1 l1.length c1] W fun e w' => e = .returned (.bool true) ∧ Below W.heap.size W w' := by
  have HT := Lib.hid htab
  have HR0 := Lib.hid hr0
  have HG0 := Lib.hid g0
  have HR1 := Lib.hid hr1
  have HG1 := Lib.hid g1
  clear htab hr0 g0 hr1 g1
  go_enter Tryd.func5, Tryd.ntmps5
  go_wp2_with fail
  refine (known_calls _ HT.out).mono ?_
  rintro e w1 ⟨rfl, hB⟩
  have HO := Aside0.mk (Sto.of_below hB)
  clear hB
  by_cases hl : 50 < l0.length
  · have hl' : decide (50 < (l0.length : Int)) = true := by simp; omega
    go_wp2
    go_ret
    exact ⟨rfl, HO.out.below⟩
  have hl' : decide (50 < (l0.length : Int)) = false := by simp; omega
  by_cases hm : 50 < l1.length
  · have hm' : decide (50 < (l1.length : Int)) = true := by simp; omega
    go_wp2
    go_ret
    exact ⟨rfl, HO.out.below⟩
  have hm' : decide (50 < (l1.length : Int)) = false := by simp; omega
  go_wp2_with fail
  refine (new_calls _).mono ?_
  rintro e w2 ⟨rfl, rfl⟩
  have HO := Aside0.mk (HO.out.push (.cells (En zero) 56))
  generalize hp : w1.heap.size = p at HO ⊢
  generalize w1.alloc (.cells (En zero) 56) = w2 at HO ⊢
  clear hp
  go_wp2_with fail
  refine (new_calls _).mono ?_
  rintro e w3 ⟨rfl, rfl⟩
  have HO : Aside0 (Sto W (((w2.alloc (.cells (En zero) 56)).alloc (.cells (En zero) 30)).alloc (.cells (En zero) 30)) [(p, OS zero), (w2.heap.size, OS zero), ((w2.alloc (.cells (En zero) 56)).heap.size, OR zero), (((w2.alloc (.cells (En zero) 56)).alloc (.cells (En zero) 30)).heap.size, OR zero)]) := ⟨((HO.out.push _).push _).push _⟩
  go_wp2_with fail
  simp only [World.size_alloc] at HO
  clear hl' hm'
  change Code.wp _ _ _ _ (((w2.alloc (.cells (En zero) 56)).alloc (.cells (En zero) 30)).alloc (.cells (En zero) 30))
  obtain ⟨t, ht⟩ : ∃ t, w2.heap.size = t := ⟨_, rfl⟩
  rw [ht] at HO ⊢
  obtain ⟨q, hq⟩ : ∃ q, t + 1 = q := ⟨_, rfl⟩
  have hq2 : t + 2 = q + 1 := by omega
  (try rw [hq2])
  rw [hq] at HO ⊢
  obtain ⟨u, hu⟩ : ∃ u, q + 1 = u := ⟨_, rfl⟩
  rw [hu] at HO ⊢
  generalize (((w2.alloc (.cells (En zero) 56)).alloc (.cells (En zero) 30)).alloc (.cells (En zero) 30)) = w3 at HO ⊢
  clear ht hq hu hq2
  go_loopw [9] (fun v9 wr => ∃ i : Nat, i ≤ l0.length ∧ v9 = .int .i64 (i : Int) ∧ Aside0 (Sto W wr [(p, OS (runA (l0.take i))), (t, OS zero), (q, OR (runA (l0.take i))), (u, OR zero)])) (fun v9 _ => l0.length - (intOf v9).toNat)
  case atStart => exact ⟨0, Nat.zero_le _, rfl, HO⟩
  case round =>
    clear HO
    obtain ⟨i, hi, rfl, HO⟩ := hrel
    by_cases hlt : i < l0.length
    · have hi0 : (0 : Int) ≤ (i : Int) := by omega
      have hi1 : (i : Int) < (l0.length : Int) := by omega
      obtain ⟨ad, hA, hx0, hx1, hx2⟩ := at_T33 (Kd.C_below HR0.out HO.out.below) (i : Int) hi0 hi1
      have hab := act_bd HG0.out i hlt
      have hbd := runA_bd l0 i hi
      have HNX := Lib.hid (runA_next l0 i hlt)
      rw [Int.toNat_natCast] at hx0 hx1 hx2
      generalize hx : rd_T33 l0 (i : Int) = x at hx0 hx1 hx2 hab HNX
      have HX := Lib.hid hx
      clear hx
      generalize runA (l0.take i) = cs at hbd HNX HO
      obtain ⟨f0, f1, f2⟩ := x
      have HAB := Lib.hid hab
      have HBd := Lib.hid hbd
      subst hA
      clear hab hbd
      go_wp2_with fail
      have HO2 := Aside0.mk HO.out.drew
      have HC := Aside0.mk (And.intro hx0 (And.intro hx1 hx2))
      go_still_tail 16, (by kernel_rfl)
      change wpList _ _ _ _ _ wr.drew
      have HC2 := Aside0.mk (show wr.drew.cell? (ad.add (i * 3)) = some (.int .i64 f0) ∧ wr.drew.cell? ⟨(ad.add (i * 3)).block, (ad.add (i * 3)).off + 1, none⟩ = some (.int .i64 f1) ∧ wr.drew.cell? ⟨(ad.add (i * 3)).block, (ad.add (i * 3)).off + 2, none⟩ = some (.int .i64 f2) from HC.out)
      clear hx0 hx1 hx2 HC HO
      generalize wr.drew = w4 at HO2 HC2 ⊢
      go_wp2_with fail
      refine (Stat.add_calls _ i f0 f1 f2 cs _ (HO2.out.get 0 rfl) HBd.out (by omega) HAB.out.1 HAB.out.2).mono ?_
      rintro e w5 ⟨rfl, hb, hk⟩
      have HO3 : Aside0 (Sto W w5 [(p, OS (StatL.add cs f0 f1 f2)), (t, OS zero), (q, OR cs), (u, OR zero)]) := ⟨HO2.out.put 0 rfl hb hk⟩
      obtain ⟨ad2, hA2, hx0, hx1, hx2⟩ := at_T33 (Kd.C_below HR0.out HO3.out.below) (i : Int) hi0 hi1
      cases hA2
      rw [Int.toNat_natCast] at hx0 hx1 hx2
      have HRD := Lib.hid (show rd_T33 l0 (i : Int) = ⟨f0, f1, f2⟩ from HX.out)
      rw [HRD.out] at hx0 hx1 hx2
      clear hb hk HO2 HC2
      go_wp2_with fail
      have HO4 := Aside0.mk HO3.out.drew
      go_still_tail 16, (by kernel_rfl)
      change wpList _ _ _ _ _ w5.drew
      clear hx0 hx1 hx2 HO3
      generalize w5.drew = w6 at HO4 ⊢
      go_wp2_with fail
      refine (radd_calls _ i f0 f1 f2 cs _ (HO4.out.get 2 rfl) HBd.out (by omega) HAB.out.1 HAB.out.2).mono ?_
      rintro e w7 ⟨rfl, hb, hk⟩
      have HO5 : Aside0 (Sto W w7 [(p, OS (StatL.add cs f0 f1 f2)), (t, OS zero), (q, OR (StatL.add cs f0 f1 f2)), (u, OR zero)]) := ⟨HO4.out.put 2 rfl hb hk⟩
      clear hb hk HO4
      go_wp2_with fail
      go_roundw
      case rel => exact ⟨i + 1, by omega, by go_num, ⟨by rw [HNX.out]; exact HO5.out⟩⟩
      case measure => simp [intOf]; omega
    · have hin : i = l0.length := by omega
      have htk : l0.take i = l0 := List.take_of_length_le (by omega)
      rw [htk] at HO
      have hic : ((i : Nat) : Int) = (l0.length : Int) := by omega
      rw [hic]
      clear hin htk hic hi hlt
      go_wp2_with fail
      go_loopw [10] (fun v10 wr => ∃ i : Nat, i ≤ l1.length ∧ v10 = .int .i64 (i : Int) ∧ Aside0 (Sto W wr [(p, OS (runA l0)), (t, OS (runA (l1.take i))), (q, OR (runA l0)), (u, OR (runA (l1.take i)))])) (fun v10 _ => l1.length - (intOf v10).toNat)
      case atStart => exact ⟨0, Nat.zero_le _, rfl, HO⟩
      case round =>
        clear HO
        obtain ⟨i, hi, rfl, HO⟩ := hrel
        by_cases hlt : i < l1.length
        · have hi0 : (0 : Int) ≤ (i : Int) := by omega
          have hi1 : (i : Int) < (l1.length : Int) := by omega
          obtain ⟨ad, hA, hx0, hx1, hx2⟩ := at_T33 (Kd.C_below HR1.out HO.out.below) (i : Int) hi0 hi1
          have hab := act_bd HG1.out i hlt
          have hbd := runA_bd l1 i hi
          have HNX := Lib.hid (runA_next l1 i hlt)
          rw [Int.toNat_natCast] at hx0 hx1 hx2
          generalize hx : rd_T33 l1 (i : Int) = x at hx0 hx1 hx2 hab HNX
          have HX := Lib.hid hx
          clear hx
          generalize runA (l1.take i) = cs at hbd HNX HO
          obtain ⟨f0, f1, f2⟩ := x
          have HAB := Lib.hid hab
          have HBd := Lib.hid hbd
          subst hA
          clear hab hbd
          go_wp2_with fail
          have HO2 := Aside0.mk HO.out.drew
          have HC := Aside0.mk (And.intro hx0 (And.intro hx1 hx2))
          go_still_tail 16, (by kernel_rfl)
          change wpList _ _ _ _ _ wr.drew
          have HC2 := Aside0.mk (show wr.drew.cell? (ad.add (i * 3)) = some (.int .i64 f0) ∧ wr.drew.cell? ⟨(ad.add (i * 3)).block, (ad.add (i * 3)).off + 1, none⟩ = some (.int .i64 f1) ∧ wr.drew.cell? ⟨(ad.add (i * 3)).block, (ad.add (i * 3)).off + 2, none⟩ = some (.int .i64 f2) from HC.out)
          clear hx0 hx1 hx2 HC HO
          generalize wr.drew = w4 at HO2 HC2 ⊢
          go_wp2_with fail
          refine (Stat.add_calls _ i f0 f1 f2 cs _ (HO2.out.get 1 rfl) HBd.out (by omega) HAB.out.1 HAB.out.2).mono ?_
          rintro e w5 ⟨rfl, hb, hk⟩
          have HO3 : Aside0 (Sto W w5 [(p, OS (runA l0)), (t, OS (StatL.add cs f0 f1 f2)), (q, OR (runA l0)), (u, OR cs)]) := ⟨HO2.out.put 1 rfl hb hk⟩
          obtain ⟨ad2, hA2, hx0, hx1, hx2⟩ := at_T33 (Kd.C_below HR1.out HO3.out.below) (i : Int) hi0 hi1
          cases hA2
          rw [Int.toNat_natCast] at hx0 hx1 hx2
          have HRD := Lib.hid (show rd_T33 l1 (i : Int) = ⟨f0, f1, f2⟩ from HX.out)
          rw [HRD.out] at hx0 hx1 hx2
          clear hb hk HO2 HC2
          go_wp2_with fail
          have HO4 := Aside0.mk HO3.out.drew
          go_still_tail 16, (by kernel_rfl)
          change wpList _ _ _ _ _ w5.drew
          clear hx0 hx1 hx2 HO3
          generalize w5.drew = w6 at HO4 ⊢
          go_wp2_with fail
          refine (radd_calls _ i f0 f1 f2 cs _ (HO4.out.get 3 rfl) HBd.out (by omega) HAB.out.1 HAB.out.2).mono ?_
          rintro e w7 ⟨rfl, hb, hk⟩
          have HO5 : Aside0 (Sto W w7 [(p, OS (runA l0)), (t, OS (StatL.add cs f0 f1 f2)), (q, OR (runA l0)), (u, OR (StatL.add cs f0 f1 f2))]) := ⟨HO4.out.put 3 rfl hb hk⟩
          clear hb hk HO4
          go_wp2_with fail
          go_roundw
          case rel => exact ⟨i + 1, by omega, by go_num, ⟨by rw [HNX.out]; exact HO5.out⟩⟩
          case measure => simp [intOf]; omega
        · have hin : i = l1.length := by omega
          have htk : l1.take i = l1 := List.take_of_length_le (by omega)
          rw [htk] at HO
          have hic : ((i : Nat) : Int) = (l1.length : Int) := by omega
          rw [hic]
          clear hin htk hic hi hlt
          go_wp2_with fail
          have hbd0 := runA_bd l0 l0.length (Nat.le_refl _)
          have hbd1 := runA_bd l1 l1.length (Nat.le_refl _)
          rw [List.take_length] at hbd0 hbd1
          generalize runA l0 = a at hbd0 HO
          generalize runA l1 = b at hbd1 HO
          have HA := Lib.hid (hbd0.mono (show l0.length ≤ 50 by omega))
          have HB := Lib.hid (hbd1.mono (show l1.length ≤ 50 by omega))
          clear hbd0 hbd1
          refine (new_calls _).mono ?_
          rintro e w5 ⟨rfl, rfl⟩
          have HO : Aside0 (Sto W ((wr.alloc (.cells (En zero) 56)).alloc (.cells (En zero) 30)) [(p, OS a), (t, OS b), (q, OR a), (u, OR b), (wr.heap.size, OS zero), ((wr.alloc (.cells (En zero) 56)).heap.size, OR zero)]) := ⟨(HO.out.push _).push _⟩
          go_wp2_with fail
          simp only [World.size_alloc] at HO
          obtain ⟨m, hm⟩ : ∃ m, wr.heap.size = m := ⟨_, rfl⟩
          rw [hm] at HO ⊢
          obtain ⟨v, hv⟩ : ∃ v, m + 1 = v := ⟨_, rfl⟩
          rw [hv] at HO ⊢
          change Calls _ _ _ ((wr.alloc (.cells (En zero) 56)).alloc (.cells (En zero) 30)) _
          generalize ((wr.alloc (.cells (En zero) 56)).alloc (.cells (En zero) 30)) = w5 at HO ⊢
          clear hm hv
          have H50 := Lib.hid (Bd.zero.mono (show 0 ≤ 50 by omega))
          refine (merge_calls m t 50 50 zero b _ (HO.out.get 4 rfl) (HO.out.get 1 rfl) H50.out HB.out (by omega) (by omega)).mono ?_
          rintro e w6 ⟨rfl, hb, hk⟩
          rw [mg_nought HB.out.len] at hb
          have HO6 : Aside0 (Sto W w6 [(p, OS a), (t, OS b), (q, OR a), (u, OR b), (m, OS b), (v, OR zero)]) := ⟨HO.out.put 4 rfl hb hk⟩
          clear hb hk HO
          go_wp2_with fail
          refine (merge_calls m p 50 50 b a _ (HO6.out.get 4 rfl) (HO6.out.get 0 rfl) HB.out HA.out (by omega) (by omega)).mono ?_
          rintro e w7 ⟨rfl, hb, hk⟩
          rw [mg_comm b a] at hb
          have HO7 : Aside0 (Sto W w7 [(p, OS a), (t, OS b), (q, OR a), (u, OR b), (m, OS (mg 45 a b)), (v, OR zero)]) := ⟨HO6.out.put 4 rfl hb hk⟩
          clear hb hk HO6
          go_wp2_with fail
          refine (rmerge_calls v q 50 50 zero a _ (HO7.out.get 5 rfl) (HO7.out.get 2 rfl) H50.out HA.out (by omega) (by omega)).mono ?_
          rintro e w8 ⟨rfl, hb, hk⟩
          rw [mg_nought HA.out.len] at hb
          have HO8 : Aside0 (Sto W w8 [(p, OS a), (t, OS b), (q, OR a), (u, OR b), (m, OS (mg 45 a b)), (v, OR a)]) := ⟨HO7.out.put 5 rfl hb (((Keeps.refl _ _).alloc _).trans hk (fun _ h => .inl h))⟩
          clear hb hk HO7
          go_wp2_with fail
          refine (rmerge_calls v u 50 50 a b _ (HO8.out.get 5 rfl) (HO8.out.get 3 rfl) HA.out HB.out (by omega) (by omega)).mono ?_
          rintro e w9 ⟨rfl, hb, hk⟩
          have HO9 : Aside0 (Sto W w9 [(p, OS a), (t, OS b), (q, OR a), (u, OR b), (m, OS (mg 45 a b)), (v, OR (mg 45 a b))]) := ⟨HO8.out.put 5 rfl hb (((Keeps.refl _ _).alloc _).trans hk (fun _ h => .inl h))⟩
          clear hb hk HO8
          go_wp2_with fail
          refine (merge_calls p t 50 50 a b _ (HO9.out.get 0 rfl) (HO9.out.get 1 rfl) HA.out HB.out (by omega) (by omega)).mono ?_
          rintro e w10 ⟨rfl, hb, hk⟩
          have HO10 : Aside0 (Sto W w10 [(p, OS (mg 45 a b)), (t, OS b), (q, OR a), (u, OR b), (m, OS (mg 45 a b)), (v, OR (mg 45 a b))]) := ⟨HO9.out.put 0 rfl hb hk⟩
          have HM := Lib.hid (HA.out.mg HB.out)
          generalize mg 45 a b = c at HO10 HM
          clear hb hk HO9
          go_wp2_with fail
          refine (alike_calls p v (50 + 50) c _ (HO10.out.get 0 rfl) (HO10.out.get 5 rfl) HM.out (by omega) (tab_below HT.out HO10.out.below)).mono ?_
          rintro e w11 ⟨rfl, hB⟩
          have HO11 := Aside0.mk (HO10.out.step hB)
          clear hB HO10
          go_wp2_with fail
          refine (alike_calls m v (50 + 50) c _ (HO11.out.get 4 rfl) (HO11.out.get 5 rfl) HM.out (by omega) (tab_below HT.out HO11.out.below)).mono ?_
          rintro e w12 ⟨rfl, hB⟩
          have HO12 := Aside0.mk (HO11.out.step hB)
          clear hB HO11
          go_wp2_with fail
          refine (alike_calls t u 50 b _ (HO12.out.get 1 rfl) (HO12.out.get 3 rfl) HB.out (by omega) (tab_below HT.out HO12.out.below)).mono ?_
          rintro e w13 ⟨rfl, hB⟩
          have HO13 := Aside0.mk (HO12.out.step hB)
          clear hB HO12
          go_wp2_with fail
          refine (merge_calls p p (50 + 50) (50 + 50) c c _ (HO13.out.get 0 rfl) (HO13.out.get 0 rfl) HM.out HM.out (by omega) (by omega)).mono ?_
          rintro e w14 ⟨rfl, hb, hk⟩
          have HO14 : Aside0 (Sto W w14 [(p, OS (mg 45 c c)), (t, OS b), (q, OR a), (u, OR b), (m, OS c), (v, OR c)]) := ⟨HO13.out.put 0 rfl hb hk⟩
          clear hb hk HO13
          go_wp2_with fail
          refine (rmerge_calls v v (50 + 50) (50 + 50) c c _ (HO14.out.get 5 rfl) (HO14.out.get 5 rfl) HM.out HM.out (by omega) (by omega)).mono ?_
          rintro e w15 ⟨rfl, hb, hk⟩
          have HO15 : Aside0 (Sto W w15 [(p, OS (mg 45 c c)), (t, OS b), (q, OR a), (u, OR b), (m, OS c), (v, OR (mg 45 c c))]) := ⟨HO14.out.put 5 rfl hb (((Keeps.refl _ _).alloc _).trans hk (fun _ h => .inl h))⟩
          clear hb hk HO14
          go_wp2_with fail
          refine (alike_calls p v (50 + 50 + (50 + 50)) _ _ (HO15.out.get 0 rfl) (HO15.out.get 5 rfl) (HM.out.mg HM.out) (by omega) (tab_below HT.out HO15.out.below)).mono ?_
          rintro e w16 ⟨rfl, hB⟩
          have HO16 := Aside0.mk (HO15.out.step hB)
          clear hB HO15
          go_wp2
          go_ret
          exact ⟨rfl, HO16.out.below⟩
end Go.Proofs.YteebckekahnjiaaDoor.Walk
