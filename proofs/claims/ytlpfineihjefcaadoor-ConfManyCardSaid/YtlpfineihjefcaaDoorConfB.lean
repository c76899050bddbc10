/- Lines that are wrong. -/
import Derived.Test.YtlpfineihjefcaaDoorConfW
set_option linter.unusedVariables false
set_option linter.unusedSimpArgs false
namespace Go.Proofs.YtlpfineihjefcaaDoor.Conf
open Go.RowKit Go.Proofs.YtlpfineihjefcaaDoor.G Go.Proofs.YtlpfineihjefcaaDoorW.PrintWords Go.Proofs.YtlpfineihjefcaaDoorW.PrintMore Go.Proofs.YtlpfineihjefcaaDoor.Foot
set_option maxHeartbeats 4000000 in
set_option maxRecDepth 100000 in
theorem bad_rule (s x : ByteArray) (r : List ByteArray) (c : Cf) (k : Nat) (r1 : Bool) (r2 r3 r4 : ByteArray) (r5 : Int) (hw : acl_Words.f s = some (x :: r)) (h0 : 0 < x.size) (hx : bt x 0 ≠ 35) (hr : r.length ≠ 1) (hr9 : r.length ≤ 100000) (hp : acl_Parse.f k s = some (r1, r2, r3, r4, r5)) (hl : r5 ≠ 0 ∨ 50 ≤ c.rules.length) (hl2 : c.rules.length ≤ 1000) :
    Bad s c := by
  intro p n w F h
  have HI := Aside0.mk h.begin.1
  have HP := Lib.hid hp
  clear h hp
  go_enter Tryd.func11, Tryd.ntmps11
  go_wp2_with fail
  refine (acl_Words.calls s (x :: r) _ hw).mono ?_
  rintro e w1 ⟨v, rfl, hR, hB⟩
  obtain ⟨A, cp, rfl, _, hC⟩ := Kd.R_reads hR
  have HI1 := Aside0.mk (HI.out.below hB)
  obtain ⟨ad, hA, hc0⟩ := at_str hC 0 x rfl
  rw [add0] at hc0
  have hbt : ∀ h : 0 < x.size, (((x[0]'h).toNat : Int) == 35) = false := fun h => beq_eq_false_iff_ne.2 (by have := bt_at x 0 h; rw [show ((x[0]'h).toNat : Int) = bt x 0 from this]; exact hx)
  obtain ⟨m, hm⟩ : ∃ m, (x :: r).length = m := ⟨_, rfl⟩
  have hm0 : 0 < m := by rw [← hm]; simp
  have hm2 : m ≠ 2 := by rw [← hm, List.length_cons]; omega
  rw [hm]
  have hme : ((m : Int) == 0) = false := beq_eq_false_iff_ne.2 (by omega)
  have hme2 : ((m : Int) == 2) = false := beq_eq_false_iff_ne.2 (by omega)
  have hm1 : (0 : Int) < (m : Int) := by omega
  subst hA
  clear hR hB hw hC hx hr hm hm2
  go_wp2_with fail
  refine (acl_Parse.calls k s r1 r2 r3 r4 r5 _ HP.out).mono ?_
  rintro e w2 ⟨rfl, hB2⟩
  have HI2 := Aside0.mk ((HI1.out.below hB2).below (below_alloc (Below.refl _ _) (.cells #[.bool r1, .string r2, .string r3, .string r4] 50)))
  obtain ⟨_, hpF, v2, hb2, hR2⟩ := HI2.out
  obtain ⟨A0, c0, rfl, hlc, _⟩ := Kd.R_reads hR2
  have hcell := blk_cell hb2 0
  clear hB2 hc0 HI1 hb2 hR2 hbt
  by_cases h5 : r5 = 0
  · subst h5
    have hl5 : (50 : Int) ≤ (c.rules.length : Int) := by omega
    generalize c.rules.length = z at hcell hl5 hl2
    have hl5b : decide ((z : Int) < 50) = false := by simp; omega
    clear hl
    go_wp2_with fail
    (with_reducible refine (must_no _ _).mono ?_)
    rintro e w' ⟨rfl, rfl⟩
    go_wp2
    simp only [bodyPost]
    exact ⟨trivial, trivial, HI2.out.done⟩
  · have h5b : (r5 == 0) = false := beq_eq_false_iff_ne.2 h5
    clear hl h5
    go_wp2_with fail
    (with_reducible refine (must_no _ _).mono ?_)
    rintro e w' ⟨rfl, rfl⟩
    go_wp2
    simp only [bodyPost]
    exact ⟨trivial, trivial, HI2.out.done⟩
end Go.Proofs.YtlpfineihjefcaaDoor.Conf
