/- Settings in their box; what a line does to them. -/
import Derived.Test.YtlpfineihjefcaaDoorFoot
import Derived.Test.YtlpfineihjefcaaDoorGx0
import Derived.Test.YtlpfineihjefcaaDoorGx1
import Derived.Test.YtlpfineihjefcaaDoorGx2
import Derived.Test.YtlpfineihjefcaaDoorGx4
import Derived.WalkLawsBesides
import Derived.Laws.Pointers
import Derived.Outline
import Derived.Deep.DeepMust
set_option linter.unusedVariables false
set_option linter.unusedSimpArgs false
namespace Go.Proofs.YtlpfineihjefcaaDoor.Conf
open Go.RowKit Go.Proofs.YtlpfineihjefcaaDoor.G Go.Proofs.YtlpfineihjefcaaDoorW.PrintWords Go.Proofs.YtlpfineihjefcaaDoorW.PrintMore Go.Proofs.YtlpfineihjefcaaDoor.Foot

/-- The panic of a line that is wrong. -/
def stopF (n : Int) : PanicEntry := { v := .iface 36 (.agg #[.int .i64 n]), recovered := false }
theorem must_yes (n : Int) (W : World) : Calls Tryd.prog 17 #[.bool true, .int .i64 n] W fun e w' => e = .returned (.tuple #[]) ∧ w' = W := by
  go_enter Tryd.func17, Tryd.ntmps17
  go_wp2
  go_end0
  exact ⟨rfl, rfl⟩
theorem must_no (n : Int) (W : World) : Calls Tryd.prog 17 #[.bool false, .int .i64 n] W fun e w' => e = .panicked [stopF n] ∧ w' = W := by
  go_enter Tryd.func17, Tryd.ntmps17
  go_wp2
  simp [bodyPost, stopF]
structure Cf where
  rules : List S50
  ranges : Bool
  con : ByteArray
  log : Int
abbrev CO (v : Value) (c : Cf) : Obj := .cells #[v, .bool c.ranges, .string c.con, .int .i64 c.log] 27 (0, 0)
/-- Settings, whose rules are the call's own. -/
def Cfg (p : Nat) (c : Cf) : HP := fun w F => F p ∧ (∀ k, F k → k < w.heap.size) ∧ ∃ v, w.heap[p]? = some (CO v c) ∧ Kd.R k50 50 w 0 (fun k => F k ∧ k ≠ p) v c.rules
section
variable {p : Nat} {c c' : Cf} {w wr w1 w3 : World} {F : Nat → Prop} {v v' : Value}
instance : Firm (Cfg p c) where
  move := by
    rintro w w' F ⟨hp, hl, v, hb, hR⟩ hm
    exact ⟨hp, fun k hk => lt_of_same (hm k hk) (hl k hk), v, (hm p hp).trans hb, Kd.R_move hR (fun k hk => hm k hk.1)⟩
  lt := fun h => h.2.1
def CfgI (p : Nat) (c : Cf) (w : World) (F : Nat → Prop) (wr : World) : Prop := Keeps F w wr ∧ F p ∧ ∃ v, wr.heap[p]? = some (CO v c) ∧ Kd.R k50 50 wr 0 (fun k => (F k ∨ w.heap.size ≤ k) ∧ k ≠ p) v c.rules
theorem Cfg.begin (h : Cfg p c w F) : CfgI p c w F w ∧ p < w.heap.size := by
  obtain ⟨hp, hl, v, hb, hR⟩ := h
  exact ⟨⟨Keeps.refl F w, hp, v, hb, Kd.R_mono hR (fun k hk => ⟨.inl hk.1, hk.2⟩)⟩, hl p hp⟩
def CfgE (p : Nat) (c : Cf) (w : World) (F : Nat → Prop) (w' : World) : Prop := ∃ F', Cfg p c w' F' ∧ (∀ k, F' k → F k ∨ w.heap.size ≤ k) ∧ Keeps F w w'
theorem CfgI.done (h : CfgI p c w F wr) : CfgE p c w F wr := by
  obtain ⟨hk, hp, v, hb, hR⟩ := h
  refine ⟨fun k => (F k ∨ w.heap.size ≤ k) ∧ k < wr.heap.size, ⟨⟨.inl hp, blk_lt hb⟩, fun k hk => hk.2, v, hb, Kd.R_mono (Kd.R_bound hR) (fun k hk => ⟨⟨hk.1.1, hk.2.2.1⟩, hk.1.2⟩)⟩, fun k hk => hk.1, hk⟩
theorem CfgI.below (h : CfgI p c w F wr) (hb : Below wr.heap.size wr w1) : CfgI p c w F w1 := by
  obtain ⟨hk, hp, v, hb1, hR⟩ := h
  exact ⟨hk.then_below hb, hp, v, (hb.block p (blk_lt hb1)).trans hb1, Kd.R_step hR (fun k _ hl => hb.block k hl)⟩
theorem CfgI.put (h : CfgI p c w F wr) (hb : wr.heap[p]? = some (CO v c)) (hR : Kd.R k50 50 wr 0 (fun k => (F k ∨ w.heap.size ≤ k) ∧ k ≠ p) v c.rules) (i : Nat) (u : Value) (hc : (wr.setCell ⟨p, i, none⟩ u).heap[p]? = some (CO v c')) (hr : c'.rules = c.rules) : CfgI p c' w F (wr.setCell ⟨p, i, none⟩ u) := by
  obtain ⟨hk, hp, _⟩ := h
  exact ⟨hk.setCell (.inl hp) _, hp, v, hc, by rw [hr]; exact Kd.R_far hR (p := ⟨p, i, none⟩) (fun k hk => hk.2) _⟩
end
/-- A line that is taken. -/
def Good (s : ByteArray) (c c' : Cf) : Prop := ∀ (p : Nat) (n : Int) (w : World) (F : Nat → Prop), Cfg p c w F → Calls Tryd.prog 11 #[.pointer (some ⟨p, 0, none⟩), .string s, .int .i64 n] w fun e w' => e = .returned (.tuple #[]) ∧ CfgE p c' w F w'
/-- A line that is wrong. -/
def Bad (s : ByteArray) (c : Cf) : Prop := ∀ (p : Nat) (n : Int) (w : World) (F : Nat → Prop), Cfg p c w F → Calls Tryd.prog 11 #[.pointer (some ⟨p, 0, none⟩), .string s, .int .i64 n] w fun e w' => e = .panicked [stopF n] ∧ CfgE p c w F w'
set_option maxHeartbeats 2000000 in
set_option maxRecDepth 100000 in
theorem good_none (s : ByteArray) (c : Cf) (hw : acl_Words.f s = some []) : Good s c c := by
  intro p n w F h
  have HI := Aside0.mk h.begin.1
  clear h
  go_enter Tryd.func11, Tryd.ntmps11
  go_wp2_with fail
  refine (acl_Words.calls s [] _ hw).mono ?_
  rintro e w1 ⟨v, rfl, hR, hB⟩
  obtain ⟨A, cp, rfl, _, _⟩ := Kd.R_reads hR
  have HI1 := Aside0.mk (HI.out.below hB)
  clear hR hB hw
  rw [show ([] : List ByteArray).length = 0 from rfl]
  go_wp2
  refine bodyPost_ret (results_none rfl _ _ _) rfl ?_
  exact ⟨rfl, HI1.out.done⟩
theorem at_str {w : World} {A : Option Addr} {xs : List ByteArray} (h : Kd.string.C w A xs.length xs) (i : Nat) (x : ByteArray) (hx : xs[i]? = some x) : ∃ ad, A = some ad ∧ w.cell? (ad.add i) = some (.string x) := by
  have hi := (List.getElem?_eq_some_iff.1 hx).1
  obtain ⟨ad, e, hc⟩ := Kd.at_string h (i : Int) (by omega) (by omega)
  rw [Int.toNat_natCast] at hc
  refine ⟨ad, e, ?_⟩
  rw [hc]
  unfold rdOf
  rw [Int.toNat_natCast, List.getD_eq_getElem?_getD, hx]; rfl
theorem add0 (a : Addr) : a.add 0 = a := rfl
set_option maxHeartbeats 2000000 in
set_option maxRecDepth 100000 in
theorem good_note (s x : ByteArray) (r : List ByteArray) (c : Cf) (hw : acl_Words.f s = some (x :: r)) (h0 : 0 < x.size) (hx : bt x 0 = 35) (hr : r.length ≤ 100000) : Good s c c := by
  intro p n w F h
  have HI := Aside0.mk h.begin.1
  clear h
  go_enter Tryd.func11, Tryd.ntmps11
  go_wp2_with fail
  refine (acl_Words.calls s (x :: r) _ hw).mono ?_
  rintro e w1 ⟨v, rfl, hR, hB⟩
  obtain ⟨A, cp, rfl, _, hC⟩ := Kd.R_reads hR
  have HI1 := Aside0.mk (HI.out.below hB)
  obtain ⟨ad, hA, hc0⟩ := at_str hC 0 x rfl
  rw [add0] at hc0
  have hbt : ∀ h : 0 < x.size, ((x[0]'h).toNat : Int) = 35 := fun h => by have := bt_at x 0 h; rw [hx] at this; exact this
  obtain ⟨m, hm⟩ : ∃ m, (x :: r).length = m := ⟨_, rfl⟩
  have hm0 : 0 < m := by rw [← hm]; simp
  rw [hm]
  have hme : ((m : Int) == 0) = false := beq_eq_false_iff_ne.2 (by omega)
  have hm1 : (0 : Int) < (m : Int) := by omega
  subst hA
  clear hR hB hw hC hm hx
  go_wp2
  refine bodyPost_ret (results_none rfl _ _ _) rfl ?_
  exact ⟨rfl, HI1.out.done⟩
/-- The words of a line are read; what the first byte says. -/
theorem first_no {x : ByteArray} (b : Int) (hx : bt x 0 = b) (hb : b ≠ 35) : (b == 35) = false := beq_eq_false_iff_ne.2 hb
set_option maxHeartbeats 2000000 in
set_option maxRecDepth 100000 in
theorem good_off (s : ByteArray) (c : Cf) (hw : acl_Words.f s = some [⟨#[114, 97, 110, 103, 101, 115]⟩, ⟨#[111, 102, 102]⟩]) : Good s c { c with ranges := false } := by
  intro p n w F h
  have HI := Aside0.mk h.begin.1
  clear h
  go_enter Tryd.func11, Tryd.ntmps11
  go_wp2_with fail
  refine (acl_Words.calls s _ _ hw).mono ?_
  rintro e w1 ⟨v, rfl, hR, hB⟩
  obtain ⟨A, cp, rfl, _, hC⟩ := Kd.R_reads hR
  have HI1 := Aside0.mk (HI.out.below hB)
  obtain ⟨ad, hA, hc0⟩ := at_str hC 0 _ rfl
  obtain ⟨ad', hA', hc1⟩ := at_str hC 1 _ rfl
  subst hA
  cases hA'
  rw [add0] at hc0
  rw [show ad.add 1 = ⟨ad.block, ad.off + 1, none⟩ from rfl] at hc1
  obtain ⟨_, hp, v, hb, hRR⟩ := HI1.out
  have hz := blk_frozen hb 1
  have hq := blk_cell hb 1
  have HB := Aside0.mk hb
  have HRR := Aside0.mk hRR
  rw [show [(⟨#[114, 97, 110, 103, 101, 115]⟩ : ByteArray), ⟨#[111, 102, 102]⟩].length = 2 from rfl]
  clear hR hB hw hC hb hRR
  go_wp2
  go_end0
  exact ⟨rfl, (HI1.out.put (c' := { c with ranges := false }) HB.out HRR.out 1 (.bool false) (blk_put HB.out 1 _ rfl) rfl).done⟩
set_option maxHeartbeats 2000000 in
set_option maxRecDepth 100000 in
theorem log_any (s d : ByteArray) (c : Cf) (k : Nat) (m : Int) (ok : Bool) (hw : acl_Words.f s = some [⟨#[108, 111, 103]⟩, d]) (hnum : conf_Number.f k d 200 = some (m, ok)) (p : Nat) (n : Int) (w : World) (F : Nat → Prop) (h : Cfg p c w F) :
    Calls Tryd.prog 11 #[.pointer (some ⟨p, 0, none⟩), .string s, .int .i64 n] w fun e w' => if ok = true then e = .returned (.tuple #[]) ∧ CfgE p { c with log := m } w F w' else e = .panicked [stopF n] ∧ CfgE p c w F w' := by
  have HI := Aside0.mk h.begin.1
  clear h
  go_enter Tryd.func11, Tryd.ntmps11
  go_wp2_with fail
  refine (acl_Words.calls s _ _ hw).mono ?_
  rintro e w1 ⟨v, rfl, hR, hB⟩
  obtain ⟨A, cp, rfl, _, hC⟩ := Kd.R_reads hR
  have HI1 := Aside0.mk (HI.out.below hB)
  obtain ⟨ad, hA, hc0⟩ := at_str hC 0 _ rfl
  obtain ⟨ad', hA', hc1⟩ := at_str hC 1 _ rfl
  subst hA
  cases hA'
  rw [add0] at hc0
  rw [show ad.add 1 = ⟨ad.block, ad.off + 1, none⟩ from rfl] at hc1
  have HN := Lib.hid hnum
  rw [show [(⟨#[108, 111, 103]⟩ : ByteArray), d].length = 2 from rfl]
  clear hR hB hw hC hnum
  go_wp2_with fail
  refine (conf_Number.calls k d 200 m ok _ HN.out).mono ?_
  rintro e w2 ⟨rfl, hd⟩
  have HI2 := Aside0.mk (HI1.out.below hd.below)
  clear hd hc0 hc1 HI1
  cases ok with
  | true =>
    obtain ⟨_, hp, v, hb, hRR⟩ := HI2.out
    have hz := blk_frozen hb 3
    have hq := blk_cell hb 3
    have HB := Aside0.mk hb
    have HRR := Aside0.mk hRR
    clear hb hRR
    go_wp2_with fail
    refine (must_yes _ _).mono ?_
    rintro e w' ⟨rfl, rfl⟩
    go_wp2
    go_end0
    exact ⟨rfl, (HI2.out.put (c' := { c with log := m }) HB.out HRR.out 3 (.int .i64 m) (blk_put HB.out 3 _ rfl) rfl).done⟩
  | false =>
    go_wp2_with fail
    refine (must_no _ _).mono ?_
    rintro e w' ⟨rfl, rfl⟩
    go_wp2
    simp only [bodyPost]
    exact ⟨trivial, trivial, HI2.out.done⟩
end Go.Proofs.YtlpfineihjefcaaDoor.Conf
