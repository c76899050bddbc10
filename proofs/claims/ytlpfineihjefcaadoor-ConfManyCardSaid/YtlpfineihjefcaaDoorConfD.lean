/- Settings are read whole. -/
import Derived.Test.YtlpfineihjefcaaDoorConfC
import Derived.Test.YtlpfineihjefcaaDoorGx1
set_option linter.unusedVariables false
set_option linter.unusedSimpArgs false
namespace Go.Proofs.YtlpfineihjefcaaDoor.Conf
open Go.RowKit Go.Proofs.YtlpfineihjefcaaDoor.G Go.Proofs.YtlpfineihjefcaaDoorW.PrintWords Go.Proofs.YtlpfineihjefcaaDoorW.PrintMore Go.Proofs.YtlpfineihjefcaaDoor.Foot
abbrev I3 (n : Int) : Obj := .cells #[.int .i64 n] 3 (0, 0)
abbrev I28 (n : Int) : Obj := .cells #[.int .i64 n] 28 (0, 0)
/-- In the middle of a reading: settings at P, the line and the error behind it, the lines at g. -/
structure PI (w : World) (P g : Nat) (o : Obj) (c : Cf) (wr : World) : Prop where
  cfg : ∃ F, Cfg P c wr F ∧ ∀ k, F k → w.heap.size ≤ k ∧ k ≠ P + 1 ∧ k ≠ P + 2 ∧ k ≠ g
  one : wr.heap[P + 1]? = some (I3 0)
  two : wr.heap[P + 2]? = some (I28 0)
  row : wr.heap[g]? = some o
  below : Below w.heap.size w wr
section
variable {w wr w' : World} {P g : Nat} {o : Obj} {c c' : Cf}
theorem PI.next (h : PI w P g o c wr) {F : Nat → Prop} (hC : Cfg P c wr F) (hF : ∀ k, F k → w.heap.size ≤ k ∧ k ≠ P + 1 ∧ k ≠ P + 2 ∧ k ≠ g) (hE : CfgE P c' wr F w') : PI w P g o c' w' := by
  obtain ⟨F', hC', hF', hk⟩ := hE
  have l1 := blk_lt h.one
  have l2 := blk_lt h.two
  have l3 := blk_lt h.row
  refine ⟨⟨F', hC', fun k hk' => ?_⟩, hk.blk h.one (fun e => (hF _ e).2.1 rfl), hk.blk h.two (fun e => (hF _ e).2.2.1 rfl), hk.blk h.row (fun e => (hF _ e).2.2.2 rfl), h.below.trans (hk.to_below h.below.size (fun k hk => (hF k hk).1))⟩
  rcases hF' k hk' with h1 | h1
  · exact hF k h1
  · have := h.below.size
    exact ⟨by omega, by omega, by omega, by omega⟩
theorem PI.step (h : PI w P g o c wr) (hb : Below wr.heap.size wr w') : PI w P g o c w' := by
  obtain ⟨F, hC, hF⟩ := h.cfg
  exact ⟨⟨F, Firm.move hC (fun k hk => hb.block k (Firm.lt hC k hk)), hF⟩, (hb.block _ (blk_lt h.one)).trans h.one, (hb.block _ (blk_lt h.two)).trans h.two, (hb.block _ (blk_lt h.row)).trans h.row, h.below.trans (hb.mono h.below.size)⟩
theorem PI.cell {xs : List ByteArray} (h : PI w P g (.cells (xs.map Value.string).toArray 9 (0, 0)) c wr) (i : Nat) (x : ByteArray) (hx : xs[i]? = some x) : wr.cell? ⟨g, i, none⟩ = some (.string x) := by
  rw [blk_cell h.row i]
  simp [hx]
end
def ParseP (res : Option Cf) (m : Nat) (w : World) (e : Ending) (w' : World) : Prop :=
  Below w.heap.size w w' ∧ match res with
    | some c => ∃ v, e = .returned (.tuple #[.agg #[v, .bool c.ranges, .string c.con, .int .i64 c.log], .int .i64 0, .int .i64 0]) ∧ ∃ ok, Kd.R k50 50 w' 0 ok v c.rules
    | none => e = .returned (.tuple #[.agg #[.slice none 0 0, .bool false, .string ⟨#[]⟩, .int .i64 0], .int .i64 (m : Int), .int .i64 124])
set_option maxHeartbeats 4000000 in
set_option maxRecDepth 100000 in
theorem parse_calls (s : ByteArray) (res : Option Cf) (m : Nat) (w : World) (hs : s.size ≤ 32768) (hrun : Run (linesOf s) 0 cfD res m) (hn : (linesOf s).length ≤ 100000) :
    Calls Tryd.prog 7 #[.string s] w (ParseP res m w) := by
  have hmf : ∀ (fn : Fn) (first cap : Array Value) (w : World), (Instr.makeFunc fn first cap).run Tryd.prog w = .ok (.func fn first cap) w := fun _ _ _ _ => rfl
  have HRUN := Lib.hid hrun
  have HN := Lib.hid hn
  clear hrun hn
  obtain ⟨P, hP⟩ : ∃ P, w.heap.size = P := ⟨_, rfl⟩
  have hb0 := blk_new w (.cells #[.slice none 0 0, .bool false, .string ⟨#[]⟩, .int .i64 0] 27)
  have hb1 := blk_new (w.alloc (.cells #[.slice none 0 0, .bool false, .string ⟨#[]⟩, .int .i64 0] 27)) (.cells #[.int .i64 0] 3)
  have hb2 := blk_new ((w.alloc (.cells #[.slice none 0 0, .bool false, .string ⟨#[]⟩, .int .i64 0] 27)).alloc (.cells #[.int .i64 0] 3)) (.cells #[.int .i64 0] 28)
  have hbb := blk_alloc (blk_alloc hb0 (.cells #[.int .i64 0] 3)) (.cells #[.int .i64 0] 28)
  have hbc := blk_alloc hb1 (.cells #[.int .i64 0] 28)
  have hbel := below_alloc (below_alloc (below_alloc (Below.refl w.heap.size w) (.cells #[.slice none 0 0, .bool false, .string ⟨#[]⟩, .int .i64 0] 27)) (.cells #[.int .i64 0] 3)) (.cells #[.int .i64 0] 28)
  simp only [World.size_alloc, hP] at hb0 hb1 hb2 hbb hbc
  have HB0 := Aside0.mk hbb
  have HB1 := Aside0.mk hbc
  have HB2 := Aside0.mk hb2
  have HBL := Aside0.mk hbel
  have HP := Lib.hid hP
  clear hb0 hb1 hb2 hbb hbc hbel
  go_enter_defers Tryd.func7, Tryd.ntmps7
  go_wp2_with fail
  refine (conf_Default.calls [] true ⟨#[99, 111, 110, 115, 111, 108, 101]⟩ 100 _ rfl).mono ?_
  rintro e w1 ⟨v, rfl, hR, hB⟩
  obtain ⟨A3, c3, hv⟩ := Kd.R_slice hR
  have hv : v = .slice A3 0 c3 := hv
  subst hv
  have hA := (hB.block _ (blk_lt HB0.out)).trans HB0.out
  have hone := (hB.block _ (blk_lt HB1.out)).trans HB1.out
  have htwo := (hB.block _ (blk_lt HB2.out)).trans HB2.out
  have hvo := (Kd.R_bound hR).1
  have HR0 := Aside0.mk hR
  have HONE := Aside0.mk hone
  have HTWO := Aside0.mk htwo
  have HA := Aside0.mk hA
  have HBW := Aside0.mk (HBL.out.trans (hB.mono HBL.out.size))
  have HVO := Aside0.mk hvo
  have HRB := Aside0.mk (Kd.R_bound hR)
  clear hR hone htwo hA hvo hB
  go_wp2_with (first
    | (refine wpList_store_row rfl 27 _ _ rfl P #[.slice A3 0 c3, .bool true, .string ⟨#[99, 111, 110, 115, 111, 108, 101]⟩, .int .i64 100] rfl rfl 27 _ HA.out (by kernel_rfl) rfl (by simp [Value.oneCell']) ?_)
    | fail)
  have hA2 := setRow_heap w1 P _ #[.slice A3 0 c3, .bool true, .string ⟨#[99, 111, 110, 115, 111, 108, 101]⟩, .int .i64 100] 27 (0, 0) HA.out
  have hone := (row_far w1 #[.slice A3 0 c3, .bool true, .string ⟨#[99, 111, 110, 115, 111, 108, 101]⟩, .int .i64 100] (show P + 1 ≠ P by omega)).trans HONE.out
  have htwo := (row_far w1 #[.slice A3 0 c3, .bool true, .string ⟨#[99, 111, 110, 115, 111, 108, 101]⟩, .int .i64 100] (show P + 1 + 1 ≠ P by omega)).trans HTWO.out
  have hkk := keeps_row (Keeps.refl (fun k => k = P) w1) #[.slice A3 0 c3, .bool true, .string ⟨#[99, 111, 110, 115, 111, 108, 101]⟩, .int .i64 100] (g := P) (.inl rfl)
  have hbw := HBW.out.trans (hkk.to_below HBW.out.size (fun k hk => by subst hk; omega))
  have hbase : (((w.alloc (.cells #[.slice none 0 0, .bool false, .string ⟨#[]⟩, .int .i64 0] 27)).alloc (.cells #[.int .i64 0] 3)).alloc (.cells #[.int .i64 0] 28)).heap.size = P + 3 := by simp [hP]
  have hRB := HRB.out
  rw [hbase] at hRB
  have hR2 := Kd.R_mono (Kd.R_step hRB (w1 := w1.setRow P #[.slice A3 0 c3, .bool true, .string ⟨#[99, 111, 110, 115, 111, 108, 101]⟩, .int .i64 100]) (fun k hk _ => row_far w1 _ (by have := hk.2.1; omega))) (ok' := fun k => P + 3 ≤ k ∧ k < w1.heap.size) (fun k hk => ⟨hk.2.1, hk.2.2.1⟩)
  have hsz : (w1.setRow P #[.slice A3 0 c3, .bool true, .string ⟨#[99, 111, 110, 115, 111, 108, 101]⟩, .int .i64 100]).heap.size = w1.heap.size := size_setRow _ _ _
  rw [← hsz] at hR2
  generalize w1.setRow P #[.slice A3 0 c3, .bool true, .string ⟨#[99, 111, 110, 115, 111, 108, 101]⟩, .int .i64 100] = w2 at hA2 hone htwo hkk hbw hR2 hsz ⊢
  have hlt2 := blk_lt htwo
  have hC2 : Cfg P cfD w2 (fun k => k = P ∨ (P + 3 ≤ k ∧ k < w2.heap.size)) := ⟨.inl rfl, fun k hk => by rcases hk with rfl | hk <;> omega, .slice A3 0 c3, hA2, Kd.R_mono (Kd.R_lower hR2 (Nat.zero_le _)) (fun k hk => ⟨.inr hk, by omega⟩)⟩
  have HI : Aside0 (PI w P w2.heap.size (.cells ((linesOf s).map Value.string).toArray 9 (0, 0)) cfD (w2.alloc (.cells ((linesOf s).map Value.string).toArray 9))) := ⟨⟨⟨_, Firm.move hC2 (fun k hk => Below.heap_alloc w2 _ k (Firm.lt hC2 k hk)), fun k hk => by rcases hk with rfl | hk <;> exact ⟨by omega, by omega, by omega, by omega⟩⟩, blk_alloc hone _, blk_alloc htwo _, blk_new w2 _, below_alloc hbw _⟩⟩
  clear hA2 hone htwo hkk hbw hbase hRB hR2 hsz hC2 HB0 HB1 HB2 HBL HR0 HONE HTWO HA HBW HVO HRB hlt2
  refine (split s _ (by omega)).mono ?_
  rintro e w3 ⟨rfl, hw3⟩
  rw [hw3]
  obtain ⟨xs, hxs⟩ : ∃ xs, linesOf s = xs := ⟨_, rfl⟩
  rw [hxs] at HI HRUN HN ⊢
  generalize hg : w2.heap.size = g at HI ⊢
  generalize w2.alloc (.cells (xs.map Value.string).toArray 9) = w4 at HI ⊢
  clear hw3 hxs hg
  have hxl : (xs.length : Int) ≤ 100000 := by have := HN.out; omega
  go_wp2_with fail
  go_loopw [16] (fun v16 wr => ∃ (i : Nat) (c : Cf), v16 = .int .i64 (i : Int) ∧ i ≤ xs.length ∧ Aside0 (Run (xs.drop i) i c res m) ∧ Aside0 (PI w P g (.cells (xs.map Value.string).toArray 9 (0, 0)) c wr)) (fun v16 _ => xs.length - (intOf v16).toNat)
  case atStart => exact ⟨0, cfD, rfl, Nat.zero_le _, ⟨HRUN.out⟩, HI⟩
  case round =>
    clear HI HRUN
    obtain ⟨i, c, rfl, hi, HRUN, HI⟩ := hrel
    by_cases hlt : i < xs.length
    · have hi0 : (0 : Int) ≤ (i : Int) := by omega
      have hi1 : (i : Int) < (xs.length : Int) := by omega
      have hcell := HI.out.cell i xs[i] (List.getElem?_eq_getElem hlt)
      have hrun := HRUN.out
      rw [List.drop_eq_getElem_cons hlt] at hrun
      generalize xs[i] = x at hcell hrun
      have HX := Lib.hid hrun
      clear hrun
      cases HX.out with
      | good ht hgood hnext =>
        rename_i t c'
        have HG := Lib.hid hgood
        have HNX := Lib.hid hnext
        clear HX hgood hnext
        go_wp2_with fail
        refine (strings_TrimSuffix.calls x ⟨#[13]⟩ t _ ht).mono ?_
        rintro e w5 ⟨rfl, hd⟩
        have HI5 := Aside0.mk (HI.out.step hd.below)
        obtain ⟨F, hC, hF⟩ := HI5.out.cfg
        have HC := Lib.hid hC
        have HF := Lib.hid hF
        clear hd hC hF hcell
        go_wp2_with fail
        refine (HG.out P _ _ F HC.out).mono ?_
        rintro e w6 ⟨rfl, hE⟩
        have HI6 := Aside0.mk (HI5.out.next HC.out HF.out hE)
        clear hE
        go_wp2_with fail
        go_roundw
        case rel => exact ⟨i + 1, c', by go_num, by omega, ⟨HNX.out⟩, HI6⟩
        case measure => simp [intOf]; omega
      | bad ht hbad =>
        rename ByteArray => t
        have HG := Lib.hid hbad
        clear HX hbad
        go_wp2_with fail
        refine (strings_TrimSuffix.calls x ⟨#[13]⟩ t _ ht).mono ?_
        rintro e w5 ⟨rfl, hd⟩
        have HI5 := Aside0.mk (HI.out.step hd.below)
        obtain ⟨F, hC, hF⟩ := HI5.out.cfg
        have HC := Lib.hid hC
        have HF := Lib.hid hF
        clear hd hC hF hcell
        go_wp2_with fail
        refine (HG.out P _ _ F HC.out).mono ?_
        rintro e w6 ⟨rfl, hE⟩
        have HI6 := Aside0.mk (HI5.out.next HC.out HF.out hE)
        clear hE
        obtain ⟨F6, ⟨_, _, v6, hb6, _⟩, _⟩ := HI6.out.cfg
        refine leaves_cons (f := 9) (args := #[.pointer (some ⟨P, 0, none⟩), .pointer (some ⟨P + 1, 0, none⟩), .pointer (some ⟨P + 2, 0, none⟩)]) (by simp) (by simp [go_sem]) ?_
        refine (catch_stop P (P + 1) (P + 2) _ _ _ _ _ _ _ w6 hb6 HI6.out.one HI6.out.two (by omega) (by omega) (by omega)).mono ?_
        rintro e u' w7 ⟨rfl, rfl, hA, hB, hC, hK⟩
        have c0 : w7.cell? ⟨P, 0, none⟩ = some (.slice none 0 0) := blk_cell hA 0
        have c1 : w7.cell? ⟨P, 1, none⟩ = some (.bool false) := blk_cell hA 1
        have c2 : w7.cell? ⟨P, 2, none⟩ = some (.string ⟨#[]⟩) := blk_cell hA 2
        have c3 : w7.cell? ⟨P, 3, none⟩ = some (.int .i64 0) := blk_cell hA 3
        have d0 : w7.cell? ⟨P + 1, 0, none⟩ = some (.int .i64 ((i : Int) + 1)) := blk_cell hB 0
        have e0 : w7.cell? ⟨P + 2, 0, none⟩ = some (.int .i64 124) := blk_cell hC 0
        have hbl : Below w.heap.size w w7 := HI6.out.below.trans (hK.to_below HI6.out.below.size (fun k hk => by omega))
        simp [Leaves, settle, results, Tryd.results7, go_sem, c0, c1, c2, c3, d0, e0]
        exact ⟨hbl, by simp⟩
    · have hin : i = xs.length := by omega
      have hrun := HRUN.out
      rw [List.drop_eq_nil_of_le (by omega)] at hrun
      cases hrun
      obtain ⟨F, ⟨hFP, hFl, v, hbP, hR⟩, hF⟩ := HI.out.cfg
      have HBP := Aside0.mk hbP
      have HR := Aside0.mk hR
      obtain ⟨A3, c3, rfl⟩ := Kd.R_slice hR
      have hA2 := setRow_heap wr P _ #[.slice A3 c.rules.length c3, .bool c.ranges, .string c.con, .int .i64 c.log] 27 (0, 0) hbP
      have hk2 := keeps_row (Keeps.refl (fun k => k = P) wr) #[.slice A3 c.rules.length c3, .bool c.ranges, .string c.con, .int .i64 c.log] (g := P) (.inl rfl)
      have HA2 := Aside0.mk hA2
      have HK2 := Aside0.mk hk2
      have HR2 := Aside0.mk (Kd.R_move hR (w1 := wr.setRow P #[.slice A3 c.rules.length c3, .bool c.ranges, .string c.con, .int .i64 c.log]) (fun k hk => row_far wr _ hk.2))
      have H1 := Aside0.mk (hk2.blk HI.out.one (by omega))
      have H2 := Aside0.mk (hk2.blk HI.out.two (by omega))
      have HFF := Lib.hid hF
      clear hbP hR hF hin hi hA2 hk2
      go_wp2_with (first
        | (refine wpList_load_row rfl 27 _ rfl P rfl 27 _ (0, 0) _ HBP.out Tryd.underlying27 rfl (by kernel_rfl) ?_)
        | (refine wpList_store_row rfl 27 _ _ rfl P #[.slice A3 c.rules.length c3, .bool c.ranges, .string c.con, .int .i64 c.log] rfl rfl 27 _ HBP.out (by kernel_rfl) rfl (by simp [Value.oneCell']) ?_; generalize wr.setRow P #[.slice A3 c.rules.length c3, .bool c.ranges, .string c.con, .int .i64 c.log] = w5 at HA2 HK2 HR2 H1 H2 ⊢; have hc1 := blk_cell H1.out 0; have hz1 := blk_frozen H1.out 0; have hc2 := blk_cell H2.out 0; have hz2 := blk_frozen H2.out 0)
        | fail)
      have hA6 := blk_far (blk_far HA2.out (p := ⟨P + 1, 0, none⟩) (by show P ≠ P + 1; omega) (.int .i64 0)) (p := ⟨P + 1 + 1, 0, none⟩) (by show P ≠ P + 1 + 1; omega) (.int .i64 0)
      have h16 := blk_far (blk_put H1.out 0 (.int .i64 0) rfl) (p := ⟨P + 1 + 1, 0, none⟩) (by show P + 1 ≠ P + 1 + 1; omega) (.int .i64 0)
      have h26 := blk_put (blk_far H2.out (p := ⟨P + 1, 0, none⟩) (by show P + 2 ≠ P + 1; omega) (.int .i64 0)) 0 (.int .i64 0) rfl
      have hk6 := (HK2.out.mono (G := fun k => k = P ∨ k = P + 1 ∨ k = P + 2) (fun k h => .inl (.inl h))).setCell (p := ⟨P + 1, 0, none⟩) (.inl (.inr (.inl rfl))) (.int .i64 0) |>.setCell (p := ⟨P + 1 + 1, 0, none⟩) (.inl (.inr (.inr rfl))) (.int .i64 0)
      have hR6 := Kd.R_far (Kd.R_far HR2.out (p := ⟨P + 1, 0, none⟩) (fun k hk => (HFF.out k hk.1).2.1) (.int .i64 0)) (p := ⟨P + 1 + 1, 0, none⟩) (fun k hk => (HFF.out k hk.1).2.2.1) (.int .i64 0)
      generalize (w5.setCell ⟨P + 1, 0, none⟩ (.int .i64 0)).setCell ⟨P + 1 + 1, 0, none⟩ (.int .i64 0) = w6 at hA6 h16 h26 hk6 hR6 ⊢
      have hbl : Below w.heap.size w w6 := HI.out.below.trans (hk6.to_below HI.out.below.size (fun k hk => by omega))
      refine leaves_cons (f := 9) (args := #[.pointer (some ⟨P, 0, none⟩), .pointer (some ⟨P + 1, 0, none⟩), .pointer (some ⟨P + 2, 0, none⟩)]) (by simp) (by simp [go_sem]) ?_
      refine (catch_idle _ _ _ _).mono ?_
      rintro e u' w7 ⟨rfl, rfl, hw7⟩
      rw [hw7]
      have c0 : w6.cell? ⟨P, 0, none⟩ = some (.slice A3 c.rules.length c3) := blk_cell hA6 0
      have c1 : w6.cell? ⟨P, 1, none⟩ = some (.bool c.ranges) := blk_cell hA6 1
      have c2 : w6.cell? ⟨P, 2, none⟩ = some (.string c.con) := blk_cell hA6 2
      have c3 : w6.cell? ⟨P, 3, none⟩ = some (.int .i64 c.log) := blk_cell hA6 3
      have d0 : w6.cell? ⟨P + 1, 0, none⟩ = some (.int .i64 0) := blk_cell h16 0
      have e0 : w6.cell? ⟨P + 2, 0, none⟩ = some (.int .i64 0) := blk_cell h26 0
      simp [Leaves, settle, results, Tryd.results7, go_sem, c0, c1, c2, c3, d0, e0]
      exact ⟨hbl, _, rfl, _, hR6⟩
theorem parse_long (s : ByteArray) (w : World) (hs : 32768 < s.size) :
    Calls Tryd.prog 7 #[.string s] w fun e w' => e = .returned (.tuple #[.agg #[.slice none 0 0, .bool false, .string ⟨#[]⟩, .int .i64 0], .int .i64 0, .int .i64 124]) ∧ Below w.heap.size w w' := by
  have hs' : decide ((32768 : Int) < (s.size : Int)) = true := by simp; omega
  go_enter_defers Tryd.func7, Tryd.ntmps7
  have hB : Below w.heap.size w (((w.alloc (.cells #[.slice none 0 0, .bool false, .string ⟨#[]⟩, .int .i64 0] 27)).alloc (.cells #[.int .i64 0] 3)).alloc (.cells #[.int .i64 124] 28)) := below_alloc (below_alloc (below_alloc (Below.refl _ _) _) _) _
  go_wp2
  simp [bodyPostD, Leaves, settle, results, Tryd.results7, go_sem]
  exact hB
end Go.Proofs.YtlpfineihjefcaaDoor.Conf
