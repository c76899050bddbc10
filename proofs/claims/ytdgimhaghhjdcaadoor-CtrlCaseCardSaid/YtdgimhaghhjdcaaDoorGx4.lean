-- PRINTED by print.py (a twelfth state) out of the translation. Not trusted: Lean checks it.
import Derived.Test.YtdgimhaghhjdcaaDoorGx0
import Derived.Test.YtdgimhaghhjdcaaDoorGx1
import Derived.Test.YtdgimhaghhjdcaaDoorGx2
import Derived.Test.YtdgimhaghhjdcaaDoorGx3
namespace Go.Proofs.YtdgimhaghhjdcaaDoor.G
open Go.RowKit Go.Proofs.YtdgimhaghhjdcaaDoorW.PrintWords Go.Proofs.YtdgimhaghhjdcaaDoorW.PrintLast Go.Proofs.YtdgimhaghhjdcaaDoorW.PrintMore
attribute [local go_sem] max2_int min2_int max_two min_two max_three min_three max_four min_four   -- for this text's walks alone
set_option linter.unusedVariables false
set_option linter.unusedSimpArgs false

/-! ### ctrl_Parse: function 9 -/
-- FOR ambry/ctrl.Parse
-- NEEDS ambry/ctrl.plain; strings.Cut; ambry/head.Same; ambry/ctrl.least; ambry/ctrl.Seconds; ambry/head.All; ambry/head.List; ambry/ctrl.none
-- MAKING
-- ROUNDS
structure ctrl_Parse.Ct where
  (b0 b1 b2 b3 b4 b5 b6 b7 : Bool)
  (n8 n9 n10 n11 : Int)
deriving DecidableEq
def ctrl_Parse.cells (c : ctrl_Parse.Ct) : Array Value := #[.bool c.b0, .bool c.b1, .bool c.b2, .bool c.b3, .bool c.b4, .bool c.b5, .bool c.b6, .bool c.b7, .int .i64 c.n8, .int .i64 c.n9, .int .i64 c.n10, .int .i64 c.n11]
def ctrl_Parse.lits : List ByteArray := [(⟨#[110, 111, 45, 115, 116, 111, 114, 101]⟩ : ByteArray), (⟨#[110, 111, 45, 99, 97, 99, 104, 101]⟩ : ByteArray), (⟨#[112, 114, 105, 118, 97, 116, 101]⟩ : ByteArray), (⟨#[112, 117, 98, 108, 105, 99]⟩ : ByteArray), (⟨#[109, 117, 115, 116, 45, 114, 101, 118, 97, 108, 105, 100, 97, 116, 101]⟩ : ByteArray), (⟨#[112, 114, 111, 120, 121, 45, 114, 101, 118, 97, 108, 105, 100, 97, 116, 101]⟩ : ByteArray), (⟨#[111, 110, 108, 121, 45, 105, 102, 45, 99, 97, 99, 104, 101, 100]⟩ : ByteArray), (⟨#[109, 97, 120, 45, 97, 103, 101]⟩ : ByteArray), (⟨#[115, 45, 109, 97, 120, 97, 103, 101]⟩ : ByteArray), (⟨#[109, 105, 110, 45, 102, 114, 101, 115, 104]⟩ : ByteArray), (⟨#[109, 97, 120, 45, 115, 116, 97, 108, 101]⟩ : ByteArray)]
def ctrl_Parse.say (c : ctrl_Parse.Ct) (is : Nat → Bool) (lst : Int → Int) (has : Bool) : ctrl_Parse.Ct :=
  if is 0 = true then { c with b0 := true } else
  if is 1 = true then { c with b1 := true } else
  if is 2 = true then { c with b2 := true } else
  if is 3 = true then { c with b3 := true } else
  if is 4 = true then { c with b4 := true } else
  if is 5 = true then { c with b5 := true } else
  if is 6 = true then { c with b6 := true } else
  if is 7 = true then { c with n8 := lst c.n8 } else
  if is 8 = true then { c with n9 := lst c.n9 } else
  if is 9 = true then { c with n10 := lst c.n10 } else
  if is 10 = true then (if has = true then { c with n11 := lst c.n11 } else { c with b7 := true }) else c
theorem ctrl_Parse.set_grown {w w3 : World} {p j : Nat} {v : Value} (h : Below w.heap.size w w3) : w.grownBy (w3.setCell ⟨p, j, none⟩ v) (some p) := by
  have h0 : Below 0 w (w3.setCell ⟨p, j, none⟩ v) := (Below.mono h (Nat.zero_le _)).setCell (Nat.zero_le _) _
  exact ⟨h0.os, h0.tape, h0.output, h0.size, fun k hk hne => (Below.heap_setCell _ _ _ _ (fun e => hne (by rw [e]))).trans (h.block k hk)⟩
theorem ctrl_Parse.far_grown {w w3 : World} {p : Nat} (h : Below w.heap.size w w3) : w.grownBy w3 (some p) := ⟨h.os, h.tape, h.output, h.size, fun k hk _ => h.block k hk⟩
theorem ctrl_Parse.is_calls (k : Nat) (b : Addr) (nm s : ByteArray) (r : Bool) (w : World) (hc : w.cell? b = some (.string nm)) (h : head_Same.f k nm s = some r) :
    Calls Tryd.prog 43 #[.string s, .pointer (some b)] w fun e w' => e = .returned (.bool r) ∧ Drawn0 w w' := by
  go_enter Tryd.func43, Tryd.ntmps43
  go_wp2_with fail
  refine (head_Same.calls k nm s r _ h).mono ?_
  rintro e w1 ⟨rfl, hD⟩
  go_wp2
  go_ret
  exact ⟨rfl, hD⟩
set_option maxHeartbeats 8000000 in
set_option maxRecDepth 100000 in
theorem ctrl_Parse.say_calls (k p : Nat) (c : ctrl_Parse.Ct) (part nm v v2 : ByteArray) (has : Bool) (is : Nat → Bool) (lst : Int → Int) (w : World) (hb : w.heap[p]? = some (.cells (ctrl_Parse.cells c) 23 (0, 0)))
    (hcut : strings_Cut.f part ⟨#[61]⟩ = some (nm, v, has)) (hpl : ctrl_plain.f v = some v2) (hsame : ∀ i : Nat, i < 11 → head_Same.f k nm (ctrl_Parse.lits.getD i ⟨#[]⟩) = some (is i)) (hl : ∀ o : Int, ctrl_least.f k o v2 = some (lst o)) :
    Calls Tryd.prog 26 #[.pointer (some ⟨p, 0, none⟩), .string part] w fun e w' => e = .returned (.tuple #[]) ∧ w'.heap[p]? = some (.cells (ctrl_Parse.cells (ctrl_Parse.say c is lst has)) 23 (0, 0)) ∧ w.grownBy w' (some p) := by
  have hmf : ∀ (fn : Fn) (first cap : Array Value) (W : World), (Instr.makeFunc fn first cap).run Tryd.prog W = .ok (.func fn first cap) W := fun _ _ _ _ => rfl
  have HP := Aside0.mk hb
  have HS := Lib.hid hsame
  have HL := Lib.hid hl
  have HSAY := Lib.hid (show ctrl_Parse.say c is lst has = ctrl_Parse.say c is lst has from rfl)
  generalize hres : ctrl_Parse.say c is lst has = res at HSAY ⊢
  clear HSAY
  have HRES := Lib.hid hres
  clear hb hsame hl hres
  go_enter Tryd.func26, Tryd.ntmps26
  go_wp2_with fail
  refine (strings_Cut.calls part _ nm v has _ hcut).mono ?_
  rintro e w1 ⟨rfl, hD⟩
  obtain ⟨nd, rfl⟩ := hD.out
  have HP1 := Aside0.mk (blk_drewN HP.out nd)
  have HB1 := Aside0.mk (pw_below_drewN (Below.refl w.heap.size w) nd)
  have hpl2 := blk_lt HP.out
  have hc0 : ((w.drewN nd).alloc (.cells #[.string ⟨#[]⟩] 9)).cell? ⟨w.heap.size, 0, none⟩ = some (.string ⟨#[]⟩) := blk_cell (blk_new (w.drewN nd) (.cells #[.string ⟨#[]⟩] 9)) 0
  have hz0 : ((w.drewN nd).alloc (.cells #[.string ⟨#[]⟩] 9)).frozen? ⟨w.heap.size, 0, none⟩ = false := blk_frozen (blk_new (w.drewN nd) (.cells #[.string ⟨#[]⟩] 9)) 0
  have HNM0 := Aside0.mk (show (((w.drewN nd).alloc (.cells #[.string ⟨#[]⟩] 9)).setCell ⟨w.heap.size, 0, none⟩ (.string nm)).heap[w.heap.size]? = some (.cells #[.string nm] 9 (0, 0)) from blk_put (blk_new (w.drewN nd) (.cells #[.string ⟨#[]⟩] 9)) 0 _ rfl)
  have HP0 := Aside0.mk (show (((w.drewN nd).alloc (.cells #[.string ⟨#[]⟩] 9)).setCell ⟨w.heap.size, 0, none⟩ (.string nm)).heap[p]? = some (.cells (ctrl_Parse.cells c) 23 (0, 0)) from blk_far (blk_alloc HP1.out _) (show p ≠ w.heap.size by omega) _)
  have HB0 := Aside0.mk (show Below w.heap.size w (((w.drewN nd).alloc (.cells #[.string ⟨#[]⟩] 9)).setCell ⟨w.heap.size, 0, none⟩ (.string nm)) from below_set (below_alloc HB1.out _) (Nat.le_refl _))
  clear hD HP hcut HP1 HB1
  go_wp2_with fail
  clear hc0 hz0
  refine (ctrl_plain.calls v v2 _ hpl).mono ?_
  rintro e w2 ⟨rfl, hB⟩
  have HNM := Aside0.mk (blk_below HNM0.out hB)
  have HP := Aside0.mk (blk_below HP0.out hB)
  have HB := Aside0.mk (HB0.out.trans (Below.mono hB HB0.out.size))
  clear hB HNM0 HP0 HB0 hpl

  go_wp2_with fail
  have HS0 := Lib.hid (show head_Same.f k nm (⟨#[110, 111, 45, 115, 116, 111, 114, 101]⟩ : ByteArray) = some (is 0) from HS.out 0 (by decide))
  cases e0 : is 0
  case true =>
    rw [e0] at HS0
    refine (ctrl_Parse.is_calls k _ nm (⟨#[110, 111, 45, 115, 116, 111, 114, 101]⟩ : ByteArray) true _ (blk_cell HNM.out 0) HS0.out).mono ?_
    rintro e w3 ⟨rfl, hD⟩
    obtain ⟨nd, rfl⟩ := hD.out
    have HNM2 := Aside0.mk (blk_drewN HNM.out nd)
    have HP2 := Aside0.mk (blk_drewN HP.out nd)
    have HB2 := Aside0.mk (pw_below_drewN HB.out nd)
    clear hD HNM HP HB
    generalize w2.drewN nd = w3 at HNM2 HP2 HB2 ⊢
    rename World => w2
    have HNM := HNM2
    have HP := HP2
    have HB := HB2
    clear HNM2 HP2 HB2
    have HR := Lib.hid (show res = _ by rw [← HRES.out, ctrl_Parse.say, if_pos e0])
    clear HRES
    have hcj : w2.cell? ⟨p, 0, none⟩ = some (.bool c.b0) := blk_cell HP.out 0
    have hzj := blk_frozen HP.out 0
    go_wp2
    go_end0
    exact ⟨rfl, by rw [HR.out]; exact blk_put HP.out 0 (.bool true) rfl, ctrl_Parse.set_grown HB.out⟩
  rw [e0] at HS0
  refine (ctrl_Parse.is_calls k _ nm (⟨#[110, 111, 45, 115, 116, 111, 114, 101]⟩ : ByteArray) false _ (blk_cell HNM.out 0) HS0.out).mono ?_
  rintro e w3 ⟨rfl, hD⟩
  obtain ⟨nd, rfl⟩ := hD.out
  have HNM2 := Aside0.mk (blk_drewN HNM.out nd)
  have HP2 := Aside0.mk (blk_drewN HP.out nd)
  have HB2 := Aside0.mk (pw_below_drewN HB.out nd)
  clear hD HNM HP HB
  generalize w2.drewN nd = w3 at HNM2 HP2 HB2 ⊢
  rename World => w2
  have HNM := HNM2
  have HP := HP2
  have HB := HB2
  clear HNM2 HP2 HB2
  go_wp2_with fail
  have HS1 := Lib.hid (show head_Same.f k nm (⟨#[110, 111, 45, 99, 97, 99, 104, 101]⟩ : ByteArray) = some (is 1) from HS.out 1 (by decide))
  cases e1 : is 1
  case true =>
    rw [e1] at HS1
    refine (ctrl_Parse.is_calls k _ nm (⟨#[110, 111, 45, 99, 97, 99, 104, 101]⟩ : ByteArray) true _ (blk_cell HNM.out 0) HS1.out).mono ?_
    rintro e w3 ⟨rfl, hD⟩
    obtain ⟨nd, rfl⟩ := hD.out
    have HNM2 := Aside0.mk (blk_drewN HNM.out nd)
    have HP2 := Aside0.mk (blk_drewN HP.out nd)
    have HB2 := Aside0.mk (pw_below_drewN HB.out nd)
    clear hD HNM HP HB
    generalize w2.drewN nd = w3 at HNM2 HP2 HB2 ⊢
    rename World => w2
    have HNM := HNM2
    have HP := HP2
    have HB := HB2
    clear HNM2 HP2 HB2
    have HR := Lib.hid (show res = _ by rw [← HRES.out, ctrl_Parse.say, if_neg (by rw [e0]; decide), if_pos e1])
    clear HRES
    have hcj : w2.cell? ⟨p, 1, none⟩ = some (.bool c.b1) := blk_cell HP.out 1
    have hzj := blk_frozen HP.out 1
    go_wp2
    go_end0
    exact ⟨rfl, by rw [HR.out]; exact blk_put HP.out 1 (.bool true) rfl, ctrl_Parse.set_grown HB.out⟩
  rw [e1] at HS1
  refine (ctrl_Parse.is_calls k _ nm (⟨#[110, 111, 45, 99, 97, 99, 104, 101]⟩ : ByteArray) false _ (blk_cell HNM.out 0) HS1.out).mono ?_
  rintro e w3 ⟨rfl, hD⟩
  obtain ⟨nd, rfl⟩ := hD.out
  have HNM2 := Aside0.mk (blk_drewN HNM.out nd)
  have HP2 := Aside0.mk (blk_drewN HP.out nd)
  have HB2 := Aside0.mk (pw_below_drewN HB.out nd)
  clear hD HNM HP HB
  generalize w2.drewN nd = w3 at HNM2 HP2 HB2 ⊢
  rename World => w2
  have HNM := HNM2
  have HP := HP2
  have HB := HB2
  clear HNM2 HP2 HB2
  go_wp2_with fail
  have HS2 := Lib.hid (show head_Same.f k nm (⟨#[112, 114, 105, 118, 97, 116, 101]⟩ : ByteArray) = some (is 2) from HS.out 2 (by decide))
  cases e2 : is 2
  case true =>
    rw [e2] at HS2
    refine (ctrl_Parse.is_calls k _ nm (⟨#[112, 114, 105, 118, 97, 116, 101]⟩ : ByteArray) true _ (blk_cell HNM.out 0) HS2.out).mono ?_
    rintro e w3 ⟨rfl, hD⟩
    obtain ⟨nd, rfl⟩ := hD.out
    have HNM2 := Aside0.mk (blk_drewN HNM.out nd)
    have HP2 := Aside0.mk (blk_drewN HP.out nd)
    have HB2 := Aside0.mk (pw_below_drewN HB.out nd)
    clear hD HNM HP HB
    generalize w2.drewN nd = w3 at HNM2 HP2 HB2 ⊢
    rename World => w2
    have HNM := HNM2
    have HP := HP2
    have HB := HB2
    clear HNM2 HP2 HB2
    have HR := Lib.hid (show res = _ by rw [← HRES.out, ctrl_Parse.say, if_neg (by rw [e0]; decide), if_neg (by rw [e1]; decide), if_pos e2])
    clear HRES
    have hcj : w2.cell? ⟨p, 2, none⟩ = some (.bool c.b2) := blk_cell HP.out 2
    have hzj := blk_frozen HP.out 2
    go_wp2
    go_end0
    exact ⟨rfl, by rw [HR.out]; exact blk_put HP.out 2 (.bool true) rfl, ctrl_Parse.set_grown HB.out⟩
  rw [e2] at HS2
  refine (ctrl_Parse.is_calls k _ nm (⟨#[112, 114, 105, 118, 97, 116, 101]⟩ : ByteArray) false _ (blk_cell HNM.out 0) HS2.out).mono ?_
  rintro e w3 ⟨rfl, hD⟩
  obtain ⟨nd, rfl⟩ := hD.out
  have HNM2 := Aside0.mk (blk_drewN HNM.out nd)
  have HP2 := Aside0.mk (blk_drewN HP.out nd)
  have HB2 := Aside0.mk (pw_below_drewN HB.out nd)
  clear hD HNM HP HB
  generalize w2.drewN nd = w3 at HNM2 HP2 HB2 ⊢
  rename World => w2
  have HNM := HNM2
  have HP := HP2
  have HB := HB2
  clear HNM2 HP2 HB2
  go_wp2_with fail
  have HS3 := Lib.hid (show head_Same.f k nm (⟨#[112, 117, 98, 108, 105, 99]⟩ : ByteArray) = some (is 3) from HS.out 3 (by decide))
  cases e3 : is 3
  case true =>
    rw [e3] at HS3
    refine (ctrl_Parse.is_calls k _ nm (⟨#[112, 117, 98, 108, 105, 99]⟩ : ByteArray) true _ (blk_cell HNM.out 0) HS3.out).mono ?_
    rintro e w3 ⟨rfl, hD⟩
    obtain ⟨nd, rfl⟩ := hD.out
    have HNM2 := Aside0.mk (blk_drewN HNM.out nd)
    have HP2 := Aside0.mk (blk_drewN HP.out nd)
    have HB2 := Aside0.mk (pw_below_drewN HB.out nd)
    clear hD HNM HP HB
    generalize w2.drewN nd = w3 at HNM2 HP2 HB2 ⊢
    rename World => w2
    have HNM := HNM2
    have HP := HP2
    have HB := HB2
    clear HNM2 HP2 HB2
    have HR := Lib.hid (show res = _ by rw [← HRES.out, ctrl_Parse.say, if_neg (by rw [e0]; decide), if_neg (by rw [e1]; decide), if_neg (by rw [e2]; decide), if_pos e3])
    clear HRES
    have hcj : w2.cell? ⟨p, 3, none⟩ = some (.bool c.b3) := blk_cell HP.out 3
    have hzj := blk_frozen HP.out 3
    go_wp2
    go_end0
    exact ⟨rfl, by rw [HR.out]; exact blk_put HP.out 3 (.bool true) rfl, ctrl_Parse.set_grown HB.out⟩
  rw [e3] at HS3
  refine (ctrl_Parse.is_calls k _ nm (⟨#[112, 117, 98, 108, 105, 99]⟩ : ByteArray) false _ (blk_cell HNM.out 0) HS3.out).mono ?_
  rintro e w3 ⟨rfl, hD⟩
  obtain ⟨nd, rfl⟩ := hD.out
  have HNM2 := Aside0.mk (blk_drewN HNM.out nd)
  have HP2 := Aside0.mk (blk_drewN HP.out nd)
  have HB2 := Aside0.mk (pw_below_drewN HB.out nd)
  clear hD HNM HP HB
  generalize w2.drewN nd = w3 at HNM2 HP2 HB2 ⊢
  rename World => w2
  have HNM := HNM2
  have HP := HP2
  have HB := HB2
  clear HNM2 HP2 HB2
  go_wp2_with fail
  have HS4 := Lib.hid (show head_Same.f k nm (⟨#[109, 117, 115, 116, 45, 114, 101, 118, 97, 108, 105, 100, 97, 116, 101]⟩ : ByteArray) = some (is 4) from HS.out 4 (by decide))
  cases e4 : is 4
  case true =>
    rw [e4] at HS4
    refine (ctrl_Parse.is_calls k _ nm (⟨#[109, 117, 115, 116, 45, 114, 101, 118, 97, 108, 105, 100, 97, 116, 101]⟩ : ByteArray) true _ (blk_cell HNM.out 0) HS4.out).mono ?_
    rintro e w3 ⟨rfl, hD⟩
    obtain ⟨nd, rfl⟩ := hD.out
    have HNM2 := Aside0.mk (blk_drewN HNM.out nd)
    have HP2 := Aside0.mk (blk_drewN HP.out nd)
    have HB2 := Aside0.mk (pw_below_drewN HB.out nd)
    clear hD HNM HP HB
    generalize w2.drewN nd = w3 at HNM2 HP2 HB2 ⊢
    rename World => w2
    have HNM := HNM2
    have HP := HP2
    have HB := HB2
    clear HNM2 HP2 HB2
    have HR := Lib.hid (show res = _ by rw [← HRES.out, ctrl_Parse.say, if_neg (by rw [e0]; decide), if_neg (by rw [e1]; decide), if_neg (by rw [e2]; decide), if_neg (by rw [e3]; decide), if_pos e4])
    clear HRES
    have hcj : w2.cell? ⟨p, 4, none⟩ = some (.bool c.b4) := blk_cell HP.out 4
    have hzj := blk_frozen HP.out 4
    go_wp2
    go_end0
    exact ⟨rfl, by rw [HR.out]; exact blk_put HP.out 4 (.bool true) rfl, ctrl_Parse.set_grown HB.out⟩
  rw [e4] at HS4
  refine (ctrl_Parse.is_calls k _ nm (⟨#[109, 117, 115, 116, 45, 114, 101, 118, 97, 108, 105, 100, 97, 116, 101]⟩ : ByteArray) false _ (blk_cell HNM.out 0) HS4.out).mono ?_
  rintro e w3 ⟨rfl, hD⟩
  obtain ⟨nd, rfl⟩ := hD.out
  have HNM2 := Aside0.mk (blk_drewN HNM.out nd)
  have HP2 := Aside0.mk (blk_drewN HP.out nd)
  have HB2 := Aside0.mk (pw_below_drewN HB.out nd)
  clear hD HNM HP HB
  generalize w2.drewN nd = w3 at HNM2 HP2 HB2 ⊢
  rename World => w2
  have HNM := HNM2
  have HP := HP2
  have HB := HB2
  clear HNM2 HP2 HB2
  go_wp2_with fail
  have HS5 := Lib.hid (show head_Same.f k nm (⟨#[112, 114, 111, 120, 121, 45, 114, 101, 118, 97, 108, 105, 100, 97, 116, 101]⟩ : ByteArray) = some (is 5) from HS.out 5 (by decide))
  cases e5 : is 5
  case true =>
    rw [e5] at HS5
    refine (ctrl_Parse.is_calls k _ nm (⟨#[112, 114, 111, 120, 121, 45, 114, 101, 118, 97, 108, 105, 100, 97, 116, 101]⟩ : ByteArray) true _ (blk_cell HNM.out 0) HS5.out).mono ?_
    rintro e w3 ⟨rfl, hD⟩
    obtain ⟨nd, rfl⟩ := hD.out
    have HNM2 := Aside0.mk (blk_drewN HNM.out nd)
    have HP2 := Aside0.mk (blk_drewN HP.out nd)
    have HB2 := Aside0.mk (pw_below_drewN HB.out nd)
    clear hD HNM HP HB
    generalize w2.drewN nd = w3 at HNM2 HP2 HB2 ⊢
    rename World => w2
    have HNM := HNM2
    have HP := HP2
    have HB := HB2
    clear HNM2 HP2 HB2
    have HR := Lib.hid (show res = _ by rw [← HRES.out, ctrl_Parse.say, if_neg (by rw [e0]; decide), if_neg (by rw [e1]; decide), if_neg (by rw [e2]; decide), if_neg (by rw [e3]; decide), if_neg (by rw [e4]; decide), if_pos e5])
    clear HRES
    have hcj : w2.cell? ⟨p, 5, none⟩ = some (.bool c.b5) := blk_cell HP.out 5
    have hzj := blk_frozen HP.out 5
    go_wp2
    go_end0
    exact ⟨rfl, by rw [HR.out]; exact blk_put HP.out 5 (.bool true) rfl, ctrl_Parse.set_grown HB.out⟩
  rw [e5] at HS5
  refine (ctrl_Parse.is_calls k _ nm (⟨#[112, 114, 111, 120, 121, 45, 114, 101, 118, 97, 108, 105, 100, 97, 116, 101]⟩ : ByteArray) false _ (blk_cell HNM.out 0) HS5.out).mono ?_
  rintro e w3 ⟨rfl, hD⟩
  obtain ⟨nd, rfl⟩ := hD.out
  have HNM2 := Aside0.mk (blk_drewN HNM.out nd)
  have HP2 := Aside0.mk (blk_drewN HP.out nd)
  have HB2 := Aside0.mk (pw_below_drewN HB.out nd)
  clear hD HNM HP HB
  generalize w2.drewN nd = w3 at HNM2 HP2 HB2 ⊢
  rename World => w2
  have HNM := HNM2
  have HP := HP2
  have HB := HB2
  clear HNM2 HP2 HB2
  go_wp2_with fail
  have HS6 := Lib.hid (show head_Same.f k nm (⟨#[111, 110, 108, 121, 45, 105, 102, 45, 99, 97, 99, 104, 101, 100]⟩ : ByteArray) = some (is 6) from HS.out 6 (by decide))
  cases e6 : is 6
  case true =>
    rw [e6] at HS6
    refine (ctrl_Parse.is_calls k _ nm (⟨#[111, 110, 108, 121, 45, 105, 102, 45, 99, 97, 99, 104, 101, 100]⟩ : ByteArray) true _ (blk_cell HNM.out 0) HS6.out).mono ?_
    rintro e w3 ⟨rfl, hD⟩
    obtain ⟨nd, rfl⟩ := hD.out
    have HNM2 := Aside0.mk (blk_drewN HNM.out nd)
    have HP2 := Aside0.mk (blk_drewN HP.out nd)
    have HB2 := Aside0.mk (pw_below_drewN HB.out nd)
    clear hD HNM HP HB
    generalize w2.drewN nd = w3 at HNM2 HP2 HB2 ⊢
    rename World => w2
    have HNM := HNM2
    have HP := HP2
    have HB := HB2
    clear HNM2 HP2 HB2
    have HR := Lib.hid (show res = _ by rw [← HRES.out, ctrl_Parse.say, if_neg (by rw [e0]; decide), if_neg (by rw [e1]; decide), if_neg (by rw [e2]; decide), if_neg (by rw [e3]; decide), if_neg (by rw [e4]; decide), if_neg (by rw [e5]; decide), if_pos e6])
    clear HRES
    have hcj : w2.cell? ⟨p, 6, none⟩ = some (.bool c.b6) := blk_cell HP.out 6
    have hzj := blk_frozen HP.out 6
    go_wp2
    go_end0
    exact ⟨rfl, by rw [HR.out]; exact blk_put HP.out 6 (.bool true) rfl, ctrl_Parse.set_grown HB.out⟩
  rw [e6] at HS6
  refine (ctrl_Parse.is_calls k _ nm (⟨#[111, 110, 108, 121, 45, 105, 102, 45, 99, 97, 99, 104, 101, 100]⟩ : ByteArray) false _ (blk_cell HNM.out 0) HS6.out).mono ?_
  rintro e w3 ⟨rfl, hD⟩
  obtain ⟨nd, rfl⟩ := hD.out
  have HNM2 := Aside0.mk (blk_drewN HNM.out nd)
  have HP2 := Aside0.mk (blk_drewN HP.out nd)
  have HB2 := Aside0.mk (pw_below_drewN HB.out nd)
  clear hD HNM HP HB
  generalize w2.drewN nd = w3 at HNM2 HP2 HB2 ⊢
  rename World => w2
  have HNM := HNM2
  have HP := HP2
  have HB := HB2
  clear HNM2 HP2 HB2
  go_wp2_with fail
  have HS7 := Lib.hid (show head_Same.f k nm (⟨#[109, 97, 120, 45, 97, 103, 101]⟩ : ByteArray) = some (is 7) from HS.out 7 (by decide))
  cases e7 : is 7
  case true =>
    rw [e7] at HS7
    refine (ctrl_Parse.is_calls k _ nm (⟨#[109, 97, 120, 45, 97, 103, 101]⟩ : ByteArray) true _ (blk_cell HNM.out 0) HS7.out).mono ?_
    rintro e w3 ⟨rfl, hD⟩
    obtain ⟨nd, rfl⟩ := hD.out
    have HNM2 := Aside0.mk (blk_drewN HNM.out nd)
    have HP2 := Aside0.mk (blk_drewN HP.out nd)
    have HB2 := Aside0.mk (pw_below_drewN HB.out nd)
    clear hD HNM HP HB
    generalize w2.drewN nd = w3 at HNM2 HP2 HB2 ⊢
    rename World => w2
    have HNM := HNM2
    have HP := HP2
    have HB := HB2
    clear HNM2 HP2 HB2
    have HR := Lib.hid (show res = _ by rw [← HRES.out, ctrl_Parse.say, if_neg (by rw [e0]; decide), if_neg (by rw [e1]; decide), if_neg (by rw [e2]; decide), if_neg (by rw [e3]; decide), if_neg (by rw [e4]; decide), if_neg (by rw [e5]; decide), if_neg (by rw [e6]; decide), if_pos e7])
    clear HRES
    have hcj : w2.cell? ⟨p, 8, none⟩ = some (.int .i64 c.n8) := blk_cell HP.out 8
    go_wp2_with fail
    refine (ctrl_least.calls k c.n8 v2 (lst c.n8) _ (HL.out c.n8)).mono ?_
    rintro e w4 ⟨rfl, hB⟩
    have HB4 := Aside0.mk (HB.out.trans (Below.mono hB HB.out.size))
    have HP4 := Aside0.mk (blk_below HP.out hB)
    have hcj4 : w4.cell? ⟨p, 8, none⟩ = some (.int .i64 c.n8) := blk_cell HP4.out 8
    have hzj4 := blk_frozen HP4.out 8
    clear hB
    go_wp2
    go_end0
    exact ⟨rfl, by rw [HR.out]; exact blk_put HP4.out 8 (.int .i64 (lst c.n8)) rfl, ctrl_Parse.set_grown HB4.out⟩
  rw [e7] at HS7
  refine (ctrl_Parse.is_calls k _ nm (⟨#[109, 97, 120, 45, 97, 103, 101]⟩ : ByteArray) false _ (blk_cell HNM.out 0) HS7.out).mono ?_
  rintro e w3 ⟨rfl, hD⟩
  obtain ⟨nd, rfl⟩ := hD.out
  have HNM2 := Aside0.mk (blk_drewN HNM.out nd)
  have HP2 := Aside0.mk (blk_drewN HP.out nd)
  have HB2 := Aside0.mk (pw_below_drewN HB.out nd)
  clear hD HNM HP HB
  generalize w2.drewN nd = w3 at HNM2 HP2 HB2 ⊢
  rename World => w2
  have HNM := HNM2
  have HP := HP2
  have HB := HB2
  clear HNM2 HP2 HB2
  go_wp2_with fail
  have HS8 := Lib.hid (show head_Same.f k nm (⟨#[115, 45, 109, 97, 120, 97, 103, 101]⟩ : ByteArray) = some (is 8) from HS.out 8 (by decide))
  cases e8 : is 8
  case true =>
    rw [e8] at HS8
    refine (ctrl_Parse.is_calls k _ nm (⟨#[115, 45, 109, 97, 120, 97, 103, 101]⟩ : ByteArray) true _ (blk_cell HNM.out 0) HS8.out).mono ?_
    rintro e w3 ⟨rfl, hD⟩
    obtain ⟨nd, rfl⟩ := hD.out
    have HNM2 := Aside0.mk (blk_drewN HNM.out nd)
    have HP2 := Aside0.mk (blk_drewN HP.out nd)
    have HB2 := Aside0.mk (pw_below_drewN HB.out nd)
    clear hD HNM HP HB
    generalize w2.drewN nd = w3 at HNM2 HP2 HB2 ⊢
    rename World => w2
    have HNM := HNM2
    have HP := HP2
    have HB := HB2
    clear HNM2 HP2 HB2
    have HR := Lib.hid (show res = _ by rw [← HRES.out, ctrl_Parse.say, if_neg (by rw [e0]; decide), if_neg (by rw [e1]; decide), if_neg (by rw [e2]; decide), if_neg (by rw [e3]; decide), if_neg (by rw [e4]; decide), if_neg (by rw [e5]; decide), if_neg (by rw [e6]; decide), if_neg (by rw [e7]; decide), if_pos e8])
    clear HRES
    have hcj : w2.cell? ⟨p, 9, none⟩ = some (.int .i64 c.n9) := blk_cell HP.out 9
    go_wp2_with fail
    refine (ctrl_least.calls k c.n9 v2 (lst c.n9) _ (HL.out c.n9)).mono ?_
    rintro e w4 ⟨rfl, hB⟩
    have HB4 := Aside0.mk (HB.out.trans (Below.mono hB HB.out.size))
    have HP4 := Aside0.mk (blk_below HP.out hB)
    have hcj4 : w4.cell? ⟨p, 9, none⟩ = some (.int .i64 c.n9) := blk_cell HP4.out 9
    have hzj4 := blk_frozen HP4.out 9
    clear hB
    go_wp2
    go_end0
    exact ⟨rfl, by rw [HR.out]; exact blk_put HP4.out 9 (.int .i64 (lst c.n9)) rfl, ctrl_Parse.set_grown HB4.out⟩
  rw [e8] at HS8
  refine (ctrl_Parse.is_calls k _ nm (⟨#[115, 45, 109, 97, 120, 97, 103, 101]⟩ : ByteArray) false _ (blk_cell HNM.out 0) HS8.out).mono ?_
  rintro e w3 ⟨rfl, hD⟩
  obtain ⟨nd, rfl⟩ := hD.out
  have HNM2 := Aside0.mk (blk_drewN HNM.out nd)
  have HP2 := Aside0.mk (blk_drewN HP.out nd)
  have HB2 := Aside0.mk (pw_below_drewN HB.out nd)
  clear hD HNM HP HB
  generalize w2.drewN nd = w3 at HNM2 HP2 HB2 ⊢
  rename World => w2
  have HNM := HNM2
  have HP := HP2
  have HB := HB2
  clear HNM2 HP2 HB2
  go_wp2_with fail
  have HS9 := Lib.hid (show head_Same.f k nm (⟨#[109, 105, 110, 45, 102, 114, 101, 115, 104]⟩ : ByteArray) = some (is 9) from HS.out 9 (by decide))
  cases e9 : is 9
  case true =>
    rw [e9] at HS9
    refine (ctrl_Parse.is_calls k _ nm (⟨#[109, 105, 110, 45, 102, 114, 101, 115, 104]⟩ : ByteArray) true _ (blk_cell HNM.out 0) HS9.out).mono ?_
    rintro e w3 ⟨rfl, hD⟩
    obtain ⟨nd, rfl⟩ := hD.out
    have HNM2 := Aside0.mk (blk_drewN HNM.out nd)
    have HP2 := Aside0.mk (blk_drewN HP.out nd)
    have HB2 := Aside0.mk (pw_below_drewN HB.out nd)
    clear hD HNM HP HB
    generalize w2.drewN nd = w3 at HNM2 HP2 HB2 ⊢
    rename World => w2
    have HNM := HNM2
    have HP := HP2
    have HB := HB2
    clear HNM2 HP2 HB2
    have HR := Lib.hid (show res = _ by rw [← HRES.out, ctrl_Parse.say, if_neg (by rw [e0]; decide), if_neg (by rw [e1]; decide), if_neg (by rw [e2]; decide), if_neg (by rw [e3]; decide), if_neg (by rw [e4]; decide), if_neg (by rw [e5]; decide), if_neg (by rw [e6]; decide), if_neg (by rw [e7]; decide), if_neg (by rw [e8]; decide), if_pos e9])
    clear HRES
    have hcj : w2.cell? ⟨p, 10, none⟩ = some (.int .i64 c.n10) := blk_cell HP.out 10
    go_wp2_with fail
    refine (ctrl_least.calls k c.n10 v2 (lst c.n10) _ (HL.out c.n10)).mono ?_
    rintro e w4 ⟨rfl, hB⟩
    have HB4 := Aside0.mk (HB.out.trans (Below.mono hB HB.out.size))
    have HP4 := Aside0.mk (blk_below HP.out hB)
    have hcj4 : w4.cell? ⟨p, 10, none⟩ = some (.int .i64 c.n10) := blk_cell HP4.out 10
    have hzj4 := blk_frozen HP4.out 10
    clear hB
    go_wp2
    go_end0
    exact ⟨rfl, by rw [HR.out]; exact blk_put HP4.out 10 (.int .i64 (lst c.n10)) rfl, ctrl_Parse.set_grown HB4.out⟩
  rw [e9] at HS9
  refine (ctrl_Parse.is_calls k _ nm (⟨#[109, 105, 110, 45, 102, 114, 101, 115, 104]⟩ : ByteArray) false _ (blk_cell HNM.out 0) HS9.out).mono ?_
  rintro e w3 ⟨rfl, hD⟩
  obtain ⟨nd, rfl⟩ := hD.out
  have HNM2 := Aside0.mk (blk_drewN HNM.out nd)
  have HP2 := Aside0.mk (blk_drewN HP.out nd)
  have HB2 := Aside0.mk (pw_below_drewN HB.out nd)
  clear hD HNM HP HB
  generalize w2.drewN nd = w3 at HNM2 HP2 HB2 ⊢
  rename World => w2
  have HNM := HNM2
  have HP := HP2
  have HB := HB2
  clear HNM2 HP2 HB2
  go_wp2_with fail
  have HS10 := Lib.hid (show head_Same.f k nm (⟨#[109, 97, 120, 45, 115, 116, 97, 108, 101]⟩ : ByteArray) = some (is 10) from HS.out 10 (by decide))
  cases e10 : is 10
  case true =>
    rw [e10] at HS10
    refine (ctrl_Parse.is_calls k _ nm (⟨#[109, 97, 120, 45, 115, 116, 97, 108, 101]⟩ : ByteArray) true _ (blk_cell HNM.out 0) HS10.out).mono ?_
    rintro e w3 ⟨rfl, hD⟩
    obtain ⟨nd, rfl⟩ := hD.out
    have HNM2 := Aside0.mk (blk_drewN HNM.out nd)
    have HP2 := Aside0.mk (blk_drewN HP.out nd)
    have HB2 := Aside0.mk (pw_below_drewN HB.out nd)
    clear hD HNM HP HB
    generalize w2.drewN nd = w3 at HNM2 HP2 HB2 ⊢
    rename World => w2
    have HNM := HNM2
    have HP := HP2
    have HB := HB2
    clear HNM2 HP2 HB2
    cases has with
    | true =>
      have HR := Lib.hid (show res = _ by rw [← HRES.out, ctrl_Parse.say, if_neg (by rw [e0]; decide), if_neg (by rw [e1]; decide), if_neg (by rw [e2]; decide), if_neg (by rw [e3]; decide), if_neg (by rw [e4]; decide), if_neg (by rw [e5]; decide), if_neg (by rw [e6]; decide), if_neg (by rw [e7]; decide), if_neg (by rw [e8]; decide), if_neg (by rw [e9]; decide), if_pos e10, if_pos rfl])
      clear HRES
      have hcj : w2.cell? ⟨p, 11, none⟩ = some (.int .i64 c.n11) := blk_cell HP.out 11
      go_wp2_with fail
      refine (ctrl_least.calls k c.n11 v2 (lst c.n11) _ (HL.out c.n11)).mono ?_
      rintro e w4 ⟨rfl, hB⟩
      have HB4 := Aside0.mk (HB.out.trans (Below.mono hB HB.out.size))
      have HP4 := Aside0.mk (blk_below HP.out hB)
      have hcj4 : w4.cell? ⟨p, 11, none⟩ = some (.int .i64 c.n11) := blk_cell HP4.out 11
      have hzj4 := blk_frozen HP4.out 11
      clear hB
      go_wp2
      go_end0
      exact ⟨rfl, by rw [HR.out]; exact blk_put HP4.out 11 (.int .i64 (lst c.n11)) rfl, ctrl_Parse.set_grown HB4.out⟩
    | false =>
      have HR := Lib.hid (show res = _ by rw [← HRES.out, ctrl_Parse.say, if_neg (by rw [e0]; decide), if_neg (by rw [e1]; decide), if_neg (by rw [e2]; decide), if_neg (by rw [e3]; decide), if_neg (by rw [e4]; decide), if_neg (by rw [e5]; decide), if_neg (by rw [e6]; decide), if_neg (by rw [e7]; decide), if_neg (by rw [e8]; decide), if_neg (by rw [e9]; decide), if_pos e10, if_neg (by decide)])
      clear HRES
      go_wp2_with fail
      refine (ctrl_Parse.is_calls k _ nm (⟨#[109, 97, 120, 45, 115, 116, 97, 108, 101]⟩ : ByteArray) true _ (blk_cell HNM.out 0) HS10.out).mono ?_
      rintro e w3 ⟨rfl, hD⟩
      obtain ⟨nd, rfl⟩ := hD.out
      have HNM2 := Aside0.mk (blk_drewN HNM.out nd)
      have HP2 := Aside0.mk (blk_drewN HP.out nd)
      have HB2 := Aside0.mk (pw_below_drewN HB.out nd)
      clear hD HNM HP HB
      generalize w2.drewN nd = w3 at HNM2 HP2 HB2 ⊢
      rename World => w2
      have HNM := HNM2
      have HP := HP2
      have HB := HB2
      clear HNM2 HP2 HB2
      have hcj : w2.cell? ⟨p, 7, none⟩ = some (.bool c.b7) := blk_cell HP.out 7
      have hzj := blk_frozen HP.out 7
      go_wp2
      go_end0
      exact ⟨rfl, by rw [HR.out]; exact blk_put HP.out 7 (.bool true) rfl, ctrl_Parse.set_grown HB.out⟩
  rw [e10] at HS10
  refine (ctrl_Parse.is_calls k _ nm (⟨#[109, 97, 120, 45, 115, 116, 97, 108, 101]⟩ : ByteArray) false _ (blk_cell HNM.out 0) HS10.out).mono ?_
  rintro e w3 ⟨rfl, hD⟩
  obtain ⟨nd, rfl⟩ := hD.out
  have HNM2 := Aside0.mk (blk_drewN HNM.out nd)
  have HP2 := Aside0.mk (blk_drewN HP.out nd)
  have HB2 := Aside0.mk (pw_below_drewN HB.out nd)
  clear hD HNM HP HB
  generalize w2.drewN nd = w3 at HNM2 HP2 HB2 ⊢
  rename World => w2
  have HNM := HNM2
  have HP := HP2
  have HB := HB2
  clear HNM2 HP2 HB2
  have HR := Lib.hid (show res = c by rw [← HRES.out, ctrl_Parse.say, if_neg (by rw [e0]; decide), if_neg (by rw [e1]; decide), if_neg (by rw [e2]; decide), if_neg (by rw [e3]; decide), if_neg (by rw [e4]; decide), if_neg (by rw [e5]; decide), if_neg (by rw [e6]; decide), if_neg (by rw [e7]; decide), if_neg (by rw [e8]; decide), if_neg (by rw [e9]; decide), if_neg (by rw [e10]; decide)])
  clear HRES
  go_wp2_with fail
  refine (ctrl_Parse.is_calls k _ nm (⟨#[109, 97, 120, 45, 115, 116, 97, 108, 101]⟩ : ByteArray) false _ (blk_cell HNM.out 0) HS10.out).mono ?_
  rintro e w3 ⟨rfl, hD⟩
  obtain ⟨nd, rfl⟩ := hD.out
  have HNM2 := Aside0.mk (blk_drewN HNM.out nd)
  have HP2 := Aside0.mk (blk_drewN HP.out nd)
  have HB2 := Aside0.mk (pw_below_drewN HB.out nd)
  clear hD HNM HP HB
  generalize w2.drewN nd = w3 at HNM2 HP2 HB2 ⊢
  rename World => w2
  have HNM := HNM2
  have HP := HP2
  have HB := HB2
  clear HNM2 HP2 HB2
  go_wp2
  go_end0
  exact ⟨rfl, by rw [HR.out]; exact HP.out, ctrl_Parse.far_grown HB.out⟩
def ctrl_Parse.none_ : ctrl_Parse.Ct := ⟨false, false, false, false, false, false, false, false, -1, -1, -1, -1⟩
def ctrl_Parse.tup (c : ctrl_Parse.Ct) : Bool × Bool × Bool × Bool × Bool × Bool × Bool × Bool × Int × Int × Int × Int := (c.b0, c.b1, c.b2, c.b3, c.b4, c.b5, c.b6, c.b7, c.n8, c.n9, c.n10, c.n11)
def ctrl_Parse.tell (k : Nat) (nm : ByteArray) : List ByteArray → Option (List Bool)
  | [] => some []
  | s :: r => (head_Same.f k nm s).bind fun b => (ctrl_Parse.tell k nm r).bind fun t => some (b :: t)
theorem ctrl_Parse.tell_mono (k : Nat) (nm : ByteArray) : ∀ l, LeO (ctrl_Parse.tell k nm l) (ctrl_Parse.tell (k + 1) nm l)
  | [] => LeO.refl _
  | s :: r => LeO.bind (head_Same.mono _ _ _) fun b => LeO.bind (ctrl_Parse.tell_mono k nm r) fun t => LeO.refl _
theorem ctrl_Parse.tell_get (k : Nat) (nm : ByteArray) : ∀ (l : List ByteArray) (bs : List Bool), ctrl_Parse.tell k nm l = some bs → ∀ i, i < l.length → head_Same.f k nm (l.getD i ⟨#[]⟩) = some (bs.getD i false)
  | [], _, _, i, hi => absurd hi (Nat.not_lt_zero i)
  | s :: r, bs, h, i, hi => by
    obtain ⟨b, hb, h⟩ := Option.bind_eq_some_iff.1 h
    obtain ⟨t, ht, h⟩ := Option.bind_eq_some_iff.1 h
    obtain rfl := Option.some.inj h
    cases i with
    | zero => exact hb
    | succ i => exact ctrl_Parse.tell_get k nm r t ht i (by simpa using hi)
def ctrl_Parse.lst (n o : Int) : Int := if o ≥ 0 then mn (mx n 0) o else mx n 0
def ctrl_Parse.part (k : Nat) (c : ctrl_Parse.Ct) (p : ByteArray) : Option ctrl_Parse.Ct := (strings_Cut.f p ⟨#[61]⟩).bind fun t => (ctrl_plain.f t.2.1).bind fun v => (ctrl_Seconds.f k v).bind fun n => (ctrl_Parse.tell k t.1 ctrl_Parse.lits).bind fun bs => some (ctrl_Parse.say c (fun i => bs.getD i false) (ctrl_Parse.lst n) t.2.2)
theorem ctrl_Parse.part_mono (k : Nat) (c : ctrl_Parse.Ct) (p : ByteArray) : LeO (ctrl_Parse.part k c p) (ctrl_Parse.part (k + 1) c p) := LeO.bind (LeO.refl _) fun _ => LeO.bind (LeO.refl _) fun _ => LeO.bind (ctrl_Seconds.mono _ _) fun _ => LeO.bind (ctrl_Parse.tell_mono _ _ _) fun _ => LeO.refl _
def ctrl_Parse.fold (k : Nat) : ctrl_Parse.Ct → List ByteArray → Option ctrl_Parse.Ct
  | c, [] => some c
  | c, p :: r => (ctrl_Parse.part k c p).bind fun c' => ctrl_Parse.fold k c' r
theorem ctrl_Parse.fold_mono (k : Nat) : ∀ (l : List ByteArray) (c : ctrl_Parse.Ct), LeO (ctrl_Parse.fold k c l) (ctrl_Parse.fold (k + 1) c l)
  | [], _ => LeO.refl _
  | p :: r, c => LeO.bind (ctrl_Parse.part_mono k c p) fun c' => ctrl_Parse.fold_mono k r c'
def ctrl_Parse.prag (k : Nat) : Bool → List ByteArray → Option Bool
  | b, [] => some b
  | b, s :: r => if b = true then ctrl_Parse.prag k true r else (head_Same.f k s ⟨#[110, 111, 45, 99, 97, 99, 104, 101]⟩).bind fun t => ctrl_Parse.prag k t r
theorem ctrl_Parse.prag_mono (k : Nat) : ∀ (l : List ByteArray) (b : Bool), LeO (ctrl_Parse.prag k b l) (ctrl_Parse.prag (k + 1) b l)
  | [], _ => LeO.refl _
  | s :: r, b => LeO.ite (ctrl_Parse.prag_mono k r true) (LeO.bind (head_Same.mono _ _ _) fun t => ctrl_Parse.prag_mono k r t)
def ctrl_Parse.f (k : Nat) (l0 : List (S29)) : Option (Bool × Bool × Bool × Bool × Bool × Bool × Bool × Bool × Int × Int × Int × Int) :=
  (head_All.f k l0 (⟨#[67, 97, 99, 104, 101, 45, 67, 111, 110, 116, 114, 111, 108]⟩ : ByteArray)).bind fun vs => if vs.length = 0 then ((head_List.f k l0 (⟨#[80, 114, 97, 103, 109, 97]⟩ : ByteArray)).bind fun ps => if ps.length ≤ 1000000 then ((ctrl_Parse.prag k false ps).bind fun b => some (ctrl_Parse.tup { ctrl_Parse.none_ with b1 := b })) else none) else ((head_List.f k l0 (⟨#[67, 97, 99, 104, 101, 45, 67, 111, 110, 116, 114, 111, 108]⟩ : ByteArray)).bind fun ps => if ps.length ≤ 1000000 then ((ctrl_Parse.fold k ctrl_Parse.none_ ps).bind fun c => some (ctrl_Parse.tup c)) else none)
theorem ctrl_Parse.mono : ∀ a0 k, LeO (ctrl_Parse.f k a0) (ctrl_Parse.f (k + 1) a0) := by
  intro a0 k
  exact LeO.bind (head_All.mono _ _ _) fun vs => LeO.ite (LeO.bind (head_List.mono _ _ _) fun ps => LeO.ite (LeO.bind (ctrl_Parse.prag_mono k _ _) fun b => LeO.refl _) (LeO.refl _)) (LeO.bind (head_List.mono _ _ _) fun ps => LeO.ite (LeO.bind (ctrl_Parse.fold_mono k _ _) fun c => LeO.refl _) (LeO.refl _))
theorem ctrl_Parse.part_calls (k p : Nat) (c c' : ctrl_Parse.Ct) (part : ByteArray) (w : World) (hb : w.heap[p]? = some (.cells (ctrl_Parse.cells c) 23 (0, 0))) (h : ctrl_Parse.part k c part = some c') :
    Calls Tryd.prog 26 #[.pointer (some ⟨p, 0, none⟩), .string part] w fun e w' => e = .returned (.tuple #[]) ∧ w'.heap[p]? = some (.cells (ctrl_Parse.cells c') 23 (0, 0)) ∧ w.grownBy w' (some p) := by
  obtain ⟨⟨nm, v, has⟩, h1, h⟩ := Option.bind_eq_some_iff.1 h
  obtain ⟨v2, h2, h⟩ := Option.bind_eq_some_iff.1 h
  obtain ⟨n, h3, h⟩ := Option.bind_eq_some_iff.1 h
  obtain ⟨bs, h4, h⟩ := Option.bind_eq_some_iff.1 h
  obtain rfl := Option.some.inj h
  refine ctrl_Parse.say_calls k p c part nm v v2 has _ _ w hb h1 h2 (fun i hi => ctrl_Parse.tell_get k nm _ bs h4 i hi) (fun o => ?_)
  unfold ctrl_least.f
  rw [h3, Option.bind_some]
  unfold ctrl_Parse.lst
  split <;> rfl
theorem ctrl_Parse.none_calls (w : World) : Calls Tryd.prog 22 #[] w fun e w' => e = .returned (.agg (ctrl_Parse.cells ctrl_Parse.none_)) ∧ Below w.heap.size w w' :=
  (ctrl_none.calls false false false false false false false false (-1) (-1) (-1) (-1) w rfl).mono fun e w' h => h
set_option maxHeartbeats 8000000 in
set_option maxRecDepth 100000 in
theorem ctrl_Parse.calls_c (k : Nat) (A0 : Option Addr) (c0 : Nat) (l0 : List (S29)) (w : World) (hr0 : Kd.C k29 w A0 l0.length l0) (hc0 : l0.length ≤ c0) (vs : List ByteArray) (hvs : head_All.f k l0 (⟨#[67, 97, 99, 104, 101, 45, 67, 111, 110, 116, 114, 111, 108]⟩ : ByteArray) = some vs) (ps : List ByteArray) (hpz : ps.length ≤ 1000000) (c : ctrl_Parse.Ct)
    (hps : (vs.length = 0 ∧ head_List.f k l0 (⟨#[80, 114, 97, 103, 109, 97]⟩ : ByteArray) = some ps ∧ ∃ b, ctrl_Parse.prag k false ps = some b ∧ c = { ctrl_Parse.none_ with b1 := b }) ∨ (vs.length ≠ 0 ∧ head_List.f k l0 (⟨#[67, 97, 99, 104, 101, 45, 67, 111, 110, 116, 114, 111, 108]⟩ : ByteArray) = some ps ∧ ctrl_Parse.fold k ctrl_Parse.none_ ps = some c)) :
    Calls Tryd.prog 9 #[.slice A0 l0.length c0] w fun e w' => e = .returned (.agg (ctrl_Parse.cells c)) ∧ Below w.heap.size w w' := by
  have HR := Aside0.mk hr0
  have HV := Lib.hid hvs
  clear hr0 hvs
  rcases hps with ⟨h0, hl, b, hp, rfl⟩ | ⟨h0, hl, hf⟩
  · have HL := Lib.hid hl
    have HF := Lib.hid hp
    have hvz : ((vs.length : Int) == 0) = true := beq_iff_eq.2 (by omega)
    clear hl hp
    go_enter Tryd.func9, Tryd.ntmps9
    go_wp2_with fail
    refine (ctrl_Parse.none_calls _).mono ?_
    rintro e w1 ⟨rfl, hB⟩
    have HB := Aside0.mk ((below_alloc (Below.refl w.heap.size w) _).trans (Below.mono hB (by exact (below_alloc (Below.refl w.heap.size w) _).size)))
    unfold ctrl_Parse.cells ctrl_Parse.none_
    go_wp2_with fail
    have hpl : w.heap.size < w1.heap.size := by have := hB.size; simp at this; omega
    have HP1 := Aside0.mk (show (w1.alloc (.cells (ctrl_Parse.cells ctrl_Parse.none_) 23)).heap[w1.heap.size]? = some (.cells (ctrl_Parse.cells ctrl_Parse.none_) 23 (0, 0)) from blk_new w1 _)
    have HQ1 := Aside0.mk (blk_alloc (blk_below (blk_new w (.cells #[.bool false, .bool false, .bool false, .bool false, .bool false, .bool false, .bool false, .bool false, .int .i64 0, .int .i64 0, .int .i64 0, .int .i64 0] 23)) hB) (.cells (ctrl_Parse.cells ctrl_Parse.none_) 23))
    have HB1 := Aside0.mk (below_alloc HB.out (.cells (ctrl_Parse.cells ctrl_Parse.none_) 23))
    clear hB HB
    refine (head_All.calls k A0 c0 l0 _ vs _ (Kd.C_below HR.out HB1.out) hc0 HV.out).mono ?_
    rintro e w2 ⟨v0, rfl, hR, hB⟩
    have HP2 := Aside0.mk (blk_below HP1.out hB)
    have HQ2 := Aside0.mk (blk_below HQ1.out hB)
    have HB2 := Aside0.mk (HB1.out.trans (Below.mono hB HB1.out.size))
    have hp2 := blk_lt HP2.out
    obtain ⟨A5, c5, rfl⟩ := Kd.R_slice hR
    clear hR hB HP1 HQ1 HB1
    go_wp2_with fail
    refine (head_List.calls k A0 c0 l0 _ ps _ (Kd.C_below HR.out HB2.out) hc0 HL.out).mono ?_
    rintro e w3 ⟨v0, rfl, hR, hB⟩
    have HP3 := Aside0.mk (blk_below HP2.out hB)
    have HQ3 := Aside0.mk (blk_below HQ2.out hB)
    have HB3 := Aside0.mk (HB2.out.trans (Below.mono hB HB2.out.size))
    obtain ⟨A6, c6, rfl⟩ := Kd.R_slice hR
    have HS := Aside0.mk (Kd.R_mono (ok' := fun q => q ≠ w1.heap.size) (Kd.R_bound hR) (fun q hq => by have := hq.2.1; omega))
    clear hR hB HP2 HQ2 HB2
    go_wp2_with fail
    go_loopw [16] (fun v16 wr => ∃ (j : Nat) (b1 : Bool), j ≤ ps.length ∧ v16 = .int .i64 j ∧ Aside0 (ctrl_Parse.prag k b1 (ps.drop j) = some b) ∧ Aside0 (wr.heap[w1.heap.size]? = some (.cells (ctrl_Parse.cells { ctrl_Parse.none_ with b1 := b1 }) 23 (0, 0))) ∧ Aside0 (wr.heap[w.heap.size]? = some (.cells #[.bool false, .bool false, .bool false, .bool false, .bool false, .bool false, .bool false, .bool false, .int .i64 0, .int .i64 0, .int .i64 0, .int .i64 0] 23 (0, 0))) ∧ Aside0 (Kd.R Kd.string 9 wr w2.heap.size (fun q => q ≠ w1.heap.size) (.slice A6 ps.length c6) ps) ∧ Aside0 (Below w.heap.size w wr)) (fun v16 _ => ps.length - (intOf v16).toNat)
    case atStart => exact ⟨0, false, Nat.zero_le _, rfl, ⟨HF.out⟩, HP3, HQ3, HS, HB3⟩
    case round =>
    clear HP3 HQ3 HS HB3 HF
    obtain ⟨j, b1, hj, rfl, HF, HP, HQ, HS, HB⟩ := hrel
    by_cases hlt : j < ps.length
    · obtain ⟨ad, e9, hx⟩ := Kd.at_string (Kd.R_reads' HS.out).2.2 (j : Int) (by omega) (by omega)
      cases e9
      rw [Int.toNat_natCast] at hx
      obtain ⟨x, hxe⟩ : ∃ x, rdOf ByteArray.empty ps (j : Int) = x := ⟨_, rfl⟩
      have hd : ps.drop j = x :: ps.drop (j + 1) := by
        rw [← hxe]; unfold rdOf
        rw [Int.toNat_natCast, List.drop_eq_getElem_cons hlt, List.getD_eq_getElem?_getD, List.getElem?_eq_getElem hlt]; rfl
      rw [hxe] at hx
      have hf := HF.out
      rw [hd] at hf
      clear hxe hd HF
      cases b1 with
      | true =>
        have HFO := Aside0.mk (show ctrl_Parse.prag k true (ps.drop (j + 1)) = some b from hf)
        have hp1 : wr.cell? ⟨w1.heap.size, 1, none⟩ = some (.bool true) := blk_cell HP.out 1
        have hz1 := blk_frozen HP.out 1
        clear hf
        go_wp2
        go_roundw
        case rel => exact ⟨j + 1, true, by omega, by go_num, HFO, ⟨blk_put HP.out 1 _ rfl⟩, ⟨blk_far HQ.out (show w.heap.size ≠ w1.heap.size by omega) _⟩, ⟨Kd.R_far HS.out (fun q hq => hq) _⟩, ⟨below_set HB.out (by omega)⟩⟩
        case measure => simp [intOf]; omega
      | false =>
        obtain ⟨t, ht, hfo⟩ := Option.bind_eq_some_iff.1 (show (head_Same.f k x ⟨#[110, 111, 45, 99, 97, 99, 104, 101]⟩).bind (fun t => ctrl_Parse.prag k t (ps.drop (j + 1))) = some b from hf)
        have HFO := Aside0.mk hfo
        have HT := Lib.hid ht
        have hp1 : wr.cell? ⟨w1.heap.size, 1, none⟩ = some (.bool false) := blk_cell HP.out 1
        clear hf hfo ht
        go_wp2_with fail
        refine (head_Same.calls k x _ t _ HT.out).mono ?_
        rintro e w4 ⟨rfl, hD⟩
        obtain ⟨nd, rfl⟩ := hD.out
        have HP4 := Aside0.mk (blk_drewN HP.out nd)
        have HQ4 := Aside0.mk (blk_drewN HQ.out nd)
        have HS4 := Aside0.mk (Kd.R_drewN (m := nd) HS.out)
        have HB4 := Aside0.mk (pw_below_drewN HB.out nd)
        clear hD HP HQ HS HB
        generalize wr.drewN nd = w4 at HP4 HQ4 HS4 HB4 ⊢
        have hp4 : w4.cell? ⟨w1.heap.size, 1, none⟩ = some (.bool false) := blk_cell HP4.out 1
        have hz4 := blk_frozen HP4.out 1
        go_wp2
        go_roundw
        case rel => exact ⟨j + 1, t, by omega, by go_num, HFO, ⟨blk_put HP4.out 1 _ rfl⟩, ⟨blk_far HQ4.out (show w.heap.size ≠ w1.heap.size by omega) _⟩, ⟨Kd.R_far HS4.out (fun q hq => hq) _⟩, ⟨below_set HB4.out (by omega)⟩⟩
        case measure => simp [intOf]; omega
    · have hje : j = ps.length := by omega
      subst hje
      have hf := HF.out
      rw [List.drop_of_length_le (Nat.le_refl _)] at hf
      obtain rfl : b1 = b := Option.some.inj hf
      clear hf HF
      have hp0 : wr.cell? ⟨w1.heap.size, 0, none⟩ = some (.bool false) := blk_cell HP.out 0
      have hq0 := blk_cell HQ.out 0
      have hz0 := blk_frozen HQ.out 0
      have hp1 : wr.cell? ⟨w1.heap.size, 1, none⟩ = some (.bool b1) := blk_cell HP.out 1
      have hq1 := blk_cell HQ.out 1
      have hz1 := blk_frozen HQ.out 1
      have hp2 : wr.cell? ⟨w1.heap.size, 2, none⟩ = some (.bool false) := blk_cell HP.out 2
      have hq2 := blk_cell HQ.out 2
      have hz2 := blk_frozen HQ.out 2
      have hp3 : wr.cell? ⟨w1.heap.size, 3, none⟩ = some (.bool false) := blk_cell HP.out 3
      have hq3 := blk_cell HQ.out 3
      have hz3 := blk_frozen HQ.out 3
      have hp4 : wr.cell? ⟨w1.heap.size, 4, none⟩ = some (.bool false) := blk_cell HP.out 4
      have hq4 := blk_cell HQ.out 4
      have hz4 := blk_frozen HQ.out 4
      have hp5 : wr.cell? ⟨w1.heap.size, 5, none⟩ = some (.bool false) := blk_cell HP.out 5
      have hq5 := blk_cell HQ.out 5
      have hz5 := blk_frozen HQ.out 5
      have hp6 : wr.cell? ⟨w1.heap.size, 6, none⟩ = some (.bool false) := blk_cell HP.out 6
      have hq6 := blk_cell HQ.out 6
      have hz6 := blk_frozen HQ.out 6
      have hp7 : wr.cell? ⟨w1.heap.size, 7, none⟩ = some (.bool false) := blk_cell HP.out 7
      have hq7 := blk_cell HQ.out 7
      have hz7 := blk_frozen HQ.out 7
      have hp8 : wr.cell? ⟨w1.heap.size, 8, none⟩ = some (.int .i64 (-1)) := blk_cell HP.out 8
      have hq8 := blk_cell HQ.out 8
      have hz8 := blk_frozen HQ.out 8
      have hp9 : wr.cell? ⟨w1.heap.size, 9, none⟩ = some (.int .i64 (-1)) := blk_cell HP.out 9
      have hq9 := blk_cell HQ.out 9
      have hz9 := blk_frozen HQ.out 9
      have hp10 : wr.cell? ⟨w1.heap.size, 10, none⟩ = some (.int .i64 (-1)) := blk_cell HP.out 10
      have hq10 := blk_cell HQ.out 10
      have hz10 := blk_frozen HQ.out 10
      have hp11 : wr.cell? ⟨w1.heap.size, 11, none⟩ = some (.int .i64 (-1)) := blk_cell HP.out 11
      have hq11 := blk_cell HQ.out 11
      have hz11 := blk_frozen HQ.out 11
      go_wp2
      refine bodyPost_ret (results_cell_row rfl _ _ w.heap.size 23 #[.bool false, .bool b1, .bool false, .bool false, .bool false, .bool false, .bool false, .bool false, .int .i64 (-1), .int .i64 (-1), .int .i64 (-1), .int .i64 (-1)] (0, 0) _ rfl (by refine blk_put (cs := #[.bool false, .bool b1, .bool false, .bool false, .bool false, .bool false, .bool false, .bool false, .int .i64 (-1), .int .i64 (-1), .int .i64 (-1), .int .i64 0]) ?_ 11 _ rfl; refine blk_put (cs := #[.bool false, .bool b1, .bool false, .bool false, .bool false, .bool false, .bool false, .bool false, .int .i64 (-1), .int .i64 (-1), .int .i64 0, .int .i64 0]) ?_ 10 _ rfl; refine blk_put (cs := #[.bool false, .bool b1, .bool false, .bool false, .bool false, .bool false, .bool false, .bool false, .int .i64 (-1), .int .i64 0, .int .i64 0, .int .i64 0]) ?_ 9 _ rfl; refine blk_put (cs := #[.bool false, .bool b1, .bool false, .bool false, .bool false, .bool false, .bool false, .bool false, .int .i64 0, .int .i64 0, .int .i64 0, .int .i64 0]) ?_ 8 _ rfl; refine blk_put (cs := #[.bool false, .bool b1, .bool false, .bool false, .bool false, .bool false, .bool false, .bool false, .int .i64 0, .int .i64 0, .int .i64 0, .int .i64 0]) ?_ 7 _ rfl; refine blk_put (cs := #[.bool false, .bool b1, .bool false, .bool false, .bool false, .bool false, .bool false, .bool false, .int .i64 0, .int .i64 0, .int .i64 0, .int .i64 0]) ?_ 6 _ rfl; refine blk_put (cs := #[.bool false, .bool b1, .bool false, .bool false, .bool false, .bool false, .bool false, .bool false, .int .i64 0, .int .i64 0, .int .i64 0, .int .i64 0]) ?_ 5 _ rfl; refine blk_put (cs := #[.bool false, .bool b1, .bool false, .bool false, .bool false, .bool false, .bool false, .bool false, .int .i64 0, .int .i64 0, .int .i64 0, .int .i64 0]) ?_ 4 _ rfl; refine blk_put (cs := #[.bool false, .bool b1, .bool false, .bool false, .bool false, .bool false, .bool false, .bool false, .int .i64 0, .int .i64 0, .int .i64 0, .int .i64 0]) ?_ 3 _ rfl; refine blk_put (cs := #[.bool false, .bool b1, .bool false, .bool false, .bool false, .bool false, .bool false, .bool false, .int .i64 0, .int .i64 0, .int .i64 0, .int .i64 0]) ?_ 2 _ rfl; refine blk_put (cs := #[.bool false, .bool false, .bool false, .bool false, .bool false, .bool false, .bool false, .bool false, .int .i64 0, .int .i64 0, .int .i64 0, .int .i64 0]) ?_ 1 _ rfl; refine blk_put (cs := #[.bool false, .bool false, .bool false, .bool false, .bool false, .bool false, .bool false, .bool false, .int .i64 0, .int .i64 0, .int .i64 0, .int .i64 0]) ?_ 0 _ rfl; exact HQ.out) Tryd.underlying23 rfl (by kernel_rfl)) rfl ?_
      refine ⟨rfl, ?_⟩
      iterate 12 refine below_set ?_ (Nat.le_refl _)
      exact HB.out
  · have HL := Lib.hid hl
    have HF := Lib.hid hf
    have hvz : ((vs.length : Int) == 0) = false := beq_false_of_ne (by omega)
    clear hl hf
    go_enter Tryd.func9, Tryd.ntmps9
    go_wp2_with fail
    refine (ctrl_Parse.none_calls _).mono ?_
    rintro e w1 ⟨rfl, hB⟩
    have HB := Aside0.mk ((below_alloc (Below.refl w.heap.size w) _).trans (Below.mono hB (by exact (below_alloc (Below.refl w.heap.size w) _).size)))
    unfold ctrl_Parse.cells ctrl_Parse.none_
    go_wp2_with fail
    have hpl : w.heap.size < w1.heap.size := by have := hB.size; simp at this; omega
    have HP1 := Aside0.mk (show (w1.alloc (.cells (ctrl_Parse.cells ctrl_Parse.none_) 23)).heap[w1.heap.size]? = some (.cells (ctrl_Parse.cells ctrl_Parse.none_) 23 (0, 0)) from blk_new w1 _)
    have HQ1 := Aside0.mk (blk_alloc (blk_below (blk_new w (.cells #[.bool false, .bool false, .bool false, .bool false, .bool false, .bool false, .bool false, .bool false, .int .i64 0, .int .i64 0, .int .i64 0, .int .i64 0] 23)) hB) (.cells (ctrl_Parse.cells ctrl_Parse.none_) 23))
    have HB1 := Aside0.mk (below_alloc HB.out (.cells (ctrl_Parse.cells ctrl_Parse.none_) 23))
    clear hB HB
    refine (head_All.calls k A0 c0 l0 _ vs _ (Kd.C_below HR.out HB1.out) hc0 HV.out).mono ?_
    rintro e w2 ⟨v0, rfl, hR, hB⟩
    have HP2 := Aside0.mk (blk_below HP1.out hB)
    have HQ2 := Aside0.mk (blk_below HQ1.out hB)
    have HB2 := Aside0.mk (HB1.out.trans (Below.mono hB HB1.out.size))
    have hp2 := blk_lt HP2.out
    obtain ⟨A5, c5, rfl⟩ := Kd.R_slice hR
    clear hR hB HP1 HQ1 HB1
    go_wp2_with fail
    refine (head_List.calls k A0 c0 l0 _ ps _ (Kd.C_below HR.out HB2.out) hc0 HL.out).mono ?_
    rintro e w3 ⟨v0, rfl, hR, hB⟩
    have HP3 := Aside0.mk (blk_below HP2.out hB)
    have HQ3 := Aside0.mk (blk_below HQ2.out hB)
    have HB3 := Aside0.mk (HB2.out.trans (Below.mono hB HB2.out.size))
    obtain ⟨A6, c6, rfl⟩ := Kd.R_slice hR
    have HS := Aside0.mk (Kd.R_mono (ok' := fun q => q ≠ w1.heap.size) (Kd.R_bound hR) (fun q hq => by have := hq.2.1; omega))
    clear hR hB HP2 HQ2 HB2
    go_wp2_with fail
    go_loopw [32] (fun v32 wr => ∃ (j : Nat) (c1 : ctrl_Parse.Ct), j ≤ ps.length ∧ v32 = .int .i64 j ∧ Aside0 (ctrl_Parse.fold k c1 (ps.drop j) = some c) ∧ Aside0 (wr.heap[w1.heap.size]? = some (.cells (ctrl_Parse.cells c1) 23 (0, 0))) ∧ Aside0 (wr.heap[w.heap.size]? = some (.cells #[.bool false, .bool false, .bool false, .bool false, .bool false, .bool false, .bool false, .bool false, .int .i64 0, .int .i64 0, .int .i64 0, .int .i64 0] 23 (0, 0))) ∧ Aside0 (Kd.R Kd.string 9 wr w2.heap.size (fun q => q ≠ w1.heap.size) (.slice A6 ps.length c6) ps) ∧ Aside0 (Below w.heap.size w wr)) (fun v32 _ => ps.length - (intOf v32).toNat)
    case atStart => exact ⟨0, ctrl_Parse.none_, Nat.zero_le _, rfl, ⟨HF.out⟩, HP3, HQ3, HS, HB3⟩
    case round =>
    clear HP3 HQ3 HS HB3 HF
    obtain ⟨j, c1, hj, rfl, HF, HP, HQ, HS, HB⟩ := hrel
    by_cases hlt : j < ps.length
    · obtain ⟨ad, e9, hx⟩ := Kd.at_string (Kd.R_reads' HS.out).2.2 (j : Int) (by omega) (by omega)
      cases e9
      rw [Int.toNat_natCast] at hx
      obtain ⟨x, hxe⟩ : ∃ x, rdOf ByteArray.empty ps (j : Int) = x := ⟨_, rfl⟩
      have hd : ps.drop j = x :: ps.drop (j + 1) := by
        rw [← hxe]; unfold rdOf
        rw [Int.toNat_natCast, List.drop_eq_getElem_cons hlt, List.getD_eq_getElem?_getD, List.getElem?_eq_getElem hlt]; rfl
      rw [hxe] at hx
      have hf := HF.out
      rw [hd] at hf
      obtain ⟨c2, hpa, hfo⟩ := Option.bind_eq_some_iff.1 hf
      have HFO := Aside0.mk hfo
      have HPA := Lib.hid hpa
      clear hf hfo hpa hxe hd HF
      go_wp2_with fail
      refine (ctrl_Parse.part_calls k w1.heap.size c1 c2 x wr HP.out HPA.out).mono ?_
      rintro e w4 ⟨rfl, hh, hg⟩
      have HP4 := Aside0.mk hh
      have HQ4 := Aside0.mk ((hg.block _ (blk_lt HQ.out) (by simp; omega)).trans HQ.out)
      have HS4 := Aside0.mk (Kd.R_grown HS.out hg (fun q hq => by simpa using hq))
      have HB4 := Aside0.mk (HB.out.grown hg HB.out.size (fun q hq => by injection hq with hq; omega))
      clear hh hg
      go_wp2
      go_roundw
      case rel => exact ⟨j + 1, c2, by omega, by go_num, HFO, HP4, HQ4, HS4, HB4⟩
      case measure => simp [intOf]; omega
    · have hje : j = ps.length := by omega
      subst hje
      have hf := HF.out
      rw [List.drop_of_length_le (Nat.le_refl _)] at hf
      obtain rfl : c1 = c := Option.some.inj hf
      clear hf HF
      have hp0 : wr.cell? ⟨w1.heap.size, 0, none⟩ = some (.bool c1.b0) := blk_cell HP.out 0
      have hq0 := blk_cell HQ.out 0
      have hz0 := blk_frozen HQ.out 0
      have hp1 : wr.cell? ⟨w1.heap.size, 1, none⟩ = some (.bool c1.b1) := blk_cell HP.out 1
      have hq1 := blk_cell HQ.out 1
      have hz1 := blk_frozen HQ.out 1
      have hp2 : wr.cell? ⟨w1.heap.size, 2, none⟩ = some (.bool c1.b2) := blk_cell HP.out 2
      have hq2 := blk_cell HQ.out 2
      have hz2 := blk_frozen HQ.out 2
      have hp3 : wr.cell? ⟨w1.heap.size, 3, none⟩ = some (.bool c1.b3) := blk_cell HP.out 3
      have hq3 := blk_cell HQ.out 3
      have hz3 := blk_frozen HQ.out 3
      have hp4 : wr.cell? ⟨w1.heap.size, 4, none⟩ = some (.bool c1.b4) := blk_cell HP.out 4
      have hq4 := blk_cell HQ.out 4
      have hz4 := blk_frozen HQ.out 4
      have hp5 : wr.cell? ⟨w1.heap.size, 5, none⟩ = some (.bool c1.b5) := blk_cell HP.out 5
      have hq5 := blk_cell HQ.out 5
      have hz5 := blk_frozen HQ.out 5
      have hp6 : wr.cell? ⟨w1.heap.size, 6, none⟩ = some (.bool c1.b6) := blk_cell HP.out 6
      have hq6 := blk_cell HQ.out 6
      have hz6 := blk_frozen HQ.out 6
      have hp7 : wr.cell? ⟨w1.heap.size, 7, none⟩ = some (.bool c1.b7) := blk_cell HP.out 7
      have hq7 := blk_cell HQ.out 7
      have hz7 := blk_frozen HQ.out 7
      have hp8 : wr.cell? ⟨w1.heap.size, 8, none⟩ = some (.int .i64 c1.n8) := blk_cell HP.out 8
      have hq8 := blk_cell HQ.out 8
      have hz8 := blk_frozen HQ.out 8
      have hp9 : wr.cell? ⟨w1.heap.size, 9, none⟩ = some (.int .i64 c1.n9) := blk_cell HP.out 9
      have hq9 := blk_cell HQ.out 9
      have hz9 := blk_frozen HQ.out 9
      have hp10 : wr.cell? ⟨w1.heap.size, 10, none⟩ = some (.int .i64 c1.n10) := blk_cell HP.out 10
      have hq10 := blk_cell HQ.out 10
      have hz10 := blk_frozen HQ.out 10
      have hp11 : wr.cell? ⟨w1.heap.size, 11, none⟩ = some (.int .i64 c1.n11) := blk_cell HP.out 11
      have hq11 := blk_cell HQ.out 11
      have hz11 := blk_frozen HQ.out 11
      go_wp2
      refine bodyPost_ret (results_cell_row rfl _ _ w.heap.size 23 #[.bool c1.b0, .bool c1.b1, .bool c1.b2, .bool c1.b3, .bool c1.b4, .bool c1.b5, .bool c1.b6, .bool c1.b7, .int .i64 c1.n8, .int .i64 c1.n9, .int .i64 c1.n10, .int .i64 c1.n11] (0, 0) _ rfl (by refine blk_put (cs := #[.bool c1.b0, .bool c1.b1, .bool c1.b2, .bool c1.b3, .bool c1.b4, .bool c1.b5, .bool c1.b6, .bool c1.b7, .int .i64 c1.n8, .int .i64 c1.n9, .int .i64 c1.n10, .int .i64 0]) ?_ 11 _ rfl; refine blk_put (cs := #[.bool c1.b0, .bool c1.b1, .bool c1.b2, .bool c1.b3, .bool c1.b4, .bool c1.b5, .bool c1.b6, .bool c1.b7, .int .i64 c1.n8, .int .i64 c1.n9, .int .i64 0, .int .i64 0]) ?_ 10 _ rfl; refine blk_put (cs := #[.bool c1.b0, .bool c1.b1, .bool c1.b2, .bool c1.b3, .bool c1.b4, .bool c1.b5, .bool c1.b6, .bool c1.b7, .int .i64 c1.n8, .int .i64 0, .int .i64 0, .int .i64 0]) ?_ 9 _ rfl; refine blk_put (cs := #[.bool c1.b0, .bool c1.b1, .bool c1.b2, .bool c1.b3, .bool c1.b4, .bool c1.b5, .bool c1.b6, .bool c1.b7, .int .i64 0, .int .i64 0, .int .i64 0, .int .i64 0]) ?_ 8 _ rfl; refine blk_put (cs := #[.bool c1.b0, .bool c1.b1, .bool c1.b2, .bool c1.b3, .bool c1.b4, .bool c1.b5, .bool c1.b6, .bool false, .int .i64 0, .int .i64 0, .int .i64 0, .int .i64 0]) ?_ 7 _ rfl; refine blk_put (cs := #[.bool c1.b0, .bool c1.b1, .bool c1.b2, .bool c1.b3, .bool c1.b4, .bool c1.b5, .bool false, .bool false, .int .i64 0, .int .i64 0, .int .i64 0, .int .i64 0]) ?_ 6 _ rfl; refine blk_put (cs := #[.bool c1.b0, .bool c1.b1, .bool c1.b2, .bool c1.b3, .bool c1.b4, .bool false, .bool false, .bool false, .int .i64 0, .int .i64 0, .int .i64 0, .int .i64 0]) ?_ 5 _ rfl; refine blk_put (cs := #[.bool c1.b0, .bool c1.b1, .bool c1.b2, .bool c1.b3, .bool false, .bool false, .bool false, .bool false, .int .i64 0, .int .i64 0, .int .i64 0, .int .i64 0]) ?_ 4 _ rfl; refine blk_put (cs := #[.bool c1.b0, .bool c1.b1, .bool c1.b2, .bool false, .bool false, .bool false, .bool false, .bool false, .int .i64 0, .int .i64 0, .int .i64 0, .int .i64 0]) ?_ 3 _ rfl; refine blk_put (cs := #[.bool c1.b0, .bool c1.b1, .bool false, .bool false, .bool false, .bool false, .bool false, .bool false, .int .i64 0, .int .i64 0, .int .i64 0, .int .i64 0]) ?_ 2 _ rfl; refine blk_put (cs := #[.bool c1.b0, .bool false, .bool false, .bool false, .bool false, .bool false, .bool false, .bool false, .int .i64 0, .int .i64 0, .int .i64 0, .int .i64 0]) ?_ 1 _ rfl; refine blk_put (cs := #[.bool false, .bool false, .bool false, .bool false, .bool false, .bool false, .bool false, .bool false, .int .i64 0, .int .i64 0, .int .i64 0, .int .i64 0]) ?_ 0 _ rfl; exact HQ.out) Tryd.underlying23 rfl (by kernel_rfl)) rfl ?_
      refine ⟨rfl, ?_⟩
      iterate 12 refine below_set ?_ (Nat.le_refl _)
      exact HB.out
theorem ctrl_Parse.calls (k : Nat) (A0 : Option Addr) (c0 : Nat) (l0 : List (S29)) (r1 : Bool) (r2 : Bool) (r3 : Bool) (r4 : Bool) (r5 : Bool) (r6 : Bool) (r7 : Bool) (r8 : Bool) (r9 : Int) (r10 : Int) (r11 : Int) (r12 : Int) (w : World) (hr0 : Kd.C k29 w A0 l0.length l0) (hc0 : l0.length ≤ c0) (h : ctrl_Parse.f k l0 = some (r1, r2, r3, r4, r5, r6, r7, r8, r9, r10, r11, r12)) :
    Calls Tryd.prog 9 #[.slice A0 l0.length c0] w fun e w' => e = .returned (.agg #[.bool r1, .bool r2, .bool r3, .bool r4, .bool r5, .bool r6, .bool r7, .bool r8, .int .i64 r9, .int .i64 r10, .int .i64 r11, .int .i64 r12]) ∧ Below w.heap.size w w' := by
  obtain ⟨vs, hvs, h⟩ := Option.bind_eq_some_iff.1 h
  split at h
  · rename_i h0
    obtain ⟨ps, hps, h⟩ := Option.bind_eq_some_iff.1 h
    split at h
    case isFalse => cases h
    rename_i hpz
    obtain ⟨b, hb, h⟩ := Option.bind_eq_some_iff.1 h
    have h := Option.some.inj h
    unfold ctrl_Parse.tup at h
    simp only [Prod.mk.injEq] at h
    obtain ⟨rfl, rfl, rfl, rfl, rfl, rfl, rfl, rfl, rfl, rfl, rfl, rfl⟩ := h
    exact ctrl_Parse.calls_c k A0 c0 l0 w hr0 hc0 vs hvs ps hpz _ (.inl ⟨h0, hps, b, hb, rfl⟩)
  · rename_i h0
    obtain ⟨ps, hps, h⟩ := Option.bind_eq_some_iff.1 h
    split at h
    case isFalse => cases h
    rename_i hpz
    obtain ⟨c, hc, h⟩ := Option.bind_eq_some_iff.1 h
    have h := Option.some.inj h
    unfold ctrl_Parse.tup at h
    simp only [Prod.mk.injEq] at h
    obtain ⟨rfl, rfl, rfl, rfl, rfl, rfl, rfl, rfl, rfl, rfl, rfl, rfl⟩ := h
    exact ctrl_Parse.calls_c k A0 c0 l0 w hr0 hc0 vs hvs ps hpz c (.inr ⟨h0, hps, hc⟩)

end Go.Proofs.YtdgimhaghhjdcaaDoor.G
