/- Counters in a block: what the program's calls on them do. -/
import Derived.Test.YteebckekahnjiaaDoorFoot
import Derived.Test.YteebckekahnjiaaDoorBx
import Derived.Test.YteebckekahnjiaaDoorAtom
import Derived.Test.YteebckekahnjiaaDoorStatL
import Derived.Test.YteebckekahnjiaaDoorShelf
import Derived.StillTailTactics
import Derived.Test.YteebckekahnjiaaDoorGx0
import Derived.Outline
import Derived.Deep.DeepMust
import Derived.Deep.DeepCutAuto
import Derived.Deep.CutBlock
set_option linter.unusedVariables false
set_option linter.unusedSimpArgs false
namespace Go.Proofs.YteebckekahnjiaaDoor.Stat
open Go.RowKit Go.Proofs.YteebckekahnjiaaDoor.G Go.Proofs.YteebckekahnjiaaDoorW.PrintWords Go.Proofs.YteebckekahnjiaaDoorW.PrintMore Go.Proofs.YteebckekahnjiaaDoor.Foot Go.Proofs.YteebckekahnjiaaDoor.StatL

abbrev En (l : List Int) : Array Value := (l.map (Value.int .i64)).toArray
abbrev OS (l : List Int) : Obj := .cells (En l) 56 (0, 0)
abbrev OR (l : List Int) : Obj := .cells (En l) 30 (0, 0)
theorem en_at {w : World} {p T : Nat} {l : List Int} (h : w.heap[p]? = some (.cells (En l) T (0, 0))) (i : Nat) (hi : i < l.length) : w.cell? ⟨p, i, none⟩ = some (.int .i64 (nth l i)) := by
  rw [World.cell?, h]
  simp [nth, List.getD_eq_getElem?_getD, hi]
theorem en_free {w : World} {p T : Nat} {l : List Int} (h : w.heap[p]? = some (.cells (En l) T (0, 0))) (i : Nat) : w.frozen? ⟨p, i, none⟩ = false := blk_frozen h i
theorem en_put {w : World} {p T : Nat} {l : List Int} (h : w.heap[p]? = some (.cells (En l) T (0, 0))) (i : Nat) (x : Int) : (w.setCell ⟨p, i, none⟩ (.int .i64 x)).heap[p]? = some (.cells (En (l.set i x)) T (0, 0)) :=
  blk_put h i _ (by simp [En, List.map_set])
theorem keeps_put {F : Nat → Prop} {w : World} {p i : Nat} (x : Value) (hp : F p) : Keeps F w (w.setCell ⟨p, i, none⟩ x) := (Keeps.refl F w).setCell (.inl hp) x
/-- A number of a block is added to. -/
theorem addAt (p i T : Nat) (l : List Int) (y : Int) (w : World) (h : w.heap[p]? = some (.cells (En l) T (0, 0))) (hi : i < l.length) (hs : -9223372036854775808 ≤ nth l i + y ∧ nth l i + y ≤ 9223372036854775807) :
    Calls Tryd.prog 20 #[.pointer (some ⟨p, i, none⟩), .int .i64 y] w fun e w' => e = .returned (.int .i64 (nth l i + y)) ∧ w'.heap[p]? = some (.cells (En (bump l i y)) T (0, 0)) ∧ Keeps (fun k => k = p) w w' :=
  (Atom.add_calls ⟨p, i, none⟩ (nth l i) y w (en_at h i hi) (en_free h i) hs).mono fun e w' ⟨he, hw⟩ => ⟨he, by rw [hw]; exact en_put h i _, by rw [hw]; exact keeps_put _ rfl⟩
theorem loadAt (p i T : Nat) (l : List Int) (w : World) (h : w.heap[p]? = some (.cells (En l) T (0, 0))) (hi : i < l.length) :
    Calls Tryd.prog 24 #[.pointer (some ⟨p, i, none⟩)] w fun e w' => e = .returned (.int .i64 (nth l i)) ∧ w' = w :=
  Atom.load_calls ⟨p, i, none⟩ _ w (en_at h i hi)
theorem bitLenAux_eq : ∀ (f x : Nat), x < 2 ^ f → Lib.bitLenAux f x = bl x
  | 0, x, h => by
    have : x = 0 := by simpa using h
    subst this
    rw [bl_zero]; rfl
  | f + 1, x, h => by
    rw [Lib.bitLenAux]
    split
    · rename_i h0; rw [h0, bl_zero]
    · rename_i h0
      rw [bitLenAux_eq f (x / 2) (by rw [Nat.pow_succ] at h; omega), bl_pos (n := x) (by omega), Nat.add_comm]
theorem len_calls (x : Int) (w : World) (h0 : 0 ≤ x) (h1 : x ≤ 1073741824) :
    Calls Tryd.prog 21 #[.int .u64 x] w fun e w' => e = .returned (.int .i64 (bl x.toNat : Int)) ∧ w' = w := by
  have HE := Lib.hid (bitLenAux_eq 64 x.toNat (by have : (2 : Nat) ^ 64 = 18446744073709551616 := by decide
                                                  omega))
  go_enter Tryd.func21, Tryd.ntmps21
  go_wp2_with fail
  refine (Tryd.bits_Len64 _ _ (by omega) (by omega)).mono ?_
  rintro e w' ⟨rfl, rfl⟩
  go_wp2
  go_ret
  exact ⟨by rw [← HE.out]; rfl, rfl⟩
theorem tdiv_bd {a : Int} (h0 : -9223372036854775808 ≤ a) (h1 : a ≤ 9223372036854775807) : -92233720368547759 ≤ a.tdiv 100 ∧ a.tdiv 100 ≤ 92233720368547759 := by
  rcases Int.lt_or_le a 0 with h | h
  · have e : a.tdiv 100 = -((-a).tdiv 100) := by rw [Int.neg_tdiv, Int.neg_neg]
    rw [e, Int.tdiv_eq_ediv_of_nonneg (by omega)]
    omega
  · rw [Int.tdiv_eq_ediv_of_nonneg h]
    omega
theorem new_calls (w : World) : Calls Tryd.prog 7 #[] w fun e w' => e = .returned (.pointer (some ⟨w.heap.size, 0, none⟩)) ∧ w' = w.alloc (.cells (En zero) 56) := by
  go_enter Tryd.func7, Tryd.ntmps7
  go_wp2
  go_ret
  exact ⟨rfl, rfl⟩
theorem of_calls (p : Nat) (how : Int) (l : List Int) (w : World) (h : w.heap[p]? = some (OS l)) (hl : l.length = 45) :
    Calls Tryd.prog 16 #[.pointer (some ⟨p, 0, none⟩), .int .i64 how] w fun e w' => e = .returned (.int .i64 (ofV l how)) ∧ w' = w := by
  have H := Lib.hid h
  have HL := Lib.hid hl
  clear h hl
  by_cases h0 : how < 0
  · go_enter Tryd.func16, Tryd.ntmps16
    go_wp2
    go_ret
    exact ⟨by unfold ofV; rw [if_pos (.inl h0)]; rfl, rfl⟩
  · by_cases h6 : 6 ≤ how
    · go_enter Tryd.func16, Tryd.ntmps16
      go_wp2
      go_ret
      exact ⟨by unfold ofV; rw [if_pos (.inr h6)]; rfl, rfl⟩
    · obtain ⟨n, rfl⟩ : ∃ n : Nat, how = (n : Int) := ⟨how.toNat, by omega⟩
      have HE := Lib.hid (show ofV l (n : Int) = nth l n by unfold ofV; rw [if_neg (by omega)]; rfl)
      go_enter Tryd.func16, Tryd.ntmps16
      go_wp2_with fail
      refine (loadAt _ _ _ l _ H.out (by rw [HL.out]; omega)).mono ?_
      rintro e w' ⟨rfl, rfl⟩
      go_wp2
      go_ret
      exact ⟨by rw [HE.out]; rfl, rfl⟩
theorem class_calls (p : Nat) (how : Int) (l : List Int) (w : World) (h : w.heap[p]? = some (OS l)) (hl : l.length = 45) :
    Calls Tryd.prog 17 #[.pointer (some ⟨p, 0, none⟩), .int .i64 how] w fun e w' => e = .returned (.int .i64 (classV l how)) ∧ w' = w := by
  have H := Lib.hid h
  have HL := Lib.hid hl
  clear h hl
  by_cases h0 : how < 1
  · go_enter Tryd.func17, Tryd.ntmps17
    go_wp2
    go_ret
    exact ⟨by unfold classV; rw [if_pos (.inl h0)]; rfl, rfl⟩
  · by_cases h6 : 5 < how
    · go_enter Tryd.func17, Tryd.ntmps17
      go_wp2
      go_ret
      exact ⟨by unfold classV; rw [if_pos (.inr h6)]; rfl, rfl⟩
    · obtain ⟨n, rfl⟩ : ∃ n : Nat, how = (n : Int) := ⟨how.toNat, by omega⟩
      have HE := Lib.hid (show classV l (n : Int) = nth l (6 + n) by unfold classV; rw [if_neg (by omega)]; rfl)
      go_enter Tryd.func17, Tryd.ntmps17
      go_wp2_with fail
      refine (loadAt _ _ _ l _ H.out (by rw [HL.out]; omega)).mono ?_
      rintro e w' ⟨rfl, rfl⟩
      go_wp2
      go_ret
      exact ⟨by rw [HE.out]; rfl, rfl⟩
theorem bytes_calls (p : Nat) (l : List Int) (w : World) (h : w.heap[p]? = some (OS l)) (hl : l.length = 45) :
    Calls Tryd.prog 18 #[.pointer (some ⟨p, 0, none⟩)] w fun e w' => e = .returned (.int .i64 (nth l 44)) ∧ w' = w := by
  have H := Lib.hid h
  have HL := Lib.hid hl
  clear h hl
  go_enter Tryd.func18, Tryd.ntmps18
  go_wp2_with fail
  refine (loadAt _ _ _ l _ H.out (by rw [HL.out]; omega)).mono ?_
  rintro e w' ⟨rfl, rfl⟩
  go_wp2
  go_ret
  exact ⟨rfl, rfl⟩
set_option maxHeartbeats 2000000 in
set_option maxRecDepth 100000 in
theorem add_calls (p n : Nat) (how status size : Int) (l : List Int) (w : World) (h : w.heap[p]? = some (OS l)) (hb : Bd n l) (hn : n ≤ 1000)
    (h1 : -9223372036854775808 ≤ status ∧ status ≤ 9223372036854775807) (h2 : -9223372036854775808 ≤ size ∧ size ≤ 9223372036854775807) :
    Calls Tryd.prog 8 #[.pointer (some ⟨p, 0, none⟩), .int .i64 how, .int .i64 status, .int .i64 size] w fun e w' => e = .returned (.tuple #[]) ∧ w'.heap[p]? = some (OS (add l how status size)) ∧ Keeps (fun k => k = p) w w' := by
  have H := Lib.hid h
  have HB := Lib.hid hb
  clear h hb
  have hsz := siz_bd size
  obtain ⟨z, hz⟩ : ∃ z, siz size = z := ⟨_, rfl⟩
  rw [hz] at hsz
  have HZ := Lib.hid hz
  obtain ⟨hz0, hz1⟩ := hsz
  obtain ⟨hs0, hs1⟩ := h1
  clear hz
  go_enter Tryd.func8, Tryd.ntmps8
  go_upto_region 0 with (fail)
  go_cut [3] (fun v3 wc => v3 = .int .i64 z ∧ Aside0 (w = wc))
  case first =>
    go_wp2_with fail
    all_goals
      go_meet
      exact ⟨by rw [← HZ.out]; unfold siz; first | rfl | (congr 1; omega), ⟨rfl⟩⟩
  case rest =>
    obtain ⟨rfl, ⟨rfl⟩⟩ := hcut
    go_upto_region 1 with (fail)
    go_cut [17] (fun v17 wc => ∃ b : Bool, v17 = .bool b ∧ Aside0 (b = decide (0 ≤ how ∧ how < 6)) ∧ Aside0 (w = wc))
    case first =>
      by_cases hh0 : 0 ≤ how <;> by_cases hh6 : how < 6
      all_goals
        go_wp2_with fail
        go_meet
        exact ⟨_, rfl, ⟨by simp [hh0, hh6]⟩, ⟨rfl⟩⟩
    case rest =>
      obtain ⟨b, rfl, HD, ⟨rfl⟩⟩ := hcut
      go_upto_if 17 with (fail)
      go_cut [] (fun wc => Aside0 (wc.heap[p]? = some (OS (add1 l how))) ∧ Aside0 (Keeps (fun k => k = p) w wc))
      case first =>
        cases b with
        | true =>
          have hh : 0 ≤ how ∧ how < 6 := of_decide_eq_true HD.out.symm
          have HE := Lib.hid (show add1 l how = bump l how.toNat 1 by unfold add1; rw [if_pos hh])
          obtain ⟨hh0, hh6⟩ := hh
          have hlo := HB.out.lo how.toNat (by omega)
          have hlen := HB.out.len
          go_wp2_with fail
          refine (addAt _ _ _ l 1 _ H.out (by omega) (by unfold nth; omega)).mono ?_
          rintro e w1 ⟨rfl, hb1, hk1⟩
          have HB1 := Aside0.mk hb1
          have HK1 := Aside0.mk hk1
          clear hb1 hk1
          go_wp2_with fail
          go_meet
          exact ⟨⟨by rw [HE.out]; exact HB1.out⟩, HK1⟩
        | false =>
          have HE := Lib.hid (show add1 l how = l by unfold add1; rw [if_neg (of_decide_eq_false HD.out.symm)])
          go_wp2_with fail
          go_meet
          exact ⟨⟨by rw [HE.out]; exact H.out⟩, ⟨Keeps.refl _ _⟩⟩
      case rest =>
        obtain ⟨H1, K1⟩ := hcut
        clear HD
        rename World => w1
        obtain ⟨c, hc⟩ : ∃ c, status.tdiv 100 = c := ⟨_, rfl⟩
        have hcb : -92233720368547759 ≤ c ∧ c ≤ 92233720368547759 := by rw [← hc]; exact tdiv_bd hs0 hs1
        have HC := Lib.hid hc
        obtain ⟨hc0, hc1⟩ := hcb
        have HB1 := Lib.hid (add1_at l how 44 HB.out.len)
        go_upto_region 4 with (fail)
        clear hc
        go_cut [8, 31] (fun v8 v31 wc => ∃ b : Bool, v8 = .int .i64 c ∧ v31 = .bool b ∧ Aside0 (b = decide (1 ≤ c ∧ c ≤ 5)) ∧ Aside0 (w1 = wc))
        case first =>
          by_cases hh0 : 1 ≤ c <;> by_cases hh6 : c ≤ 5
          all_goals
            go_wp2_with fail
            go_meet
            exact ⟨_, rfl, rfl, ⟨by simp [hh0, hh6]⟩, ⟨rfl⟩⟩
        case rest =>
          obtain ⟨b, rfl, rfl, HD, ⟨rfl⟩⟩ := hcut
          go_upto_if 31 with (fail)
          go_cut [] (fun wc => Aside0 (wc.heap[p]? = some (OS (add2 (add1 l how) status))) ∧ Aside0 (Keeps (fun k => k = p) w wc))
          case first =>
            cases b with
            | true =>
              have hh : 1 ≤ c ∧ c ≤ 5 := of_decide_eq_true HD.out.symm
              have HE := Lib.hid (show add2 (add1 l how) status = bump (add1 l how) (6 + c.toNat) 1 by unfold add2; rw [HC.out, if_pos hh])
              obtain ⟨hh0, hh6⟩ := hh
              have hlo := HB.out.lo (6 + c.toNat) (by omega)
              have hlen := HB1.out.1
              have hat := (add1_at l how (6 + c.toNat) HB.out.len).2
              go_wp2_with fail
              refine (addAt _ _ _ (add1 l how) 1 _ H1.out (by omega) (by unfold nth; omega)).mono ?_
              rintro e w2 ⟨rfl, hb1, hk1⟩
              have HB1 := Aside0.mk hb1
              have HK1 := Aside0.mk (K1.out.trans hk1 (fun _ h => .inl h))
              clear hb1 hk1
              go_wp2_with fail
              go_meet
              exact ⟨⟨by rw [HE.out]; exact HB1.out⟩, HK1⟩
            | false =>
              have HE := Lib.hid (show add2 (add1 l how) status = add1 l how by unfold add2; rw [HC.out, if_neg (of_decide_eq_false HD.out.symm)])
              go_wp2_with fail
              go_meet
              exact ⟨⟨by rw [HE.out]; exact H1.out⟩, K1⟩
          case rest =>
            obtain ⟨H2, K2⟩ := hcut
            clear HD H1 K1 HC hc0 hc1
            rename World => w2
            have HL2 := Lib.hid (add2_at (add1 l how) status 44 HB1.out.1)
            have H44 := Lib.hid (show -9223372036854775808 ≤ nth (add2 (add1 l how) status) 44 + z ∧ nth (add2 (add1 l how) status) 44 + z ≤ 9223372036854775807 by
              have h1 := HB1.out.2
              have h2 := HL2.out.2
              have h3 := HB.out.all
              unfold nth
              omega)
            have HX := Lib.hid (show add l how status size = bump (bump (add2 (add1 l how) status) 44 z) (12 + bl z.toNat) 1 by unfold add add3; rw [HZ.out])
            have HY := Lib.hid (fun j (hj : j < 44) => show 0 ≤ nth (add2 (add1 l how) status) j ∧ nth (add2 (add1 l how) status) j ≤ 1001 by
              have h1 := (add1_at l how j HB.out.len).2
              have h2 := (add2_at (add1 l how) status j HB1.out.1).2
              have h3 := HB.out.lo j hj
              unfold nth
              omega)
            go_wp2_with fail
            refine (addAt _ _ _ (add2 (add1 l how) status) z _ H2.out (by rw [HL2.out.1]; omega) H44.out).mono ?_
            rintro e w3 ⟨rfl, hb3, hk3⟩
            have H3 := Aside0.mk hb3
            have K3 := Aside0.mk (K2.out.trans hk3 (fun _ h => .inl h))
            clear hb3 hk3 H2 K2
            go_wp2_with fail
            have h31 : bl z.toNat ≤ 31 := bl_le31 (by omega)
            have HL3 := Lib.hid (show (bump (add2 (add1 l how) status) 44 z).length = 45 by rw [bump_length, HL2.out.1])
            have HN3 := Lib.hid (show -9223372036854775808 ≤ nth (bump (add2 (add1 l how) status) 44 z) (12 + bl z.toNat) + 1 ∧ nth (bump (add2 (add1 l how) status) 44 z) (12 + bl z.toNat) + 1 ≤ 9223372036854775807 by
              have h1 := HY.out (12 + bl z.toNat) (by omega)
              have h2 := getD_bump (add2 (add1 l how) status) 44 z (12 + bl z.toNat) (by rw [HL2.out.1]; omega)
              rw [if_neg (by omega)] at h2
              unfold nth at h1 ⊢
              omega)
            have H4 := Aside0.mk (show w3.drew.heap[p]? = _ from H3.out)
            have K4 := Aside0.mk K3.out.drew
            have hwz : IntKind.u64.wrap z = z := by rw [IntKind.wrap_u64]; omega
            have hlc := fun w => len_calls z w hz0 hz1
            obtain ⟨bz, hbz⟩ : ∃ bz, bl z.toNat = bz := ⟨_, rfl⟩
            rw [hbz] at h31 HN3 hlc HX
            clear hbz
            have hb0 : (0 : Int) ≤ (bz : Int) := by omega
            have hb1 : (bz : Int) < 32 := by omega
            go_still_tail 7, (by kernel_rfl)
            still_call (hlc _)
            repeat still_step
            refine wpStill_nil ?_
            change wpList _ _ _ _ _ w3.drew
            generalize w3.drew = w4 at H4 K4 ⊢
            go_wp2_with fail
            refine (addAt _ _ _ (bump (add2 (add1 l how) status) 44 z) 1 _ H4.out (by rw [HL3.out]; omega) HN3.out).mono ?_
            rintro e w5 ⟨rfl, hb5, hk5⟩
            have H5 := Aside0.mk hb5
            have K5 := Aside0.mk (K4.out.trans hk5 (fun _ h => .inl h))
            clear hb5 hk5 H4 K4
            go_wp2_with fail
            go_end0
            exact ⟨rfl, by rw [HX.out]; exact H5.out, K5.out⟩
end Go.Proofs.YteebckekahnjiaaDoor.Stat
