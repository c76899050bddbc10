-- PRINTED by print.py (a twelfth state) out of the translation. Not trusted: Lean checks it.
import Derived.Test.YtdgimhaghhjdcaaDoorGx0
import Derived.Test.YtdgimhaghhjdcaaDoorGx1
namespace Go.Proofs.YtdgimhaghhjdcaaDoor.G
open Go.RowKit Go.Proofs.YtdgimhaghhjdcaaDoorW.PrintWords Go.Proofs.YtdgimhaghhjdcaaDoorW.PrintLast Go.Proofs.YtdgimhaghhjdcaaDoorW.PrintMore
attribute [local go_sem] max2_int min2_int max_two min_two max_three min_three max_four min_four   -- for this text's walks alone
set_option linter.unusedVariables false
set_option linter.unusedSimpArgs false

/-! ### strings_Cut: function 41 -/
-- FOR strings.Cut
def strings_Cut.f (a0 : ByteArray) (a1 : ByteArray) : Option (ByteArray × ByteArray × Bool) :=
  match a1.data.toList with
  | [c] => if a0.size ≤ 140737488355328 then some (Leaf.cutAt a0 (Lib.indexByte a0.data.toList c)) else none
  | _ => none
theorem strings_Cut.idx (s : ByteArray) (c : UInt8) (i : Int) (w : World) (h : Lib.indexByte s.data.toList c = i) :
    Calls Tryd.prog 65 #[.string s, .string ⟨#[c]⟩] w fun e w' => e = .returned (.int .i64 i) ∧ w' = w := h ▸ Tryd.stringslite_Index_one s c w
theorem strings_Cut.yes (s : ByteArray) (c : UInt8) (n : Nat) (w : World) (hs : s.size ≤ 140737488355328) (hn : n < s.size) (h : Lib.indexByte s.data.toList c = (n : Int)) :
    Calls Tryd.prog 55 #[.string s, .string ⟨#[c]⟩] w fun e w' => e = .returned (.tuple #[.string (s.extract 0 n), .string (s.extract (n + 1) s.size), .bool true]) ∧ Drawn0 w w' := by
  have H := Lib.hid h
  clear h
  go_enter Tryd.func55, Tryd.ntmps55
  go_wp2_with (go_at_call 65; refine (strings_Cut.idx _ _ _ _ H.out).mono ?_; rintro e w' ⟨rfl, rfl⟩)
  go_quiet (fail)
  go_wp2
  go_ret3
  exact ⟨rfl, ⟨_, rfl⟩⟩
theorem strings_Cut.no (s : ByteArray) (c : UInt8) (w : World) (h : Lib.indexByte s.data.toList c = -1) :
    Calls Tryd.prog 55 #[.string s, .string ⟨#[c]⟩] w fun e w' => e = .returned (.tuple #[.string s, .string ⟨#[]⟩, .bool false]) ∧ Drawn0 w w' := by
  have H := Lib.hid h
  clear h
  go_enter Tryd.func55, Tryd.ntmps55
  go_wp2_with (go_at_call 65; refine (strings_Cut.idx _ _ _ _ H.out).mono ?_; rintro e w' ⟨rfl, rfl⟩)
  go_ret3
  exact ⟨rfl, Drawn0.refl _⟩
theorem strings_Cut.calls (a0 : ByteArray) (a1 : ByteArray) (r1 : ByteArray) (r2 : ByteArray) (r3 : Bool) (w : World) (h : strings_Cut.f a0 a1 = some (r1, r2, r3)) :
    Calls Tryd.prog 41 #[.string a0, .string a1] w fun e w' => e = .returned (.tuple #[.string r1, .string r2, .bool r3]) ∧ Drawn0 w w' := by
  obtain ⟨⟨l⟩⟩ := a1
  unfold strings_Cut.f at h
  simp only at h
  split at h
  case h_2 => cases h
  rename_i c
  split at h
  case isFalse => cases h
  rename_i hs
  have h := Option.some.inj h
  have lite : Calls Tryd.prog 55 #[.string a0, .string ⟨#[c]⟩] w fun e w' => e = .returned (.tuple #[.string r1, .string r2, .bool r3]) ∧ Drawn0 w w' := by
    have hge := Lib.indexByte_ge a0.data.toList c
    rcases Leaf.indexByte_lt a0.data.toList c with hi | hi
    · have hsz : (a0.data.toList.length : Int) = (a0.size : Int) := by rw [data_length]
      by_cases h0 : 0 ≤ Lib.indexByte a0.data.toList c
      · obtain ⟨n, hn⟩ := Int.eq_ofNat_of_zero_le h0
        rw [Leaf.cutAt, if_pos h0, hn] at h
        cases h
        exact strings_Cut.yes a0 c n w hs (by omega) hn
      · have hm : Lib.indexByte a0.data.toList c = -1 := by omega
        rw [Leaf.cutAt, if_neg h0] at h
        cases h
        exact strings_Cut.no a0 c w hm
    · rw [Leaf.cutAt, if_neg (by omega)] at h
      cases h
      exact strings_Cut.no a0 c w hi
  have L := Lib.hid lite
  clear lite h
  go_enter Tryd.func41, Tryd.ntmps41
  go_wp2_with (go_at_call 55; refine L.out.mono ?_; rintro e w' ⟨rfl, hd⟩)
  have HD := Aside0.mk hd
  clear hd
  go_wp2
  go_ret3
  exact ⟨rfl, HD.out⟩

/-! ### ctrl_plain: function 42 -/
-- FOR ambry/ctrl.plain
-- MAKING
def ctrl_plain.un : List UInt8 → List UInt8
  | [] => []
  | [c] => [c]
  | a :: b :: r => if a = 92 then b :: ctrl_plain.un r else a :: ctrl_plain.un (b :: r)
def ctrl_plain.text (s : List UInt8) : List UInt8 := if 2 ≤ s.length ∧ s.getD 0 0 = 34 ∧ s.getD (s.length - 1) 0 = 34 then ctrl_plain.un ((s.take (s.length - 1)).drop 1) else s
def ctrl_plain.f (a0 : ByteArray) : Option (ByteArray) := if a0.size ≤ 140737488355328 then some ⟨(ctrl_plain.text a0.data.toList).toArray⟩ else none
theorem ctrl_plain.bt (s : ByteArray) (k : Nat) (hk : k < s.size) : ∃ c : UInt8, s.data.toList.drop k = c :: s.data.toList.drop (k + 1) ∧ s.data.toList.getD k 0 = c ∧ ∀ h : k < s.size, ((s[k]'h).toNat : Int) = (c.toNat : Int) := by
  have hl : k < s.data.toList.length := by rw [data_length]; exact hk
  refine ⟨s.data.toList[k], by rw [List.drop_eq_getElem_cons hl], ?_, fun h => rfl⟩
  rw [List.getD_eq_getElem?_getD, List.getElem?_eq_getElem hl]; rfl
theorem ctrl_plain.num (c m : UInt8) : (c.toNat : Int) = (m.toNat : Int) ↔ c = m := by
  constructor
  · intro h
    exact UInt8.toNat_inj.1 (by omega)
  · rintro rfl; rfl
theorem ctrl_plain.mid (s : ByteArray) (a b : Nat) : (s.extract a b).data.toList = (s.data.toList.take b).drop a := by
  rw [ByteArray.data_extract, Array.toList_extract, List.extract_eq_take_drop, List.drop_take]
set_option maxHeartbeats 2000000 in
theorem ctrl_plain.calls (a0 : ByteArray) (r : ByteArray) (w : World) (h : ctrl_plain.f a0 = some r) :
    Calls Tryd.prog 42 #[.string a0] w fun e w' => e = .returned (.string r) ∧ Below w.heap.size w w' := by
  unfold ctrl_plain.f at h
  split at h
  case isFalse => cases h
  rename_i hs
  obtain rfl := Option.some.inj h
  clear h
  have hlen := data_length a0
  have hself : ∀ l : List UInt8, l = a0.data.toList → (⟨l.toArray⟩ : ByteArray) = a0 := by rintro l rfl; rfl
  by_cases h2 : 2 ≤ a0.size
  case neg =>
    have ht : ctrl_plain.text a0.data.toList = a0.data.toList := if_neg (fun h => h2 (by rw [← hlen]; exact h.1))
    rw [ht, hself _ rfl]
    clear ht hself hlen
    go_enter Tryd.func42, Tryd.ntmps42
    go_wp2
    go_ret
    exact ⟨rfl, Below.refl _ _⟩
  obtain ⟨ch, _, hd0, hx0⟩ := ctrl_plain.bt a0 0 (by omega)
  obtain ⟨cl, _, hdl, hxl⟩ := ctrl_plain.bt a0 (a0.size - 1) (by omega)
  have hn0 : (ch.toNat : Int) = 34 ↔ ch = 34 := ctrl_plain.num ch 34
  have hnl : (cl.toNat : Int) = 34 ↔ cl = 34 := ctrl_plain.num cl 34
  by_cases hq0 : ch = 34
  case neg =>
    have ht : ctrl_plain.text a0.data.toList = a0.data.toList := if_neg (fun h => hq0 (hd0.symm.trans h.2.1))
    rw [ht, hself _ rfl]
    have hb : ((ch.toNat : Int) == 34) = false := beq_false_of_ne (fun e => hq0 (hn0.1 e))
    have hb2 : ((ch.toNat : Int) != 34) = true := by rw [bne, hb]; rfl
    clear ht hself hlen hdl hxl hnl hn0 hq0 hd0
    generalize (ch.toNat : Int) = d at hx0 hb hb2
    go_enter Tryd.func42, Tryd.ntmps42
    go_wp2
    go_ret
    exact ⟨rfl, Below.refl _ _⟩
  by_cases hql : cl = 34
  case neg =>
    have ht : ctrl_plain.text a0.data.toList = a0.data.toList := if_neg (fun h => hql (by rw [hlen] at h; exact hdl.symm.trans h.2.2))
    rw [ht, hself _ rfl]
    have hb0 : (ch.toNat : Int) = 34 := hn0.2 hq0
    have hb : ((cl.toNat : Int) == 34) = false := beq_false_of_ne (fun e => hql (hnl.1 e))
    have hb2 : ((cl.toNat : Int) != 34) = true := by rw [bne, hb]; rfl
    rw [hb0] at hx0
    clear ht hself hlen hdl hnl hn0 hq0 hd0 hql hb0
    generalize (cl.toNat : Int) = d at hxl hb hb2
    go_enter Tryd.func42, Tryd.ntmps42
    go_wp2
    go_ret
    exact ⟨rfl, Below.refl _ _⟩
  obtain ⟨m, hm⟩ : ∃ m, a0.extract 1 (a0.size - 1) = m := ⟨_, rfl⟩
  have hml : m.data.toList = (a0.data.toList.take (a0.data.toList.length - 1)).drop 1 := by rw [← hm, ctrl_plain.mid, hlen]
  have ht : ctrl_plain.text a0.data.toList = ctrl_plain.un m.data.toList := by
    rw [hml]; exact if_pos ⟨by rw [hlen]; exact h2, hd0.trans hq0, by rw [hlen]; exact hdl.trans hql⟩
  have hmz : m.size = a0.size - 2 := by rw [← data_length, hml, List.length_drop, List.length_take, hlen]; omega
  have hb0 : (ch.toNat : Int) = 34 := hn0.2 hq0
  have hbl : (cl.toNat : Int) = 34 := hnl.2 hql
  rw [hb0] at hx0
  rw [hbl] at hxl
  rw [ht]
  have hsl : ∀ w, (Instr.slice 9 (.string a0) (some (.int .i64 1)) (some (.int .i64 ((a0.size : Int) - 1))) none).run Tryd.prog w = .ok (.string m) w := fun w => by
    rw [run_slice_string w 9 a0 .i64 .i64 1 ((a0.size : Int) - 1) Tryd.underlying9 (by omega) (by omega) (by omega), ← hm]
    have : ((a0.size : Int) - 1).toNat = a0.size - 1 := by omega
    rw [this]; rfl
  have HN := Lib.hid (fun k (hk : k < m.size) => ctrl_plain.bt m k hk)
  have hms : m.size ≤ a0.size := by omega
  have HD := Lib.hid (data_length m)
  clear ht hml hm hself hlen hmz hd0 hdl hn0 hnl hq0 hql hb0 hbl
  go_enter Tryd.func42, Tryd.ntmps42
  go_wp2
  go_loopw [4] (fun v4 wr => ∃ (k : Nat) (s : List UInt8), k ≤ m.size ∧ v4 = .int .i64 k ∧ Aside0 (s.length ≤ k) ∧ Aside0 (s ++ ctrl_plain.un (m.data.toList.drop k) = ctrl_plain.un m.data.toList) ∧ Aside0 (Bld.Has wr w.heap.size w.heap.size s) ∧ Aside0 (Below w.heap.size w wr)) (fun v4 _ => m.size - (intOf v4).toNat)
  case atStart => exact ⟨0, [], Nat.zero_le _, rfl, ⟨Nat.le_refl _⟩, ⟨rfl⟩, ⟨Bld.Has.fresh w⟩, ⟨below_alloc (Below.refl _ _) _⟩⟩
  case round =>
    obtain ⟨k, s, hk, rfl, HL, HS, HB, HW⟩ := hrel
    by_cases hlt : k < m.size
    · obtain ⟨c, hd, _, hx⟩ := HN.out k hlt
      have hcn : (c.toNat : Int) = 92 ↔ c = 92 := ctrl_plain.num c 92
      by_cases hlt2 : k + 1 < m.size
      · obtain ⟨c2, hd2, _, hx2⟩ := HN.out (k + 1) hlt2
        by_cases hc : c = 92
        · have hsame : ctrl_plain.un (m.data.toList.drop k) = c2 :: ctrl_plain.un (m.data.toList.drop (k + 1 + 1)) := by rw [hd, hd2, ctrl_plain.un, if_pos hc]
          have HS2 := Aside0.mk (show (s ++ [c2]) ++ ctrl_plain.un (m.data.toList.drop (k + 1 + 1)) = ctrl_plain.un m.data.toList by rw [← HS.out, hsame, List.append_assoc]; rfl)
          have hcv := hcn.2 hc
          rw [hcv] at hx
          have hx3 : ∀ (h : ((k : Int) + 1).toNat < m.size), ((m[((k : Int) + 1).toNat]'h).toNat : Int) = (c2.toNat : Int) := fun h => by
            have e : ((k : Int) + 1).toNat = k + 1 := by omega
            rw [← hx2 hlt2]; simp only [e]
          clear hsame hd hd2 hc hcn hcv HS
          go_wp2_with fail
          refine (Bld.writeByte w.heap.size w.heap.size s c2 _ HB.out (by have := HL.out; omega)).mono ?_
          rintro e w1 ⟨rfl, hb1, hB1, hk1⟩
          have HB1 := Aside0.mk hb1
          have HW1 := Aside0.mk (HW.out.trans hB1)
          clear hb1 hB1 hk1
          go_wp2
          go_roundw
          case rel => exact ⟨k + 1 + 1, s ++ [c2], by omega, by go_num, ⟨by have := HL.out; rw [List.length_append, List.length_singleton]; omega⟩, HS2, HB1, HW1⟩
          case measure => simp [intOf]; omega
        · have hsame : ctrl_plain.un (m.data.toList.drop k) = c :: ctrl_plain.un (m.data.toList.drop (k + 1)) := by rw [hd, hd2, ctrl_plain.un, if_neg hc]
          have HS2 := Aside0.mk (show (s ++ [c]) ++ ctrl_plain.un (m.data.toList.drop (k + 1)) = ctrl_plain.un m.data.toList by rw [← HS.out, hsame, List.append_assoc]; rfl)
          have hb : ((c.toNat : Int) == 92) = false := beq_false_of_ne (fun e => hc (hcn.1 e))
          clear hsame hd hd2 hc hcn HS hx2
          go_wp2_with fail
          refine (Bld.writeByte w.heap.size w.heap.size s c _ HB.out (by have := HL.out; omega)).mono ?_
          rintro e w1 ⟨rfl, hb1, hB1, hk1⟩
          have HB1 := Aside0.mk hb1
          have HW1 := Aside0.mk (HW.out.trans hB1)
          clear hb1 hB1 hk1
          go_wp2
          go_roundw
          case rel => exact ⟨k + 1, s ++ [c], by omega, by go_num, ⟨by have := HL.out; rw [List.length_append, List.length_singleton]; omega⟩, HS2, HB1, HW1⟩
          case measure => simp [intOf]; omega
      · have hk1 : k + 1 = m.size := by omega
        have hsame : ctrl_plain.un (m.data.toList.drop k) = c :: ctrl_plain.un (m.data.toList.drop (k + 1)) := by
          rw [hd, hk1, List.drop_eq_nil_of_le (by rw [HD.out]; exact Nat.le_refl _)]; rfl
        have HS2 := Aside0.mk (show (s ++ [c]) ++ ctrl_plain.un (m.data.toList.drop (k + 1)) = ctrl_plain.un m.data.toList by rw [← HS.out, hsame, List.append_assoc]; rfl)
        clear hsame hd HS
        by_cases hc : c = 92
        · subst hc
          have hxv : ∀ h : k < m.size, ((m[k]'h).toNat : Int) = 92 := hx
          clear hcn hx
          go_wp2_with fail
          refine (Bld.writeByte w.heap.size w.heap.size s 92 _ HB.out (by have := HL.out; omega)).mono ?_
          rintro e w1 ⟨rfl, hb1, hB1, hk1⟩
          have HB1 := Aside0.mk hb1
          have HW1 := Aside0.mk (HW.out.trans hB1)
          clear hb1 hB1 hk1
          go_wp2
          go_roundw
          case rel => exact ⟨k + 1, s ++ [92], by omega, by go_num, ⟨by have := HL.out; rw [List.length_append, List.length_singleton]; omega⟩, HS2, HB1, HW1⟩
          case measure => simp [intOf]; omega
        · have hb : ((c.toNat : Int) == 92) = false := beq_false_of_ne (fun e => hc (hcn.1 e))
          clear hcn
          go_wp2_with fail
          refine (Bld.writeByte w.heap.size w.heap.size s c _ HB.out (by have := HL.out; omega)).mono ?_
          rintro e w1 ⟨rfl, hb1, hB1, hk1⟩
          have HB1 := Aside0.mk hb1
          have HW1 := Aside0.mk (HW.out.trans hB1)
          clear hb1 hB1 hk1
          go_wp2
          go_roundw
          case rel => exact ⟨k + 1, s ++ [c], by omega, by go_num, ⟨by have := HL.out; rw [List.length_append, List.length_singleton]; omega⟩, HS2, HB1, HW1⟩
          case measure => simp [intOf]; omega
    · have hk2 : k = m.size := by omega
      have hnil : m.data.toList.drop k = [] := List.drop_eq_nil_of_le (by rw [HD.out]; omega)
      have hall : s = ctrl_plain.un m.data.toList := by have := HS.out; rw [hnil] at this; simpa [ctrl_plain.un] using this
      have HA := Lib.hid hall
      clear hnil hall hk2
      go_wp2_with fail
      refine (Bld.string w.heap.size w.heap.size _ _ HB.out).mono ?_
      rintro e w1 ⟨rfl, hB1⟩
      have HW1 := Aside0.mk (HW.out.trans hB1)
      clear hB1
      go_wp2
      go_ret
      exact ⟨by rw [HA.out]; rfl, HW1.out⟩

/-! ### ctrl_least: function 44 -/
def ctrl_least.f (k : Nat) (a0 : Int) (a1 : ByteArray) : Option (Int) := (ctrl_Seconds.f k a1).bind fun t131 => (if a0 ≥ 0 then (some (mn (mx t131 0) a0)) else (some (mx t131 0)))
theorem ctrl_least.mono : ∀ a0 a1 k, LeO (ctrl_least.f k a0 a1) (ctrl_least.f (k + 1) a0 a1) := by
  intro a0 a1 k
  unfold ctrl_least.f
  repeat' first
      | (with_reducible exact ctrl_Seconds.mono _ _)
      | (with_reducible exact LeO.refl _)
      | (with_reducible exact LeO.none _)
      | (with_reducible refine LeO.ite ?_ ?_)
      | (with_reducible refine LeO.bind ?_ (fun _ => ?_))
      | exact ctrl_Seconds.mono _ _
      | exact LeO.none _
      | refine LeO.ite ?_ ?_
      | refine LeO.bind ?_ (fun _ => ?_)
set_option maxHeartbeats 8000000 in
set_option maxRecDepth 100000 in
theorem ctrl_least.calls (k : Nat) (a0 : Int) (a1 : ByteArray) (r : Int) (w : World) (h : ctrl_least.f k a0 a1 = some r) :
    Calls Tryd.prog 44 #[.int .i64 a0, .string a1] w fun e w' => e = .returned (.int .i64 r) ∧ Below w.heap.size w w' := by
  have HB := Aside0.mk (Below.refl w.heap.size w)
  have H : ((ctrl_Seconds.f k a1).bind fun t131 => (if a0 ≥ 0 then (some (mn (mx t131 0) a0)) else (some (mx t131 0)))) = some r := h
  clear h
  replace H := Option.bind_eq_some_iff.mp H
  obtain ⟨t131, A30, H⟩ := H
  replace H : (if a0 ≥ 0 then (some (mn (mx t131 0) a0)) else (some (mx t131 0))) = some r := H
  have A3 := Aside0.mk A30
  clear A30
  obtain ⟨ji4, hji4⟩ : ∃ j_ : Int, (mx t131 0) = j_ := ⟨_, rfl⟩
  replace H : (if a0 ≥ 0 then (some (mn (ji4) a0)) else (some ji4)) = some r := by first | (rw [hji4] at H; exact H) | (simp only [hji4] at H ⊢; exact H)
  (try rw [hji4] at A3)
  (try (have hji4l : 0 ≤ ji4 := by (rw [← hji4]; unfold mx; (repeat' split) <;> omega)))
  (try (have hji4m : 0 ≤ ji4 := by omega))
  have hji4_ : (if t131 < 0 then 0 else t131) = ji4 := hji4
  by_cases c5 : a0 ≥ 0
  · rw [if_pos c5] at H
    have c5b0 : decide (0 ≤ a0) = true := decide_eq_true c5
    clear c5
    obtain ⟨ji6, hji6⟩ : ∃ j_ : Int, (mn (ji4) a0) = j_ := ⟨_, rfl⟩
    replace H : (some ji6) = some r := by first | (rw [hji6] at H; exact H) | (simp only [hji6] at H ⊢; exact H)
    (try rw [hji6] at A3)
    have hji6_ : (if a0 < (ji4) then a0 else (ji4)) = ji6 := hji6
    obtain rfl := Option.some.inj H
    go_enter Tryd.func44, Tryd.ntmps44
    go_wp2_with (first | ((with_reducible refine gate_callee (f := 15) rfl ?_); refine goesL_ (some 7) rfl rfl Tryd.func15 (by kernel_rfl) rfl #[.string a1] rfl (by (try simp only [List.map_toArray, List.map_cons, List.map_nil]); first | done | rfl | (simp only [List.length_drop, List.length_take]; rfl)) ?_; (with_reducible refine (ctrl_Seconds.calls k a1 t131 _ A3.out).mono ?_); rintro e w7 ⟨rfl, hb⟩; refine ⟨_, rfl, ?_⟩; have n0_ := Aside0.mk (below_step (by repeat (first | (with_reducible first | exact HB.out | apply below_alloc | apply pw_below_drewN | apply below_drew1) | exact HB.out)) hb); clear HB; have HB := n0_; clear n0_; (try clear hb); (try clear hb2); (try clear hk); (try clear hi)))
    go_ret
    exact ⟨by first | rfl | (simp [errW_none, errW_some] <;> rfl) | (simp only [← hji4, ← hji6]; first | rfl | (simp [errW_none, errW_some] <;> rfl)) | (simp [*, errW_none, errW_some] <;> rfl), by repeat (first | (with_reducible first | exact HB.out | apply below_alloc | apply pw_below_drewN | apply below_drew1) | exact HB.out)⟩
  · rw [if_neg c5] at H
    have c5b0 : decide (0 ≤ a0) = false := decide_eq_false c5
    clear c5
    obtain rfl := Option.some.inj H
    go_enter Tryd.func44, Tryd.ntmps44
    go_wp2_with (first | ((with_reducible refine gate_callee (f := 15) rfl ?_); refine goesL_ (some 7) rfl rfl Tryd.func15 (by kernel_rfl) rfl #[.string a1] rfl (by (try simp only [List.map_toArray, List.map_cons, List.map_nil]); first | done | rfl | (simp only [List.length_drop, List.length_take]; rfl)) ?_; (with_reducible refine (ctrl_Seconds.calls k a1 t131 _ A3.out).mono ?_); rintro e w8 ⟨rfl, hb⟩; refine ⟨_, rfl, ?_⟩; have n0_ := Aside0.mk (below_step (by repeat (first | (with_reducible first | exact HB.out | apply below_alloc | apply pw_below_drewN | apply below_drew1) | exact HB.out)) hb); clear HB; have HB := n0_; clear n0_; (try clear hb); (try clear hb2); (try clear hk); (try clear hi)))
    go_ret
    exact ⟨by first | rfl | (simp [errW_none, errW_some] <;> rfl) | (simp only [← hji4]; first | rfl | (simp [errW_none, errW_some] <;> rfl)) | (simp [*, errW_none, errW_some] <;> rfl), by repeat (first | (with_reducible first | exact HB.out | apply below_alloc | apply pw_below_drewN | apply below_drew1) | exact HB.out)⟩

end Go.Proofs.YtdgimhaghhjdcaaDoor.G
