-- PRINTED by print.py (a twelfth state) out of the translation. Not trusted: Lean checks it.
import Derived.Test.YtefijfanjekchaaGx0
import Derived.Test.YtefijfanjekchaaGx1
import Derived.Test.YtefijfanjekchaaGx2
namespace Go.Proofs.Ytefijfanjekchaa.G
open Go.RowKit Go.Proofs.YtefijfanjekchaaW.PrintWords Go.Proofs.YtefijfanjekchaaW.PrintLast Go.Proofs.YtefijfanjekchaaW.PrintMore
attribute [local go_sem] max2_int min2_int max_two min_two max_three min_three max_four min_four   -- for this text's walks alone
set_option linter.unusedVariables false
set_option linter.unusedSimpArgs false

/-! ### vary_plain: function 29 -/
-- FOR ambry/vary.plain
-- MAKING
def vary_plain.go : Bool → List UInt8 → List UInt8
  | _, [] => []
  | run, c :: r => if c = 32 ∨ c = 9 then (if run = true then vary_plain.go true r else 32 :: vary_plain.go true r) else c :: vary_plain.go false r
def vary_plain.f (a0 : ByteArray) : Option (ByteArray) := if a0.size ≤ 140737488355328 then some ⟨(vary_plain.go false a0.data.toList).toArray⟩ else none
theorem vary_plain.bt (s : ByteArray) (k : Nat) (hk : k < s.size) : ∃ c : UInt8, s.data.toList.drop k = c :: s.data.toList.drop (k + 1) ∧ bt s (k : Int) = (c.toNat : Int) ∧ ∀ h : k < s.size, ((s[k]'h).toNat : Int) = (c.toNat : Int) := by
  have hl : k < s.data.toList.length := by rw [data_length]; exact hk
  refine ⟨s.data.toList[k], by rw [List.drop_eq_getElem_cons hl], ?_, fun h => rfl⟩
  have := bt_at s (k : Int) (by simpa using hk)
  rw [← this]; rfl
set_option maxHeartbeats 2000000 in
theorem vary_plain.calls (a0 : ByteArray) (r : ByteArray) (w : World) (h : vary_plain.f a0 = some r) :
    Calls Try.prog 29 #[.string a0] w fun e w' => e = .returned (.string r) ∧ Below w.heap.size w w' := by
  unfold vary_plain.f at h
  split at h
  case isFalse => cases h
  rename_i hs
  obtain rfl := Option.some.inj h
  clear h
  have HN := Lib.hid (fun k (hk : k < a0.size) => vary_plain.bt a0 k hk)
  go_enter Try.func29, Try.ntmps29
  go_wp2
  go_loopw [4, 9] (fun v4 v9 wr => ∃ (k : Nat) (run : Bool) (s : List UInt8), k ≤ a0.size ∧ v4 = .bool run ∧ v9 = .int .i64 k ∧ Aside0 (s.length ≤ k) ∧ Aside0 (s ++ vary_plain.go run (a0.data.toList.drop k) = vary_plain.go false a0.data.toList) ∧ Aside0 (Bld.Has wr w.heap.size w.heap.size s) ∧ Aside0 (Below w.heap.size w wr)) (fun _ v9 _ => a0.size - (intOf v9).toNat)
  case atStart => exact ⟨0, false, [], Nat.zero_le _, rfl, rfl, ⟨Nat.le_refl _⟩, ⟨rfl⟩, ⟨Bld.Has.fresh w⟩, ⟨below_alloc (Below.refl _ _) _⟩⟩
  case round =>
    obtain ⟨k, run, s, hk, rfl, rfl, HL, HS, HB, HW⟩ := hrel
    by_cases hlt : k < a0.size
    · obtain ⟨c, hd, _, hx⟩ := HN.out k hlt
      rw [hd] at HS
      have hr := c.toNat_lt
      by_cases hc : c = 32 ∨ c = 9
      · have hsame : vary_plain.go run (c :: a0.data.toList.drop (k + 1)) = (if run = true then vary_plain.go true (a0.data.toList.drop (k + 1)) else 32 :: vary_plain.go true (a0.data.toList.drop (k + 1))) := by rw [vary_plain.go, if_pos hc]
        rw [hsame] at HS
        have hci : (c.toNat : Int) = 32 ∨ (c.toNat : Int) = 9 := by rcases hc with rfl | rfl <;> decide
        clear hd hc hsame
        generalize (c.toNat : Int) = d at hx hci
        cases run with
        | true =>
          rw [if_pos rfl] at HS
          rcases hci with rfl | rfl
          · go_wp2
            go_roundw
            case rel => exact ⟨k + 1, true, s, by omega, rfl, by go_num, ⟨by have := HL.out; omega⟩, HS, HB, HW⟩
            case measure => simp [intOf]; omega
          · go_wp2
            go_roundw
            case rel => exact ⟨k + 1, true, s, by omega, rfl, by go_num, ⟨by have := HL.out; omega⟩, HS, HB, HW⟩
            case measure => simp [intOf]; omega
        | false =>
          rw [if_neg (by decide)] at HS
          have HS2 := Aside0.mk ((List.append_assoc s [32] _).trans HS.out)
          clear HS
          rcases hci with rfl | rfl
          · go_wp2_with fail
            refine (Bld.writeByte w.heap.size w.heap.size s 32 _ HB.out (by have := HL.out; omega)).mono ?_
            rintro e w1 ⟨rfl, hb1, hB1, hk1⟩
            have HB1 := Aside0.mk hb1
            have HW1 := Aside0.mk (HW.out.trans hB1)
            clear hb1 hB1 hk1
            go_wp2
            go_roundw
            case rel => exact ⟨k + 1, true, s ++ [32], by omega, rfl, by go_num, ⟨by have := HL.out; rw [List.length_append, List.length_singleton]; omega⟩, HS2, HB1, HW1⟩
            case measure => simp [intOf]; omega
          · go_wp2_with fail
            refine (Bld.writeByte w.heap.size w.heap.size s 32 _ HB.out (by have := HL.out; omega)).mono ?_
            rintro e w1 ⟨rfl, hb1, hB1, hk1⟩
            have HB1 := Aside0.mk hb1
            have HW1 := Aside0.mk (HW.out.trans hB1)
            clear hb1 hB1 hk1
            go_wp2
            go_roundw
            case rel => exact ⟨k + 1, true, s ++ [32], by omega, rfl, by go_num, ⟨by have := HL.out; rw [List.length_append, List.length_singleton]; omega⟩, HS2, HB1, HW1⟩
            case measure => simp [intOf]; omega
      · have hsame : vary_plain.go run (c :: a0.data.toList.drop (k + 1)) = c :: vary_plain.go false (a0.data.toList.drop (k + 1)) := by rw [vary_plain.go, if_neg hc]
        rw [hsame] at HS
        have HS2 := Aside0.mk ((List.append_assoc s [c] _).trans HS.out)
        have h32 : ((c.toNat : Int) == 32) = false := beq_false_of_ne fun e => hc (.inl (UInt8.toNat_inj.1 (by show c.toNat = 32; omega)))
        have h9 : ((c.toNat : Int) == 9) = false := beq_false_of_ne fun e => hc (.inr (UInt8.toNat_inj.1 (by show c.toNat = 9; omega)))
        clear HS hsame hd hc
        go_wp2_with fail
        refine (Bld.writeByte w.heap.size w.heap.size s c _ HB.out (by have := HL.out; omega)).mono ?_
        rintro e w1 ⟨rfl, hb1, hB1, hk1⟩
        have HB1 := Aside0.mk hb1
        have HW1 := Aside0.mk (HW.out.trans hB1)
        clear hb1 hB1 hk1
        go_wp2
        go_roundw
        case rel => exact ⟨k + 1, false, s ++ [c], by omega, rfl, by go_num, ⟨by have := HL.out; rw [List.length_append, List.length_singleton]; omega⟩, HS2, HB1, HW1⟩
        case measure => simp [intOf]; omega
    · have hk2 : k = a0.size := by omega
      have hnil : a0.data.toList.drop k = [] := List.drop_eq_nil_of_le (by rw [data_length]; omega)
      have hall : s = vary_plain.go false a0.data.toList := by have := HS.out; rw [hnil] at this; cases run <;> simpa [vary_plain.go] using this
      have HA := Lib.hid hall
      clear hnil hall hk2
      go_wp2_with fail
      refine (Bld.string w.heap.size w.heap.size _ _ HB.out).mono ?_
      rintro e w1 ⟨rfl, hB1⟩
      have HW1 := Aside0.mk (HW.out.trans hB1)
      clear hB1
      go_wp2
      go_ret
      exact ⟨by rw [HA.out]; rfl, HW1.out⟩

/-! ### strings_Join: function 30 -/
-- FOR strings.Join
-- MAKING
def strings_Join.text (sep : List UInt8) : List ByteArray → List UInt8
  | [] => []
  | x :: r => x.data.toList ++ r.flatMap (fun y => sep ++ y.data.toList)
def strings_Join.f (l0 : List ByteArray) (a1 : ByteArray) : Option (ByteArray) := if l0.length ≤ 1000000 ∧ a1.size ≤ 1000 ∧ 1 ≤ a1.size ∧ (strings_Join.text a1.data.toList l0).length ≤ 140737488355328 then some ⟨(strings_Join.text a1.data.toList l0).toArray⟩ else none
def strings_Join.sum (l : List ByteArray) : Nat := (l.map ByteArray.size).foldr (· + ·) 0
theorem strings_Join.sum_append (a b : List ByteArray) : strings_Join.sum (a ++ b) = strings_Join.sum a + strings_Join.sum b := by
  induction a with
  | nil => show _ = 0 + _; rw [Nat.zero_add]; rfl
  | cons x a ih => show x.size + strings_Join.sum (a ++ b) = x.size + strings_Join.sum a + _; rw [ih, Nat.add_assoc]
theorem strings_Join.sum_next (l : List ByteArray) (k : Nat) (hk : k < l.length) : strings_Join.sum (l.take (k + 1)) = strings_Join.sum (l.take k) + (rdOf ByteArray.empty l (k : Int)).size ∧ strings_Join.sum (l.take (k + 1)) ≤ strings_Join.sum l := by
  have e : l.take (k + 1) = l.take k ++ [rdOf ByteArray.empty l (k : Int)] := by
    unfold rdOf
    rw [Int.toNat_natCast, List.take_succ_eq_append_getElem hk, List.getD_eq_getElem?_getD, List.getElem?_eq_getElem hk]; rfl
  refine ⟨by rw [e, strings_Join.sum_append]; rfl, ?_⟩
  conv => rhs; rw [← List.take_append_drop (k + 1) l, strings_Join.sum_append]
  exact Nat.le_add_right _ _
theorem strings_Join.text_len (sep : ByteArray) : ∀ l : List ByteArray, 1 ≤ l.length → (strings_Join.text sep.data.toList l).length = strings_Join.sum l + sep.size * (l.length - 1) := by
  have hd : ∀ b : ByteArray, b.data.toList.length = b.size := fun b => data_length b
  have key : ∀ r : List ByteArray, (r.flatMap (fun y => sep.data.toList ++ y.data.toList)).length = strings_Join.sum r + sep.size * r.length := by
    intro r
    induction r with
    | nil => rfl
    | cons y r ih =>
      rw [List.flatMap_cons, List.length_append, ih, List.length_append, hd, hd, List.length_cons, Nat.mul_succ]
      show _ = y.size + strings_Join.sum r + _
      omega
  intro l hl
  cases l with
  | nil => simp at hl
  | cons x r =>
    show (x.data.toList ++ _).length = x.size + strings_Join.sum r + _
    rw [List.length_append, key, hd, List.length_cons, Nat.add_sub_cancel]; omega
theorem strings_Join.add_one (ad : Addr) (j : Nat) : ad.add (j + 1) = ⟨ad.block, ad.off + 1 + j, none⟩ := by
  unfold Addr.add
  rw [if_neg (by omega)]
  congr 1
  omega
theorem strings_Join.text_next (sep : List UInt8) (l : List ByteArray) (k : Nat) (h1 : 1 ≤ k) (hk : k < l.length) : strings_Join.text sep (l.take (k + 1)) = strings_Join.text sep (l.take k) ++ sep ++ (rdOf ByteArray.empty l (k : Int)).data.toList ∧ (strings_Join.text sep (l.take (k + 1))).length ≤ (strings_Join.text sep l).length := by
  have e : l.take (k + 1) = l.take k ++ [rdOf ByteArray.empty l (k : Int)] := by
    unfold rdOf
    rw [Int.toNat_natCast, List.take_succ_eq_append_getElem hk, List.getD_eq_getElem?_getD, List.getElem?_eq_getElem hk]; rfl
  have app : ∀ a b : List ByteArray, a ≠ [] → strings_Join.text sep (a ++ b) = strings_Join.text sep a ++ b.flatMap (fun y => sep ++ y.data.toList) := by
    intro a b ha
    cases a with
    | nil => exact absurd rfl ha
    | cons x r =>
      show x.data.toList ++ (r ++ b).flatMap _ = _
      rw [List.flatMap_append, ← List.append_assoc]; rfl
  have hne : l.take k ≠ [] := fun h => by
    have := congrArg List.length h
    rw [List.length_take] at this
    simp only [List.length_nil] at this
    omega
  have hne2 : l.take (k + 1) ≠ [] := fun h => by
    have := congrArg List.length h
    rw [List.length_take] at this
    simp only [List.length_nil] at this
    omega
  refine ⟨by rw [e, app _ _ hne]; simp, ?_⟩
  conv => rhs; rw [← List.take_append_drop (k + 1) l, app _ _ hne2]
  rw [List.length_append]; exact Nat.le_add_right _ _
set_option maxHeartbeats 1000000 in
theorem strings_Join.calls (A0 : Option Addr) (c0 : Nat) (l0 : List ByteArray) (a1 : ByteArray) (r : ByteArray) (w : World) (hr0 : Kd.C Kd.string w A0 l0.length l0) (hc0 : l0.length ≤ c0) (h : strings_Join.f l0 a1 = some r) :
    Calls Try.prog 30 #[.slice A0 l0.length c0, .string a1] w fun e w' => e = .returned (.string r) ∧ Below w.heap.size w w' := by
  unfold strings_Join.f at h
  split at h
  case isFalse => cases h
  rename_i hs
  obtain rfl := Option.some.inj h
  clear h
  obtain ⟨hs1, hs2, hs3, hs4⟩ := hs
  have HR := Aside0.mk hr0
  clear hr0
  by_cases h0 : l0.length = 0
  · have hl : l0 = [] := List.eq_nil_of_length_eq_zero h0
    subst hl
    clear HR
    go_enter Try.func30, Try.ntmps30
    go_wp2
    go_ret
    exact ⟨rfl, Below.refl _ _⟩
  by_cases h1 : l0.length = 1
  · obtain ⟨ad, e0, hx⟩ := Kd.at_string HR.out 0 (by omega) (by omega)
    cases e0
    have e2 : strings_Join.text a1.data.toList l0 = (rdOf ByteArray.empty l0 0).data.toList := by
      match l0, h1 with
      | [x], _ => show x.data.toList ++ [] = _; rw [List.append_nil]; rfl
    have E2 := Lib.hid e2
    rw [h1] at hc0 ⊢
    clear e2 HR h0 hs4
    rw [Int.toNat_zero] at hx
    have hx2 : w.cell? ad = some (.string (rdOf ByteArray.empty l0 0)) := by simpa [Addr.add] using hx
    go_enter Try.func30, Try.ntmps30
    go_wp2
    go_ret
    exact ⟨by rw [E2.out]; rfl, Below.refl _ _⟩
  obtain ⟨ad, e0, hx0⟩ := Kd.at_string HR.out 0 (by omega) (by omega)
  cases e0
  rw [Int.toNat_zero] at hx0
  have hx0 : w.cell? ad = some (.string (rdOf ByteArray.empty l0 0)) := by simpa [Addr.add] using hx0
  obtain ⟨n, hn⟩ : ∃ n, l0.length = n + 2 := ⟨l0.length - 2, by omega⟩
  have hT := strings_Join.text_len a1 l0 (by omega)
  rw [hn] at hT
  have hsub : n + 2 - 1 = n + 1 := by omega
  rw [hsub] at hT
  have hM : a1.size * (n + 1) ≤ 1000 * 1000000 := Nat.mul_le_mul hs2 (by omega)
  have hmul : (a1.size : Int) * ((n : Int) + 1) = ((a1.size * (n + 1) : Nat) : Int) := by rw [Int.natCast_mul]; rfl
  generalize a1.size * (n + 1) = M at hT hM hmul
  have hq : ¬ (9223372036854775807 / ((n : Int) + 2 - 1) ≤ (a1.size : Int)) := by
    have h9 : (2000 : Int) ≤ 9223372036854775807 / ((n : Int) + 2 - 1) := Int.le_ediv_of_mul_le (by omega) (by omega)
    omega
  have HMUL := Lib.hid hmul
  clear h0 h1 hsub hmul
  rw [hn]
  go_enter Try.func30, Try.ntmps30
  go_wp2
  clear hq
  have hwr : wrap64 (wrap64 ((a1.size : Int) * ((n : Int) + 2 - 1))) = (M : Int) := by
    have h9 : (n : Int) + 2 - 1 = (n : Int) + 1 := by omega
    rw [h9, HMUL.out]
    unfold wrap64; omega
  rw [hwr]
  clear hwr HMUL hx0
  have HT := Lib.hid hT
  have HN := Lib.hid hn
  have hnb : n ≤ 1000000 := by omega
  clear hT hn
  go_loopw [5, 41] (fun v5 v41 wr => ∃ k N : Nat, k ≤ n + 2 ∧ v41 = .int .i64 k ∧ v5 = .int .i64 N ∧ Aside0 (N = M + strings_Join.sum (l0.take k)) ∧ Aside0 (Below w.heap.size w wr)) (fun _ v41 _ => n + 2 - (intOf v41).toNat)
  case atStart => exact ⟨0, M, Nat.zero_le _, rfl, rfl, ⟨rfl⟩, ⟨Below.refl _ _⟩⟩
  case round =>
    obtain ⟨k, N, hk, rfl, rfl, HS, HW⟩ := hrel
    by_cases hlt : k < n + 2
    · obtain ⟨ad', e, hx⟩ := Kd.at_string (Kd.C_below HR.out HW.out) (k : Int) (by omega) (by have := HN.out; omega)
      cases e
      rw [Int.toNat_natCast] at hx
      have hn1 := strings_Join.sum_next l0 k (by have := HN.out; omega)
      generalize rdOf ByteArray.empty l0 (k : Int) = x at hx hn1
      have hNx : N + x.size ≤ 140737488355328 := by have := HS.out; have := HT.out; omega
      have HN1 := Lib.hid hn1.1
      clear hn1
      go_wp2
      go_roundw
      case rel => exact ⟨k + 1, N + x.size, by omega, by go_num, by go_num, ⟨by rw [HN1.out, HS.out, Nat.add_assoc]⟩, HW⟩
      case measure => simp [intOf]; omega
    · have hkn : k = n + 2 := by omega
      have hN : N ≤ 140737488355328 := by
        have h1 := HS.out
        rw [hkn, ← HN.out, List.take_length] at h1
        have := HT.out
        omega
      clear hkn
      have hwb : w.heap.size ≤ wr.heap.size := HW.out.size
      have hci : (c0 = 1) = False := eq_false (by have := HN.out; omega)
      have hc2 : n + 2 ≤ c0 := by have := HN.out; omega
      clear HS
      go_wp2_with fail
      refine (Try.Builder_Grow_fresh wr.heap.size wr.heap.size N _ (Nat.le_refl _) (heap_alloc_new wr _) (by simp) (by omega)).mono ?_
      rintro e w3 ⟨rfl, hb3, hB3⟩
      have HB3 := Aside0.mk (show Bld.Has w3 wr.heap.size wr.heap.size [] from .inr hb3)
      have HW3 := Aside0.mk ((below_alloc HW.out (.cells #[.pointer none, .slice none 0 0] 60)).trans (Below.mono hB3 hwb))
      clear hb3 hB3
      obtain ⟨ad', e, hx⟩ := Kd.at_string (Kd.C_below HR.out HW3.out) 0 (by omega) (by have := HN.out; omega)
      cases e
      rw [Int.toNat_zero] at hx
      have hx : w3.cell? ad = some (.string (rdOf ByteArray.empty l0 0)) := by simpa [Addr.add] using hx
      have hone : strings_Join.text a1.data.toList (l0.take 1) = (rdOf ByteArray.empty l0 0).data.toList ∧ (rdOf ByteArray.empty l0 0).size ≤ 140737488355328 := by
        have h1 := strings_Join.text_len a1 (l0.take 1) (by rw [List.length_take]; have := HN.out; omega)
        match l0, HN.out with
        | x :: r, _ =>
          refine ⟨?_, ?_⟩
          · show x.data.toList ++ [] = _; rw [List.append_nil]; rfl
          · show x.size ≤ _
            have h2 : (strings_Join.text a1.data.toList (x :: r)).length = x.size + (r.flatMap (fun y => a1.data.toList ++ y.data.toList)).length := by
              show (x.data.toList ++ _).length = _
              rw [List.length_append, data_length]
            omega
      have HONE := Lib.hid hone.1
      have hx0s := hone.2
      clear hone
      generalize rdOf ByteArray.empty l0 0 = x at hx HONE hx0s
      go_wp2_with fail
      refine (Bld.write wr.heap.size wr.heap.size [] x _ HB3.out (by simp only [List.length_nil]; omega)).mono ?_
      rintro e w4 ⟨rfl, hb4, hB4, hk4⟩
      rw [List.nil_append, ← HONE.out] at hb4
      have HB4 := Aside0.mk hb4
      have HW4 := Aside0.mk (HW3.out.trans (Below.mono hB4 hwb))
      clear hb4 hB4 hk4 hx HB3 HW3 HONE
      generalize hbb : wr.heap.size = b at *
      go_wp2
      go_loopw [65] (fun v65 wq => ∃ k : Nat, k ≤ n + 1 ∧ v65 = .int .i64 k ∧ Aside0 (Bld.Has wq b b (strings_Join.text a1.data.toList (l0.take (k + 1)))) ∧ Aside0 (Below w.heap.size w wq)) (fun v65 _ => n + 1 - (intOf v65).toNat)
      case atStart => exact ⟨0, Nat.zero_le _, rfl, HB4, HW4⟩
      case round =>
        clear HB4 HW4 HW
        obtain ⟨j, hj, rfl, HB, HW⟩ := hrel
        by_cases hjl : j < n + 1
        · obtain ⟨ad', e, hx⟩ := Kd.at_string (Kd.C_below HR.out HW.out) ((j + 1 : Nat) : Int) (by omega) (by have := HN.out; omega)
          cases e
          rw [Int.toNat_natCast] at hx
          have hn1 := strings_Join.text_next a1.data.toList l0 (j + 1) (by omega) (by have := HN.out; omega)
          generalize rdOf ByteArray.empty l0 ((j + 1 : Nat) : Int) = y at hx hn1
          have e9 := strings_Join.add_one ad j
          have hx2 := hx
          rw [e9] at hx2
          clear e9
          have hxs := data_length y
          have hss := data_length a1
          have htot : (strings_Join.text a1.data.toList (l0.take (j + 1))).length + a1.size + y.size ≤ 140737488355328 := by
            have h1 := congrArg List.length hn1.1
            rw [List.length_append, List.length_append, hxs, hss] at h1
            have := hn1.2
            omega
          have HN1 := Lib.hid hn1.1
          have HSS := Lib.hid hss
          have HTT := Lib.hid htot
          clear hn1 hxs hss htot
          go_wp2_with fail
          refine (Bld.write b b _ a1 _ HB.out (by have := HTT.out; omega)).mono ?_
          rintro e w5 ⟨rfl, hb5, hB5, hk5⟩
          have HB5 := Aside0.mk hb5
          have HW5 := Aside0.mk (HW.out.trans (Below.mono hB5 hwb))
          clear hb5 hB5 hk5
          go_wp2_with fail
          refine (Bld.write b b _ y _ HB5.out (by rw [List.length_append, HSS.out]; exact HTT.out)).mono ?_
          rintro e w6 ⟨rfl, hb6, hB6, hk6⟩
          rw [← HN1.out] at hb6
          have HB6 := Aside0.mk hb6
          have HW6 := Aside0.mk (HW5.out.trans (Below.mono hB6 hwb))
          clear hb6 hB6 hk6 HB5 HW5
          go_wp2
          go_roundw
          case rel => exact ⟨j + 1, by omega, by go_num, HB6, HW6⟩
          case measure => simp [intOf]; omega
        · have hjn : j + 1 = l0.length := by have := HN.out; omega
          rw [hjn, List.take_length] at HB
          clear hjn
          go_wp2_with fail
          refine (Bld.string b b _ _ HB.out).mono ?_
          rintro e w6 ⟨rfl, hB6⟩
          have HW6 := Aside0.mk (HW.out.trans (Below.mono hB6 hwb))
          clear hB6
          go_wp2
          go_ret
          exact ⟨rfl, HW6.out⟩

/-! ### vary_Normal: function 12 -/
def vary_Normal.f (k : Nat) (l0 : List (S38)) (a1 : ByteArray) : Option (ByteArray × Bool) := (head_All.f k l0 a1).bind fun t129 => ((strings_Join.f t129 (⟨#[44, 32]⟩ : ByteArray)).bind fun t132 => ((vary_plain.f t132).bind fun t133 => (some (t133, decide ((t129.length : Int) > 0)))))
theorem vary_Normal.mono : ∀ a0 a1 k, LeO (vary_Normal.f k a0 a1) (vary_Normal.f (k + 1) a0 a1) := by
  intro a0 a1 k
  unfold vary_Normal.f
  repeat' first
      | (with_reducible exact head_All.mono _ _ _)
      | (with_reducible exact LeO.refl _)
      | (with_reducible exact LeO.none _)
      | (with_reducible refine LeO.ite ?_ ?_)
      | (with_reducible refine LeO.bind ?_ (fun _ => ?_))
      | exact head_All.mono _ _ _
      | exact LeO.none _
      | refine LeO.ite ?_ ?_
      | refine LeO.bind ?_ (fun _ => ?_)
set_option maxHeartbeats 8000000 in
set_option maxRecDepth 100000 in
theorem vary_Normal.calls (k : Nat) (A0 : Option Addr) (c0 : Nat) (l0 : List (S38)) (a1 : ByteArray) (r1 : ByteArray) (r2 : Bool) (w : World) (hr0 : Kd.C k38 w A0 l0.length l0) (hc0 : l0.length ≤ c0) (h : vary_Normal.f k l0 a1 = some (r1, r2)) :
    Calls Try.prog 12 #[.slice A0 l0.length c0, .string a1] w fun e w' => e = .returned (.tuple #[.string r1, .bool r2]) ∧ Below w.heap.size w w' := by
  have HR0 := Aside0.mk hr0
  have HC0 := Aside0.mk hc0
  clear hr0 hc0
  have HB := Aside0.mk (Below.refl w.heap.size w)
  have H : ((head_All.f k l0 a1).bind fun t129 => ((strings_Join.f t129 (⟨#[44, 32]⟩ : ByteArray)).bind fun t132 => ((vary_plain.f t132).bind fun t133 => (some (t133, decide ((t129.length : Int) > 0)))))) = some (r1, r2) := h
  clear h
  replace H := Option.bind_eq_some_iff.mp H
  obtain ⟨t129, A30, H⟩ := H
  replace H : ((strings_Join.f t129 (⟨#[44, 32]⟩ : ByteArray)).bind fun t132 => ((vary_plain.f t132).bind fun t133 => (some (t133, decide ((t129.length : Int) > 0))))) = some (r1, r2) := H
  have A3 := Aside0.mk A30
  clear A30
  replace H := Option.bind_eq_some_iff.mp H
  obtain ⟨t132, A40, H⟩ := H
  replace H : ((vary_plain.f t132).bind fun t133 => (some (t133, decide ((t129.length : Int) > 0)))) = some (r1, r2) := H
  have A4 := Aside0.mk A40
  clear A40
  replace H := Option.bind_eq_some_iff.mp H
  obtain ⟨t133, A50, H⟩ := H
  replace H : (some (t133, decide ((t129.length : Int) > 0))) = some (r1, r2) := H
  have A5 := Aside0.mk A50
  clear A50
  simp only [Option.some.injEq, Prod.mk.injEq] at H
  obtain ⟨rfl, rfl⟩ := H
  go_enter Try.func12, Try.ntmps12
  go_wp2_with (first | ((with_reducible refine gate_callee (f := 28) rfl ?_); refine goesL_ (some 9) rfl rfl Try.func28 (by kernel_rfl) rfl #[.slice A0 l0.length c0, .string a1] rfl (by (try simp only [List.map_toArray, List.map_cons, List.map_nil]); first | done | rfl | (simp only [List.length_drop, List.length_take]; rfl)) ?_; (with_reducible refine (head_All.calls k _ _ l0 a1 t129 _ ?side1 ?side2 A3.out).mono ?_); (case side1 => repeat (first | exact HR0.out | (with_reducible refine Kd.C_alloc ?_ _) | (with_reducible refine Kd.C_drewN ?_ _) | (with_reducible refine Kd.C_drew ?_))); (case side2 => exact HC0.out); rintro e w6 ⟨v130, rfl, ho0, hb⟩; refine ⟨_, rfl, ?_⟩; have n0_ := Aside0.mk (Kd.R_lower ho0 (below_size (by repeat (first | (with_reducible first | exact HB.out | apply below_alloc | apply pw_below_drewN | apply below_drew1) | exact HB.out)))); have n1_ := Aside0.mk (below_step (by repeat (first | (with_reducible first | exact HB.out | apply below_alloc | apply pw_below_drewN | apply below_drew1) | exact HB.out)) hb); clear HB; have HO131 := n0_; have HB := n1_; clear n0_ n1_; (try clear hb); (try clear hb2); (try clear hk); (try clear hi); (try clear ho0); obtain ⟨Ao7, co7, eo7⟩ := Kd.R_slice HO131.out; subst eo7) | ((with_reducible refine gate_callee (f := 30) rfl ?_); refine goesL_ (some 11) rfl rfl Try.func30 (by kernel_rfl) rfl #[.slice Ao7 t129.length co7, .string (⟨#[44, 32]⟩ : ByteArray)] rfl (by (try simp only [List.map_toArray, List.map_cons, List.map_nil]); first | done | rfl | (simp only [List.length_drop, List.length_take]; rfl)) ?_; (with_reducible refine (strings_Join.calls _ _ t129 (⟨#[44, 32]⟩ : ByteArray) t132 _ ?side1 ?side2 A4.out).mono ?_); (case side1 => repeat (first | exact (Kd.R_reads' HO131.out).2.2 | (with_reducible refine Kd.C_alloc ?_ _) | (with_reducible refine Kd.C_drewN ?_ _) | (with_reducible refine Kd.C_drew ?_))); (case side2 => exact (Kd.R_reads' HO131.out).2.1); rintro e w8 ⟨rfl, hb⟩; refine ⟨_, rfl, ?_⟩; have n0_ := Aside0.mk (Kd.R_below (by (with_reducible repeat (first | apply Kd.R_alloc | apply Kd.R_drewN | apply Kd.R_drew)); exact HO131.out) hb); have n1_ := Aside0.mk (below_step (by repeat (first | (with_reducible first | exact HB.out | apply below_alloc | apply pw_below_drewN | apply below_drew1) | exact HB.out)) hb); clear HO131; clear HB; have HO131 := n0_; have HB := n1_; clear n0_ n1_; (try clear hb); (try clear hb2); (try clear hk); (try clear hi)) | ((with_reducible refine gate_callee (f := 29) rfl ?_); refine goesL_ (some 12) rfl rfl Try.func29 (by kernel_rfl) rfl #[.string t132] rfl (by (try simp only [List.map_toArray, List.map_cons, List.map_nil]); first | done | rfl | (simp only [List.length_drop, List.length_take]; rfl)) ?_; (with_reducible refine (vary_plain.calls t132 t133 _ A5.out).mono ?_); rintro e w9 ⟨rfl, hb⟩; refine ⟨_, rfl, ?_⟩; have n0_ := Aside0.mk (Kd.R_below (by (with_reducible repeat (first | apply Kd.R_alloc | apply Kd.R_drewN | apply Kd.R_drew)); exact HO131.out) hb); have n1_ := Aside0.mk (below_step (by repeat (first | (with_reducible first | exact HB.out | apply below_alloc | apply pw_below_drewN | apply below_drew1) | exact HB.out)) hb); clear HO131; clear HB; have HO131 := n0_; have HB := n1_; clear n0_ n1_; (try clear hb); (try clear hb2); (try clear hk); (try clear hi)))
  go_ret2
  exact ⟨by first | rfl | (simp [errW_none, errW_some] <;> rfl) | (simp [*, errW_none, errW_some] <;> rfl), by repeat (first | (with_reducible first | exact HB.out | apply below_alloc | apply pw_below_drewN | apply below_drew1) | exact HB.out)⟩

/-! ### ambryhelp_Strings: function 14 -/
def ambryhelp_Strings.l0 : Nat → List ByteArray → List ByteArray → Int → Option (Bool)
  | 0, _, _, _ => none
  | k + 1, x0, x1, x5 => if x5 < (x0.length : Int) then (if 0 ≤ x5 then (if x5 < (x1.length : Int) then (if (rdOf ByteArray.empty x0 x5).toList = (rdOf ByteArray.empty x1 x5).toList then (ambryhelp_Strings.l0 k x0 x1 (wrap64 (x5 + 1))) else (some false)) else (none)) else (none)) else (some true)
def ambryhelp_Strings.f (k : Nat) (l0 : List ByteArray) (l1 : List ByteArray) : Option (Bool) := if (l0.length : Int) = (l1.length : Int) then (ambryhelp_Strings.l0 k l0 l1 0) else (some false)
theorem ambryhelp_Strings.mono_l : ∀ k, (∀ y0 y1 y2, LeO (ambryhelp_Strings.l0 k y0 y1 y2) (ambryhelp_Strings.l0 (k + 1) y0 y1 y2))
  | 0 => fun _ _ _ r h => by simp [ambryhelp_Strings.l0] at h
  | k + 1 => by
    have ih0 := ambryhelp_Strings.mono_l k
    · intro y0 y1 y2
      unfold ambryhelp_Strings.l0
      repeat' first
      | (with_reducible exact ih0 _ _ _)
      | (with_reducible exact LeO.refl _)
      | (with_reducible exact LeO.none _)
      | (with_reducible refine LeO.ite ?_ ?_)
      | (with_reducible refine LeO.bind ?_ (fun _ => ?_))
      | exact ih0 _ _ _
      | exact LeO.none _
      | refine LeO.ite ?_ ?_
      | refine LeO.bind ?_ (fun _ => ?_)
theorem ambryhelp_Strings.mono : ∀ a0 a1 k, LeO (ambryhelp_Strings.f k a0 a1) (ambryhelp_Strings.f (k + 1) a0 a1) := by
  intro a0 a1 k
  have ih0 := ambryhelp_Strings.mono_l k
  unfold ambryhelp_Strings.f
  repeat' first
      | (with_reducible exact ih0 _ _ _)
      | (with_reducible exact LeO.refl _)
      | (with_reducible exact LeO.none _)
      | (with_reducible refine LeO.ite ?_ ?_)
      | (with_reducible refine LeO.bind ?_ (fun _ => ?_))
      | exact ih0 _ _ _
      | exact LeO.none _
      | refine LeO.ite ?_ ?_
      | refine LeO.bind ?_ (fun _ => ?_)
set_option maxHeartbeats 8000000 in
set_option maxRecDepth 100000 in
theorem ambryhelp_Strings.calls (k : Nat) (A0 : Option Addr) (c0 : Nat) (l0 : List ByteArray) (A1 : Option Addr) (c1 : Nat) (l1 : List ByteArray) (r : Bool) (w : World) (hr0 : Kd.C Kd.string w A0 l0.length l0) (hc0 : l0.length ≤ c0) (hr1 : Kd.C Kd.string w A1 l1.length l1) (hc1 : l1.length ≤ c1) (h : ambryhelp_Strings.f k l0 l1 = some r) :
    Calls Try.prog 14 #[.slice A0 l0.length c0, .slice A1 l1.length c1] w fun e w' => e = .returned (.bool r) ∧ Drawn0 w w' := by
  have HR0 := Aside0.mk hr0
  have HC0 := Aside0.mk hc0
  clear hr0 hc0
  have HR1 := Aside0.mk hr1
  have HC1 := Aside0.mk hc1
  clear hr1 hc1
  have H : (if (l0.length : Int) = (l1.length : Int) then (ambryhelp_Strings.l0 k l0 l1 0) else (some false)) = some r := h
  clear h
  by_cases c3 : (l0.length : Int) = (l1.length : Int)
  · rw [if_pos c3] at H
    have c3b0 : ((l0.length : Int) == (l1.length : Int)) = true := beq_iff_eq.mpr c3
    have c3b1 : ((l0.length : Int) != (l1.length : Int)) = false := bne_eq_false_iff_eq.mpr c3
    have c3b2 : (l0.length == l1.length) = true := by first | simpa using c3 | (simp at c3 ⊢; omega)
    clear c3
    have H' := Aside0.mk H
    clear H
    go_enter Try.func14, Try.ntmps14
    go_wp2
    repeat (go_quiet (fail); try go_wp2)
    go_loopg [5] k (fun kq v5 w' => ∃ (x5_1 : Int), v5 = .int .i64 x5_1 ∧ Aside0 (ambryhelp_Strings.l0 kq l0 l1 x5_1 = some r) ∧ Aside0 (kq ≤ k) ∧ Drawn0 w w')
    case atStart => exact ⟨(0), (by first | rfl | (simp; done) | (simp [*]; done)), H', ⟨Nat.le_refl _⟩, by repeat (first | exact Drawn0.refl _ | apply Drawn0.step)⟩
    case round =>
      clear H'
      try clear c1
      try clear p2
      try clear c3
      try clear c3b0
      try clear c3b1
      try clear c3b2
      obtain ⟨x5_1, rfl, HA, HK1, ⟨m1, rfl⟩⟩ := hrel
      cases gk with
      | zero => exact absurd HA.out (by simp [ambryhelp_Strings.l0])
      | succ k1 =>
        have H := HA.out
        clear HA
        simp only [ambryhelp_Strings.l0] at H
        by_cases c4 : x5_1 < (l0.length : Int)
        · rw [if_pos c4] at H
          have c4b0 : decide (x5_1 < (l0.length : Int)) = true := decide_eq_true c4
          clear c4
          by_cases c5 : 0 ≤ x5_1
          · rw [if_pos c5] at H
            have c5b0 : decide (0 ≤ x5_1) = true := decide_eq_true c5
            clear c5
            by_cases c6 : x5_1 < (l1.length : Int)
            · rw [if_pos c6] at H
              have c6b0 : decide (x5_1 < (l1.length : Int)) = true := decide_eq_true c6
              clear c6
              by_cases c7 : (rdOf ByteArray.empty l0 x5_1).toList = (rdOf ByteArray.empty l1 x5_1).toList
              · rw [if_pos c7] at H
                have c7b0 : ((rdOf ByteArray.empty l0 x5_1).toList == (rdOf ByteArray.empty l1 x5_1).toList) = true := beq_iff_eq.mpr c7
                have c7b1 : ((rdOf ByteArray.empty l0 x5_1).toList != (rdOf ByteArray.empty l1 x5_1).toList) = false := bne_eq_false_iff_eq.mpr c7
                clear c7
                have H' := Aside0.mk H
                clear H
                have p134 : 0 ≤ (x5_1 : Int) := of_decide_eq_true (by first | (with_reducible assumption) | assumption)
                have q134 : x5_1 < (l0.length : Int) := of_decide_eq_true (by first | (with_reducible assumption) | assumption)
                obtain ⟨ad134, e134, hx134_0⟩ := Kd.at_string HR0.out x5_1 p134 q134
                cases e134
                replace p134 := eq_true p134
                replace q134 := eq_true q134
                have p135 : 0 ≤ (x5_1 : Int) := of_decide_eq_true (by first | (with_reducible assumption) | assumption)
                have q135 : x5_1 < (l1.length : Int) := of_decide_eq_true (by first | (with_reducible assumption) | assumption)
                obtain ⟨ad135, e135, hx135_0⟩ := Kd.at_string HR1.out x5_1 p135 q135
                cases e135
                replace p135 := eq_true p135
                replace q135 := eq_true q135
                go_wp2
                repeat (go_quiet (fail); try go_wp2)
                go_roundg k1
                case measure => have := HK1.out; omega
                case rel => exact ⟨(wrap64 (x5_1 + 1)), (by first | rfl | (simp; done) | (simp [*]; done)), H', ⟨by have := HK1.out; omega⟩, by repeat (first | exact Drawn0.refl _ | apply Drawn0.step)⟩
              · rw [if_neg c7] at H
                have c7b0 : ((rdOf ByteArray.empty l0 x5_1).toList == (rdOf ByteArray.empty l1 x5_1).toList) = false := beq_eq_false_iff_ne.mpr c7
                have c7b1 : ((rdOf ByteArray.empty l0 x5_1).toList != (rdOf ByteArray.empty l1 x5_1).toList) = true := bne_iff_ne.mpr c7
                obtain rfl := Option.some.inj H
                have p134 : 0 ≤ (x5_1 : Int) := of_decide_eq_true (by first | (with_reducible assumption) | assumption)
                have q134 : x5_1 < (l0.length : Int) := of_decide_eq_true (by first | (with_reducible assumption) | assumption)
                obtain ⟨ad134, e134, hx134_0⟩ := Kd.at_string HR0.out x5_1 p134 q134
                cases e134
                replace p134 := eq_true p134
                replace q134 := eq_true q134
                have p135 : 0 ≤ (x5_1 : Int) := of_decide_eq_true (by first | (with_reducible assumption) | assumption)
                have q135 : x5_1 < (l1.length : Int) := of_decide_eq_true (by first | (with_reducible assumption) | assumption)
                obtain ⟨ad135, e135, hx135_0⟩ := Kd.at_string HR1.out x5_1 p135 q135
                cases e135
                replace p135 := eq_true p135
                replace q135 := eq_true q135
                go_wp2
                repeat (go_quiet (fail); try go_wp2)
                go_ret
                exact ⟨by first | rfl | (simp; done) | (simp [*]; done) | (simp; exact Leaf.ne_nil_bool _) | (simp; rw [IntKind.wrap_u8]; exact congrArg (fun z => bits BinOp.or IntKind.i64 z _ % 256) (by unfold wrap64; exact IntKind.wrap_i64 _)), by repeat (first | exact Drawn0.refl _ | apply Drawn0.step)⟩
            · rw [if_neg c6] at H
              exact absurd H (by simp)
          · rw [if_neg c5] at H
            exact absurd H (by simp)
        · rw [if_neg c4] at H
          have c4b0 : decide (x5_1 < (l0.length : Int)) = false := decide_eq_false c4
          clear c4
          obtain rfl := Option.some.inj H
          go_wp2
          repeat (go_quiet (fail); try go_wp2)
          go_ret
          exact ⟨by first | rfl | (simp; done) | (simp [*]; done) | (simp; exact Leaf.ne_nil_bool _) | (simp; rw [IntKind.wrap_u8]; exact congrArg (fun z => bits BinOp.or IntKind.i64 z _ % 256) (by unfold wrap64; exact IntKind.wrap_i64 _)), by repeat (first | exact Drawn0.refl _ | apply Drawn0.step)⟩
  · rw [if_neg c3] at H
    have c3b0 : ((l0.length : Int) == (l1.length : Int)) = false := beq_eq_false_iff_ne.mpr c3
    have c3b1 : ((l0.length : Int) != (l1.length : Int)) = true := bne_iff_ne.mpr c3
    have c3b2 : (l0.length == l1.length) = false := by first | simpa using c3 | (simp at c3 ⊢; omega)
    obtain rfl := Option.some.inj H
    go_enter Try.func14, Try.ntmps14
    go_wp2
    repeat (go_quiet (fail); try go_wp2)
    go_ret
    exact ⟨by first | rfl | (simp; done) | (simp [*]; done) | (simp; exact Leaf.ne_nil_bool _) | (simp; rw [IntKind.wrap_u8]; exact congrArg (fun z => bits BinOp.or IntKind.i64 z _ % 256) (by unfold wrap64; exact IntKind.wrap_i64 _)), by repeat (first | exact Drawn0.refl _ | apply Drawn0.step)⟩

/-! ### vary_Match: function 16 -/
-- FOR ambry/vary.Match
-- NEEDS ambry/vary.Names; ambry/vary.Normal
-- MAKING
-- ROUNDS
def vary_Match.parts (k : Nat) (l q : List (S38)) (n : ByteArray) : Option Bool := (vary_Normal.f k l n).bind fun a => (vary_Normal.f k q n).bind fun b => some (a.2 != b.2 || a.1.toList != b.1.toList)
def vary_Match.some_ (k : Nat) (l q : List (S38)) : List ByteArray → Option Bool
  | [] => some false
  | n :: r => (vary_Match.parts k l q n).bind fun b => if b = true then some true else vary_Match.some_ k l q r
def vary_Match.f (k : Nat) (a0_0 : Int) (a0_1 : ByteArray) (l0_2 : List (S38)) (l0_3 : List Int) (l1 l2 : List (S38)) : Option Bool :=
  (vary_Names.f k a0_0 a0_1 l0_2 l0_3).bind fun t => if t.2 = true then some false else if t.1.length ≤ 1000000 then (vary_Match.some_ k l1 l2 t.1).bind fun b => some (!b) else none
theorem vary_Match.parts_mono (k : Nat) (l q : List (S38)) (n : ByteArray) : LeO (vary_Match.parts k l q n) (vary_Match.parts (k + 1) l q n) :=
  LeO.bind (vary_Normal.mono _ _ _) fun _ => LeO.bind (vary_Normal.mono _ _ _) fun _ => LeO.refl _
theorem vary_Match.some_mono (k : Nat) (l q : List (S38)) : ∀ ns, LeO (vary_Match.some_ k l q ns) (vary_Match.some_ (k + 1) l q ns)
  | [] => LeO.refl _
  | n :: r => LeO.bind (vary_Match.parts_mono k l q n) fun b => LeO.ite (LeO.refl _) (vary_Match.some_mono k l q r)
theorem vary_Match.mono : ∀ a0 a1 a2 a3 a4 a5 k, LeO (vary_Match.f k a0 a1 a2 a3 a4 a5) (vary_Match.f (k + 1) a0 a1 a2 a3 a4 a5) := by
  intro a0 a1 a2 a3 a4 a5 k
  exact LeO.bind (vary_Names.mono _ _ _ _ _) fun t => LeO.ite (LeO.refl _) (LeO.ite (LeO.bind (vary_Match.some_mono k _ _ _) fun _ => LeO.refl _) (LeO.refl _))
theorem vary_Match.clo (k : Nat) (A1 A2 : Option Addr) (c1 c2 : Nat) (l1 l2 : List (S38)) (n : ByteArray) (p q : Nat) (b : Bool) (W : World) (h1 : Kd.C k38 W A1 l1.length l1) (hc1 : l1.length ≤ c1) (h2 : Kd.C k38 W A2 l2.length l2) (hc2 : l2.length ≤ c2)
    (hp : W.cell? ⟨p, 0, none⟩ = some (.slice A1 l1.length c1)) (hq : W.cell? ⟨q, 0, none⟩ = some (.slice A2 l2.length c2)) (hb : vary_Match.parts k l1 l2 n = some b) :
    Calls Try.prog 35 #[.string n, .pointer (some ⟨p, 0, none⟩), .pointer (some ⟨q, 0, none⟩)] W fun e w' => e = .returned (.bool b) ∧ Below W.heap.size W w' := by
  unfold vary_Match.parts at hb
  obtain ⟨⟨a, s⟩, ha, hb⟩ := Option.bind_eq_some_iff.mp hb
  obtain ⟨⟨d, t⟩, hd, hb⟩ := Option.bind_eq_some_iff.mp hb
  obtain rfl := Option.some.inj hb
  have H1 := Aside0.mk h1
  have H2 := Aside0.mk h2
  have HQ := Aside0.mk hq
  have HA := Lib.hid ha
  have HD := Lib.hid hd
  clear h1 h2 ha hd hb hq
  go_enter Try.func35, Try.ntmps35
  go_wp2_with fail
  refine (vary_Normal.calls k A1 c1 l1 n a s _ H1.out hc1 HA.out).mono ?_
  rintro e w1 ⟨rfl, hB1⟩
  have hq1 := pw_cell_below hB1 HQ.out
  have HB1 := Aside0.mk hB1
  clear hB1 hp
  go_wp2_with fail
  refine (vary_Normal.calls k A2 c2 l2 n d t _ (Kd.C_below H2.out HB1.out) hc2 HD.out).mono ?_
  rintro e w2 ⟨rfl, hB2⟩
  have HB2 := Aside0.mk (HB1.out.trans (Below.mono hB2 HB1.out.size))
  clear hB2 hq1
  go_wp2
  · rename_i he
    go_ret
    exact ⟨by simp [bne, he], HB2.out⟩
  · rename_i hne
    go_ret
    exact ⟨by simp [bne, hne], HB2.out⟩
theorem vary_Match.drop (ns : List ByteArray) (j : Nat) (hj : j < ns.length) : ns.drop j = rdOf ByteArray.empty ns (j : Int) :: ns.drop (j + 1) := by
  unfold rdOf
  rw [Int.toNat_natCast, List.drop_eq_getElem_cons hj, List.getD_eq_getElem?_getD, List.getElem?_eq_getElem hj]; rfl
set_option maxHeartbeats 1000000 in
theorem vary_Match.index (k : Nat) (A A1 A2 : Option Addr) (c c1 c2 : Nat) (ns : List ByteArray) (l1 l2 : List (S38)) (p q : Nat) (b : Bool) (W : World) (h0 : Kd.C Kd.string W A ns.length ns) (hc0 : ns.length ≤ 1000000) (h1 : Kd.C k38 W A1 l1.length l1) (hc1 : l1.length ≤ c1) (h2 : Kd.C k38 W A2 l2.length l2) (hc2 : l2.length ≤ c2)
    (hp : W.cell? ⟨p, 0, none⟩ = some (.slice A1 l1.length c1)) (hq : W.cell? ⟨q, 0, none⟩ = some (.slice A2 l2.length c2)) (hb : vary_Match.some_ k l1 l2 ns = some b) :
    Calls Try.prog 49 #[.slice A ns.length c, .func (.func 35) #[] #[.pointer (some ⟨p, 0, none⟩), .pointer (some ⟨q, 0, none⟩)]] W fun e w' => (∃ i : Int, e = .returned (.int .i64 i) ∧ decide (i ≥ 0) = b) ∧ Below W.heap.size W w' := by
  have H0 := Aside0.mk h0
  have H1 := Aside0.mk h1
  have H2 := Aside0.mk h2
  have HP := Aside0.mk hp
  have HQ := Aside0.mk hq
  have HB := Lib.hid hb
  clear h0 h1 h2 hp hq hb
  go_enter Try.func49, Try.ntmps49
  go_wp2_with fail
  go_loopw [8] (fun v8 wr => ∃ j : Nat, j ≤ ns.length ∧ v8 = .int .i64 j ∧ Aside0 (vary_Match.some_ k l1 l2 (ns.drop j) = some b) ∧ Aside0 (Below W.heap.size W wr)) (fun v8 _ => ns.length - (intOf v8).toNat)
  case atStart => exact ⟨0, Nat.zero_le _, rfl, ⟨HB.out⟩, ⟨Below.refl _ _⟩⟩
  case round =>
    obtain ⟨j, hj, rfl, HS, HW⟩ := hrel
    by_cases hlt : j < ns.length
    · obtain ⟨ad, e0, hx⟩ := Kd.at_string (Kd.C_below H0.out HW.out) (j : Int) (by omega) (by omega)
      cases e0
      rw [Int.toNat_natCast] at hx
      have hs := HS.out
      rw [vary_Match.drop ns j hlt, vary_Match.some_] at hs
      obtain ⟨t, ht, hs⟩ := Option.bind_eq_some_iff.mp hs
      have HT := Lib.hid ht
      have HS2 := Aside0.mk hs
      clear ht hs HS
      generalize rdOf ByteArray.empty ns (j : Int) = x at *
      cases t with
      | true =>
        obtain rfl : true = b := Option.some.inj HS2.out
        go_wp2_with fail
        refine (vary_Match.clo k A1 A2 c1 c2 l1 l2 x p q true _ (Kd.C_below H1.out HW.out) hc1 (Kd.C_below H2.out HW.out) hc2 (pw_cell_below HW.out HP.out) (pw_cell_below HW.out HQ.out) HT.out).mono ?_
        rintro e w2 ⟨rfl, hB2⟩
        have HW2 := Aside0.mk (HW.out.trans (Below.mono hB2 HW.out.size))
        clear hB2 hx
        go_wp2
        go_ret
        exact ⟨⟨_, rfl, by simp⟩, HW2.out⟩
      | false =>
        go_wp2_with fail
        refine (vary_Match.clo k A1 A2 c1 c2 l1 l2 x p q false _ (Kd.C_below H1.out HW.out) hc1 (Kd.C_below H2.out HW.out) hc2 (pw_cell_below HW.out HP.out) (pw_cell_below HW.out HQ.out) HT.out).mono ?_
        rintro e w2 ⟨rfl, hB2⟩
        have HW2 := Aside0.mk (HW.out.trans (Below.mono hB2 HW.out.size))
        clear hB2 hx
        go_wp2
        go_roundw
        case rel => exact ⟨j + 1, by omega, by go_num, HS2, HW2⟩
        case measure => simp [intOf]; omega
    · have hs := HS.out
      rw [List.drop_eq_nil_of_le (by omega), vary_Match.some_] at hs
      obtain rfl : false = b := Option.some.inj hs
      clear hs HS
      go_wp2
      go_ret
      exact ⟨⟨-1, rfl, by decide⟩, HW.out⟩
theorem vary_Match.contains (k : Nat) (A A1 A2 : Option Addr) (c c1 c2 : Nat) (ns : List ByteArray) (l1 l2 : List (S38)) (p q : Nat) (b : Bool) (W : World) (h0 : Kd.C Kd.string W A ns.length ns) (hc0 : ns.length ≤ 1000000) (h1 : Kd.C k38 W A1 l1.length l1) (hc1 : l1.length ≤ c1) (h2 : Kd.C k38 W A2 l2.length l2) (hc2 : l2.length ≤ c2)
    (hp : W.cell? ⟨p, 0, none⟩ = some (.slice A1 l1.length c1)) (hq : W.cell? ⟨q, 0, none⟩ = some (.slice A2 l2.length c2)) (hb : vary_Match.some_ k l1 l2 ns = some b) :
    Calls Try.prog 34 #[.slice A ns.length c, .func (.func 35) #[] #[.pointer (some ⟨p, 0, none⟩), .pointer (some ⟨q, 0, none⟩)]] W fun e w' => e = .returned (.bool b) ∧ Below W.heap.size W w' := by
  have HI := Lib.hid (vary_Match.index k A A1 A2 c c1 c2 ns l1 l2 p q b W h0 hc0 h1 hc1 h2 hc2 hp hq hb)
  clear h0 h1 h2 hp hq hb
  go_enter Try.func34, Try.ntmps34
  go_wp2_with fail
  refine HI.out.mono ?_
  rintro e w1 ⟨⟨i, rfl, rfl⟩, hB⟩
  have HB := Aside0.mk hB
  clear hB
  go_wp2
  go_ret
  exact ⟨by simp, HB.out⟩
set_option maxHeartbeats 1000000 in
theorem vary_Match.calls (k : Nat) (a0_0 : Int) (a0_1 : ByteArray) (A0_2 : Option Addr) (c0_2 : Nat) (l0_2 : List (S38)) (A0_3 : Option Addr) (c0_3 : Nat) (l0_3 : List Int) (A1 : Option Addr) (c1 : Nat) (l1 : List (S38)) (A2 : Option Addr) (c2 : Nat) (l2 : List (S38)) (r : Bool) (w : World) (hr0_2 : Kd.C k38 w A0_2 l0_2.length l0_2) (hc0_2 : l0_2.length ≤ c0_2) (hr0_3 : Kd.C (Kd.int .u8) w A0_3 l0_3.length l0_3) (hc0_3 : l0_3.length ≤ c0_3) (hr1 : Kd.C k38 w A1 l1.length l1) (hc1 : l1.length ≤ c1) (hr2 : Kd.C k38 w A2 l2.length l2) (hc2 : l2.length ≤ c2) (h : vary_Match.f k a0_0 a0_1 l0_2 l0_3 l1 l2 = some r) :
    Calls Try.prog 16 #[.agg #[.int .i64 a0_0, .string a0_1, .slice A0_2 l0_2.length c0_2, .slice A0_3 l0_3.length c0_3], .slice A1 l1.length c1, .slice A2 l2.length c2] w fun e w' => e = .returned (.bool r) ∧ Below w.heap.size w w' := by
  have hmf : ∀ (fn : Fn) (first cap : Array Value) (W : World), (Instr.makeFunc fn first cap).run Try.prog W = .ok (.func fn first cap) W := fun _ _ _ _ => rfl
  unfold vary_Match.f at h
  obtain ⟨⟨ns, star⟩, hn, h⟩ := Option.bind_eq_some_iff.mp h
  have HN := Lib.hid hn
  have H := Lib.hid h
  have HR := Aside0.mk hr0_2
  have HR3 := Aside0.mk hr0_3
  have H1 := Aside0.mk hr1
  have H2 := Aside0.mk hr2
  clear hn h hr0_2 hr0_3 hr1 hr2
  go_enter Try.func16, Try.ntmps16
  go_wp2_with fail
  refine (vary_Names.calls k a0_0 a0_1 A0_2 c0_2 l0_2 A0_3 c0_3 l0_3 ns star _ (Kd.C_below HR.out (below_alloc (below_alloc (below_alloc (Below.refl _ _) _) _) _)) hc0_2 (Kd.C_below HR3.out (below_alloc (below_alloc (below_alloc (Below.refl _ _) _) _) _)) hc0_3 HN.out).mono ?_
  rintro e w1 ⟨v0, rfl, hR1, hB1⟩
  have hp : w1.cell? ⟨w.heap.size + 1, 0, none⟩ = some (.slice A1 l1.length c1) := by
    refine pw_cell_below hB1 ?_
    rw [World.cell?_alloc_lt _ _ _ (by simp)]
    simp
  have hq : w1.cell? ⟨w.heap.size + 1 + 1, 0, none⟩ = some (.slice A2 l2.length c2) := by
    refine pw_cell_below hB1 ?_
    have := blk_cell (heap_alloc_new ((w.alloc (Obj.cells #[Value.int IntKind.i64 a0_0, Value.string a0_1, Value.slice A0_2 l0_2.length c0_2, Value.slice A0_3 l0_3.length c0_3] 25)).alloc (.cells #[Value.slice A1 l1.length c1] 22)) (.cells #[Value.slice A2 l2.length c2] 22)) 0
    simpa using this
  have HB1 := Aside0.mk (below_then (below_alloc (below_alloc (below_alloc (Below.refl w.heap.size w) _) _) _) (by simp; omega) hB1 : Below w.heap.size w w1)
  obtain ⟨A, c, rfl, hcl, hC1⟩ := Kd.R_reads hR1
  have HC1 := Aside0.mk hC1
  have HP := Aside0.mk hp
  have HQ := Aside0.mk hq
  clear hR1 hB1 hC1 hp hq
  cases star with
  | true =>
    obtain rfl : false = r := Option.some.inj (by have := H.out; rwa [if_pos rfl] at this)
    go_wp2
    go_ret
    exact ⟨rfl, HB1.out⟩
  | false =>
    have hh := H.out
    rw [if_neg (by decide)] at hh
    split at hh
    case isFalse => cases hh
    rename_i hlen
    obtain ⟨b, hb, hh⟩ := Option.bind_eq_some_iff.mp hh
    obtain rfl := Option.some.inj hh
    have HS := Lib.hid hb
    clear hh H hb
    go_wp2_with fail
    refine (vary_Match.contains k A A1 A2 c c1 c2 ns l1 l2 _ _ b w1 HC1.out hlen (Kd.C_below H1.out HB1.out) hc1 (Kd.C_below H2.out HB1.out) hc2 HP.out HQ.out HS.out).mono ?_
    rintro e w2 ⟨rfl, hB2⟩
    have HB2 := Aside0.mk (HB1.out.trans (Below.mono hB2 HB1.out.size))
    clear hB2
    go_wp2
    go_ret
    exact ⟨by simp, HB2.out⟩

/-! ### ambrylaw15_known: function 7 -/
-- FOR ambry/ambrylaw15.known
-- NEEDS ambry/vary.Names; ambry/vary.Normal; ambry/ambryhelp.Strings; ambry/vary.Match
-- MAKING
-- ROUNDS
def ambrylaw15_known.fs : List (S38) := [⟨⟨#[86, 97, 114, 121]⟩, ⟨#[76, 97, 110, 103, 44, 32, 65, 99, 99, 101, 112, 116, 44, 32, 108, 97, 110, 103]⟩⟩]
def ambrylaw15_known.nm : List (S38) := [⟨⟨#[65]⟩, ⟨#[120, 32, 9, 32, 121]⟩⟩, ⟨⟨#[97]⟩, ⟨#[122]⟩⟩]
def ambrylaw15_known.qs : List (S38) := [⟨⟨#[97, 99, 99, 101, 112, 116]⟩, ⟨#[113]⟩⟩]
def ambrylaw15_known.two : List ByteArray := [⟨#[97, 99, 99, 101, 112, 116]⟩, ⟨#[108, 97, 110, 103]⟩]
def ambrylaw15_known.ok (k : Nat) : Prop := vary_Names.f k 0 ⟨#[]⟩ ambrylaw15_known.fs [] = some (ambrylaw15_known.two, false) ∧ vary_Normal.f k ambrylaw15_known.nm ⟨#[65]⟩ = some (⟨#[120, 32, 121, 44, 32, 122]⟩, true) ∧ ambryhelp_Strings.f k ambrylaw15_known.two ambrylaw15_known.two = some true ∧ vary_Match.f k 0 ⟨#[]⟩ ambrylaw15_known.fs [] [] [] = some true ∧ vary_Match.f k 0 ⟨#[]⟩ ambrylaw15_known.fs [] [] ambrylaw15_known.qs = some false
instance (k : Nat) : Decidable (ambrylaw15_known.ok k) := by unfold ambrylaw15_known.ok; infer_instance
def ambrylaw15_known.f (k : Nat) : Option Bool := if ambrylaw15_known.ok k then some true else none
theorem ambrylaw15_known.mono : ∀ k, LeO (ambrylaw15_known.f k) (ambrylaw15_known.f (k + 1)) := by
  intro k r h
  unfold ambrylaw15_known.f at h ⊢
  split at h
  case isFalse => cases h
  rename_i hk
  obtain ⟨h1, h2, h3, h4, h5⟩ := hk
  rw [if_pos]
  · exact h
  · exact ⟨vary_Names.mono _ _ _ _ _ _ h1, vary_Normal.mono _ _ _ _ h2, ambryhelp_Strings.mono _ _ _ _ h3, vary_Match.mono _ _ _ _ _ _ _ _ h4, vary_Match.mono _ _ _ _ _ _ _ _ h5⟩
theorem ambrylaw15_known.row (W : World) (g : Nat) (C : Array Value) (t : Nat) (fr : Nat × Nat) (xs : List (S38)) (hb : W.heap[g]? = some (.cells C t fr)) (hC : C.toList = xs.flatMap fun x => [.string x.f0, .string x.f1]) (hm : xs.length ≤ 9223372036854775807) : Kd.C k38 W (some ⟨g, 0, none⟩) xs.length xs :=
  Leaf.C_block k38 (fun x => [.string x.f0, .string x.f1]) (fun _ => rfl) W g C t fr xs (fun x _ => k38_mk W x) hb hC hm
set_option maxHeartbeats 2000000 in
theorem ambrylaw15_known.calls (k : Nat) (r : Bool) (w : World) (h : ambrylaw15_known.f k = some r) :
    Calls Try.prog 7 #[] w fun e w' => e = .returned (.bool r) ∧ Below w.heap.size w w' := by
  unfold ambrylaw15_known.f at h
  split at h
  case isFalse => cases h
  rename_i hk
  obtain rfl := Option.some.inj h
  obtain ⟨h1, h2, h3, h4, h5⟩ := hk
  have H1 := Lib.hid h1
  have H2 := Lib.hid h2
  have H3 := Lib.hid h3
  have H4 := Lib.hid h4
  have H5 := Lib.hid h5
  clear h h1 h2 h3 h4 h5
  go_enter Try.func7, Try.ntmps7
  go_wp2_with fail
  have hW : ∃ W0 : World, W0 = (w.alloc (Obj.cells #[Value.string ⟨#[86, 97, 114, 121]⟩, Value.string ⟨#[76, 97, 110, 103, 44, 32, 65, 99, 99, 101, 112, 116, 44, 32, 108, 97, 110, 103]⟩] 38)).alloc (Obj.cells #[Value.int IntKind.i64 0, Value.string ⟨#[]⟩, Value.slice (some ⟨w.heap.size, 0, none⟩) 1 1, Value.slice none 0 0] 25) := ⟨_, rfl⟩
  obtain ⟨W0, hW⟩ := hW
  have hB0 : Below w.heap.size w W0 := by rw [hW]; exact below_alloc (below_alloc (Below.refl _ _) _) _
  have hb0 : W0.heap[w.heap.size]? = some (.cells #[Value.string ⟨#[86, 97, 114, 121]⟩, Value.string ⟨#[76, 97, 110, 103, 44, 32, 65, 99, 99, 101, 112, 116, 44, 32, 108, 97, 110, 103]⟩] 38 (0, 0)) := by rw [hW]; exact blk_alloc (blk_new _ _) _
  have hb1 : W0.heap[w.heap.size + 1]? = some (.cells #[Value.int IntKind.i64 0, Value.string ⟨#[]⟩, Value.slice (some ⟨w.heap.size, 0, none⟩) 1 1, Value.slice none 0 0] 25 (0, 0)) := by rw [hW]; simpa using blk_new (w.alloc (Obj.cells #[Value.string ⟨#[86, 97, 114, 121]⟩, Value.string ⟨#[76, 97, 110, 103, 44, 32, 65, 99, 99, 101, 112, 116, 44, 32, 108, 97, 110, 103]⟩] 38)) _
  have HF := Aside0.mk (ambrylaw15_known.row W0 _ _ _ _ ambrylaw15_known.fs hb0 rfl (by decide))
  rw [← hW]
  have HB0 := Aside0.mk hB0
  have HX := Aside0.mk hb1
  clear hW hB0 hb0 hb1
  refine (vary_Names.calls k 0 ⟨#[]⟩ (some ⟨w.heap.size, 0, none⟩) 1 ambrylaw15_known.fs none 0 [] ambrylaw15_known.two false _ HF.out (by decide) (Kd.C_nil _ _) (by decide) H1.out).mono ?_
  rintro e w1 ⟨v1, rfl, hR1, hB1⟩
  have HB1 := Aside0.mk (HB0.out.trans (Below.mono hB1 HB0.out.size))
  have HF1 := Aside0.mk (Kd.C_below HF.out hB1)
  have HX1 := Aside0.mk (blk_below HX.out hB1)
  have HR1 := Aside0.mk hR1
  clear hR1 hB1 HB0 HF HX
  go_wp2_with fail
  have hW : ∃ W2 : World, W2 = w1.alloc (Obj.cells #[Value.string ⟨#[65]⟩, Value.string ⟨#[120, 32, 9, 32, 121]⟩, Value.string ⟨#[97]⟩, Value.string ⟨#[122]⟩] 38) := ⟨_, rfl⟩
  obtain ⟨W2, hW⟩ := hW
  have hB2 : Below w1.heap.size w1 W2 := by rw [hW]; exact below_alloc (Below.refl _ _) _
  have hb2 : W2.heap[w1.heap.size]? = some (.cells #[Value.string ⟨#[65]⟩, Value.string ⟨#[120, 32, 9, 32, 121]⟩, Value.string ⟨#[97]⟩, Value.string ⟨#[122]⟩] 38 (0, 0)) := by rw [hW]; exact blk_new _ _
  have HN := Aside0.mk (ambrylaw15_known.row W2 _ _ _ _ ambrylaw15_known.nm hb2 rfl (by decide))
  rw [← hW]
  have HB2 := Aside0.mk (HB1.out.trans (Below.mono hB2 HB1.out.size))
  have HF2 := Aside0.mk (Kd.C_below HF1.out hB2)
  have HX2 := Aside0.mk (blk_below HX1.out hB2)
  have HR2 := Aside0.mk (Kd.R_below HR1.out hB2)
  clear hW hB2 hb2 HB1 HF1 HX1 HR1
  refine (vary_Normal.calls k (some ⟨w1.heap.size, 0, none⟩) 2 ambrylaw15_known.nm ⟨#[65]⟩ ⟨#[120, 32, 121, 44, 32, 122]⟩ true _ HN.out (by decide) H2.out).mono ?_
  rintro e w3 ⟨rfl, hB3⟩
  have HB3 := Aside0.mk (HB2.out.trans (Below.mono hB3 HB2.out.size))
  have HF3 := Aside0.mk (Kd.C_below HF2.out hB3)
  have HX3 := Aside0.mk (blk_below HX2.out hB3)
  have HR3 := Aside0.mk (Kd.R_below HR2.out hB3)
  clear hB3 HB2 HF2 HX2 HR2 HN
  obtain ⟨A, c, rfl, hcl, hC1⟩ := Kd.R_reads HR3.out
  have HC := Aside0.mk hC1
  clear hC1 HR3
  go_wp2_with fail
  have hW : ∃ W4 : World, W4 = w3.alloc (Obj.cells #[Value.string ⟨#[97, 99, 99, 101, 112, 116]⟩, Value.string ⟨#[108, 97, 110, 103]⟩] 9) := ⟨_, rfl⟩
  obtain ⟨W4, hW⟩ := hW
  have hB4 : Below w3.heap.size w3 W4 := by rw [hW]; exact below_alloc (Below.refl _ _) _
  have hb4 : W4.heap[w3.heap.size]? = some (.cells #[Value.string ⟨#[97, 99, 99, 101, 112, 116]⟩, Value.string ⟨#[108, 97, 110, 103]⟩] 9 (0, 0)) := by rw [hW]; exact blk_new _ _
  have HN := Aside0.mk (Leaf.C_block Kd.string (fun x => [.string x]) (fun _ => rfl) W4 _ _ _ _ ambrylaw15_known.two (fun _ _ => rfl) hb4 rfl (by decide))
  rw [← hW]
  have HB4 := Aside0.mk (HB3.out.trans (Below.mono hB4 HB3.out.size))
  have HF4 := Aside0.mk (Kd.C_below HF3.out hB4)
  have HX4 := Aside0.mk (blk_below HX3.out hB4)
  have HC4 := Aside0.mk (Kd.C_below HC.out hB4)
  clear hW hB4 hb4 HB3 HF3 HX3 HC
  refine (ambryhelp_Strings.calls k A c ambrylaw15_known.two (some ⟨w3.heap.size, 0, none⟩) 2 ambrylaw15_known.two true _ HC4.out hcl HN.out (by decide) H3.out).mono ?_
  rintro e w5 ⟨rfl, hB5⟩
  have HB5 := Aside0.mk (Leaf.d_below HB4.out hB5)
  have HF5 := Aside0.mk (Kd.C_below HF4.out hB5.below)
  have HX5 := Aside0.mk (blk_below HX4.out hB5.below)
  clear hB5 HB4 HF4 HX4 HC4 HN
  have c0 := blk_cell HX5.out 0
  have c1 := blk_cell HX5.out 1
  have c2 := blk_cell HX5.out 2
  have c3 := blk_cell HX5.out 3
  go_wp2_with fail
  clear c0 c1 c2 c3
  refine (vary_Match.calls k 0 ⟨#[]⟩ (some ⟨w.heap.size, 0, none⟩) 1 ambrylaw15_known.fs none 0 [] none 0 [] none 0 [] true _ HF5.out (by decide) (Kd.C_nil _ _) (by decide) (Kd.C_nil _ _) (by decide) (Kd.C_nil _ _) (by decide) H4.out).mono ?_
  rintro e w6 ⟨rfl, hB6⟩
  have HB6 := Aside0.mk (HB5.out.trans (Below.mono hB6 HB5.out.size))
  have HF6 := Aside0.mk (Kd.C_below HF5.out hB6)
  have HX6 := Aside0.mk (blk_below HX5.out hB6)
  clear hB6 HB5 HF5 HX5
  have c0 := blk_cell HX6.out 0
  have c1 := blk_cell HX6.out 1
  have c2 := blk_cell HX6.out 2
  have c3 := blk_cell HX6.out 3
  go_wp2_with fail
  clear c0 c1 c2 c3
  have hW : ∃ W7 : World, W7 = w6.alloc (Obj.cells #[Value.string ⟨#[97, 99, 99, 101, 112, 116]⟩, Value.string ⟨#[113]⟩] 38) := ⟨_, rfl⟩
  obtain ⟨W7, hW⟩ := hW
  have hB7 : Below w6.heap.size w6 W7 := by rw [hW]; exact below_alloc (Below.refl _ _) _
  have hb7 : W7.heap[w6.heap.size]? = some (.cells #[Value.string ⟨#[97, 99, 99, 101, 112, 116]⟩, Value.string ⟨#[113]⟩] 38 (0, 0)) := by rw [hW]; exact blk_new _ _
  have HN := Aside0.mk (ambrylaw15_known.row W7 _ _ _ _ ambrylaw15_known.qs hb7 rfl (by decide))
  rw [← hW]
  have HB7 := Aside0.mk (HB6.out.trans (Below.mono hB7 HB6.out.size))
  have HF7 := Aside0.mk (Kd.C_below HF6.out hB7)
  clear hW hB7 hb7 HB6 HF6 HX6
  refine (vary_Match.calls k 0 ⟨#[]⟩ (some ⟨w.heap.size, 0, none⟩) 1 ambrylaw15_known.fs none 0 [] none 0 [] (some ⟨w6.heap.size, 0, none⟩) 1 ambrylaw15_known.qs false _ HF7.out (by decide) (Kd.C_nil _ _) (by decide) (Kd.C_nil _ _) (by decide) HN.out (by decide) H5.out).mono ?_
  rintro e w8 ⟨rfl, hB8⟩
  have HB8 := Aside0.mk (HB7.out.trans (Below.mono hB8 HB7.out.size))
  clear hB8 HB7 HF7 HN
  go_wp2
  go_ret
  exact ⟨rfl, HB8.out⟩

end Go.Proofs.Ytefijfanjekchaa.G
