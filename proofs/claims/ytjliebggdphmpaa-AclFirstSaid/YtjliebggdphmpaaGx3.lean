-- PRINTED by print.py (a twelfth state) out of the translation. Not trusted: Lean checks it.
import Derived.Test.YtjliebggdphmpaaGx0
import Derived.Test.YtjliebggdphmpaaGx1
namespace Go.Proofs.Ytjliebggdphmpaa.G
open Go.RowKit Go.Proofs.YtjliebggdphmpaaW.PrintWords Go.Proofs.YtjliebggdphmpaaW.PrintLast Go.Proofs.YtjliebggdphmpaaW.PrintMore
attribute [local go_sem] max2_int min2_int max_two min_two max_three min_three max_four min_four   -- for this text's walks alone
set_option linter.unusedVariables false
set_option linter.unusedSimpArgs false

/-! ### strings_Join: function 22 -/
-- FOR strings.Join
-- MAKING
def strings_Join.text (sep : List UInt8) : List ByteArray → List UInt8
  | [] => []
  | x :: r => x.data.toList ++ r.flatMap (fun y => sep ++ y.data.toList)
def strings_Join.f (l0 : List ByteArray) (a1 : ByteArray) : Option (ByteArray) := if l0.length ≤ 1000000 ∧ a1.size ≤ 1000 ∧ 1 ≤ a1.size ∧ (strings_Join.text a1.data.toList l0).length ≤ 140737488355328 then some ⟨(strings_Join.text a1.data.toList l0).toArray⟩ else none
def strings_Join.sum (l : List ByteArray) : Nat := (l.map ByteArray.size).foldr (· + ·) 0
theorem strings_Join.sum_append (a b : List ByteArray) : strings_Join.sum (a ++ b) = strings_Join.sum a + strings_Join.sum b := by
  induction a with
  | nil => show _ = 0 + _; rw [Nat.zero_add]; rfl
  | cons x a ih => show x.size + strings_Join.sum (a ++ b) = x.size + strings_Join.sum a + _; rw [ih, Nat.add_assoc]
theorem strings_Join.sum_next (l : List ByteArray) (k : Nat) (hk : k < l.length) : strings_Join.sum (l.take (k + 1)) = strings_Join.sum (l.take k) + (rdOf ByteArray.empty l (k : Int)).size ∧ strings_Join.sum (l.take (k + 1)) ≤ strings_Join.sum l := by
  have e : l.take (k + 1) = l.take k ++ [rdOf ByteArray.empty l (k : Int)] := by
    unfold rdOf
    rw [Int.toNat_natCast, List.take_succ_eq_append_getElem hk, List.getD_eq_getElem?_getD, List.getElem?_eq_getElem hk]; rfl
  refine ⟨by rw [e, strings_Join.sum_append]; rfl, ?_⟩
  conv => rhs; rw [← List.take_append_drop (k + 1) l, strings_Join.sum_append]
  exact Nat.le_add_right _ _
theorem strings_Join.text_len (sep : ByteArray) : ∀ l : List ByteArray, 1 ≤ l.length → (strings_Join.text sep.data.toList l).length = strings_Join.sum l + sep.size * (l.length - 1) := by
  have hd : ∀ b : ByteArray, b.data.toList.length = b.size := fun b => data_length b
  have key : ∀ r : List ByteArray, (r.flatMap (fun y => sep.data.toList ++ y.data.toList)).length = strings_Join.sum r + sep.size * r.length := by
    intro r
    induction r with
    | nil => rfl
    | cons y r ih =>
      rw [List.flatMap_cons, List.length_append, ih, List.length_append, hd, hd, List.length_cons, Nat.mul_succ]
      show _ = y.size + strings_Join.sum r + _
      omega
  intro l hl
  cases l with
  | nil => simp at hl
  | cons x r =>
    show (x.data.toList ++ _).length = x.size + strings_Join.sum r + _
    rw [List.length_append, key, hd, List.length_cons, Nat.add_sub_cancel]; omega
theorem strings_Join.add_one (ad : Addr) (j : Nat) : ad.add (j + 1) = ⟨ad.block, ad.off + 1 + j, none⟩ := by
  unfold Addr.add
  rw [if_neg (by omega)]
  congr 1
  omega
theorem strings_Join.text_next (sep : List UInt8) (l : List ByteArray) (k : Nat) (h1 : 1 ≤ k) (hk : k < l.length) : strings_Join.text sep (l.take (k + 1)) = strings_Join.text sep (l.take k) ++ sep ++ (rdOf ByteArray.empty l (k : Int)).data.toList ∧ (strings_Join.text sep (l.take (k + 1))).length ≤ (strings_Join.text sep l).length := by
  have e : l.take (k + 1) = l.take k ++ [rdOf ByteArray.empty l (k : Int)] := by
    unfold rdOf
    rw [Int.toNat_natCast, List.take_succ_eq_append_getElem hk, List.getD_eq_getElem?_getD, List.getElem?_eq_getElem hk]; rfl
  have app : ∀ a b : List ByteArray, a ≠ [] → strings_Join.text sep (a ++ b) = strings_Join.text sep a ++ b.flatMap (fun y => sep ++ y.data.toList) := by
    intro a b ha
    cases a with
    | nil => exact absurd rfl ha
    | cons x r =>
      show x.data.toList ++ (r ++ b).flatMap _ = _
      rw [List.flatMap_append, ← List.append_assoc]; rfl
  have hne : l.take k ≠ [] := fun h => by
    have := congrArg List.length h
    rw [List.length_take] at this
    simp only [List.length_nil] at this
    omega
  have hne2 : l.take (k + 1) ≠ [] := fun h => by
    have := congrArg List.length h
    rw [List.length_take] at this
    simp only [List.length_nil] at this
    omega
  refine ⟨by rw [e, app _ _ hne]; simp, ?_⟩
  conv => rhs; rw [← List.take_append_drop (k + 1) l, app _ _ hne2]
  rw [List.length_append]; exact Nat.le_add_right _ _
set_option maxHeartbeats 1000000 in
theorem strings_Join.calls (A0 : Option Addr) (c0 : Nat) (l0 : List ByteArray) (a1 : ByteArray) (r : ByteArray) (w : World) (hr0 : Kd.C Kd.string w A0 l0.length l0) (hc0 : l0.length ≤ c0) (h : strings_Join.f l0 a1 = some r) :
    Calls Try.prog 22 #[.slice A0 l0.length c0, .string a1] w fun e w' => e = .returned (.string r) ∧ Below w.heap.size w w' := by
  unfold strings_Join.f at h
  split at h
  case isFalse => cases h
  rename_i hs
  obtain rfl := Option.some.inj h
  clear h
  obtain ⟨hs1, hs2, hs3, hs4⟩ := hs
  have HR := Aside0.mk hr0
  clear hr0
  by_cases h0 : l0.length = 0
  · have hl : l0 = [] := List.eq_nil_of_length_eq_zero h0
    subst hl
    clear HR
    go_enter Try.func22, Try.ntmps22
    go_wp2
    go_ret
    exact ⟨rfl, Below.refl _ _⟩
  by_cases h1 : l0.length = 1
  · obtain ⟨ad, e0, hx⟩ := Kd.at_string HR.out 0 (by omega) (by omega)
    cases e0
    have e2 : strings_Join.text a1.data.toList l0 = (rdOf ByteArray.empty l0 0).data.toList := by
      match l0, h1 with
      | [x], _ => show x.data.toList ++ [] = _; rw [List.append_nil]; rfl
    have E2 := Lib.hid e2
    rw [h1] at hc0 ⊢
    clear e2 HR h0 hs4
    rw [Int.toNat_zero] at hx
    have hx2 : w.cell? ad = some (.string (rdOf ByteArray.empty l0 0)) := by simpa [Addr.add] using hx
    go_enter Try.func22, Try.ntmps22
    go_wp2
    go_ret
    exact ⟨by rw [E2.out]; rfl, Below.refl _ _⟩
  obtain ⟨ad, e0, hx0⟩ := Kd.at_string HR.out 0 (by omega) (by omega)
  cases e0
  rw [Int.toNat_zero] at hx0
  have hx0 : w.cell? ad = some (.string (rdOf ByteArray.empty l0 0)) := by simpa [Addr.add] using hx0
  obtain ⟨n, hn⟩ : ∃ n, l0.length = n + 2 := ⟨l0.length - 2, by omega⟩
  have hT := strings_Join.text_len a1 l0 (by omega)
  rw [hn] at hT
  have hsub : n + 2 - 1 = n + 1 := by omega
  rw [hsub] at hT
  have hM : a1.size * (n + 1) ≤ 1000 * 1000000 := Nat.mul_le_mul hs2 (by omega)
  have hmul : (a1.size : Int) * ((n : Int) + 1) = ((a1.size * (n + 1) : Nat) : Int) := by rw [Int.natCast_mul]; rfl
  generalize a1.size * (n + 1) = M at hT hM hmul
  have hq : ¬ (9223372036854775807 / ((n : Int) + 2 - 1) ≤ (a1.size : Int)) := by
    have h9 : (2000 : Int) ≤ 9223372036854775807 / ((n : Int) + 2 - 1) := Int.le_ediv_of_mul_le (by omega) (by omega)
    omega
  have HMUL := Lib.hid hmul
  clear h0 h1 hsub hmul
  rw [hn]
  go_enter Try.func22, Try.ntmps22
  go_wp2
  clear hq
  have hwr : wrap64 (wrap64 ((a1.size : Int) * ((n : Int) + 2 - 1))) = (M : Int) := by
    have h9 : (n : Int) + 2 - 1 = (n : Int) + 1 := by omega
    rw [h9, HMUL.out]
    unfold wrap64; omega
  rw [hwr]
  clear hwr HMUL hx0
  have HT := Lib.hid hT
  have HN := Lib.hid hn
  have hnb : n ≤ 1000000 := by omega
  clear hT hn
  go_loopw [5, 41] (fun v5 v41 wr => ∃ k N : Nat, k ≤ n + 2 ∧ v41 = .int .i64 k ∧ v5 = .int .i64 N ∧ Aside0 (N = M + strings_Join.sum (l0.take k)) ∧ Aside0 (Below w.heap.size w wr)) (fun _ v41 _ => n + 2 - (intOf v41).toNat)
  case atStart => exact ⟨0, M, Nat.zero_le _, rfl, rfl, ⟨rfl⟩, ⟨Below.refl _ _⟩⟩
  case round =>
    obtain ⟨k, N, hk, rfl, rfl, HS, HW⟩ := hrel
    by_cases hlt : k < n + 2
    · obtain ⟨ad', e, hx⟩ := Kd.at_string (Kd.C_below HR.out HW.out) (k : Int) (by omega) (by have := HN.out; omega)
      cases e
      rw [Int.toNat_natCast] at hx
      have hn1 := strings_Join.sum_next l0 k (by have := HN.out; omega)
      generalize rdOf ByteArray.empty l0 (k : Int) = x at hx hn1
      have hNx : N + x.size ≤ 140737488355328 := by have := HS.out; have := HT.out; omega
      have HN1 := Lib.hid hn1.1
      clear hn1
      go_wp2
      go_roundw
      case rel => exact ⟨k + 1, N + x.size, by omega, by go_num, by go_num, ⟨by rw [HN1.out, HS.out, Nat.add_assoc]⟩, HW⟩
      case measure => simp [intOf]; omega
    · have hkn : k = n + 2 := by omega
      have hN : N ≤ 140737488355328 := by
        have h1 := HS.out
        rw [hkn, ← HN.out, List.take_length] at h1
        have := HT.out
        omega
      clear hkn
      have hwb : w.heap.size ≤ wr.heap.size := HW.out.size
      have hci : (c0 = 1) = False := eq_false (by have := HN.out; omega)
      have hc2 : n + 2 ≤ c0 := by have := HN.out; omega
      clear HS
      go_wp2_with fail
      refine (Try.Builder_Grow_fresh wr.heap.size wr.heap.size N _ (Nat.le_refl _) (heap_alloc_new wr _) (by simp) (by omega)).mono ?_
      rintro e w3 ⟨rfl, hb3, hB3⟩
      have HB3 := Aside0.mk (show Bld.Has w3 wr.heap.size wr.heap.size [] from .inr hb3)
      have HW3 := Aside0.mk ((below_alloc HW.out (.cells #[.pointer none, .slice none 0 0] 64)).trans (Below.mono hB3 hwb))
      clear hb3 hB3
      obtain ⟨ad', e, hx⟩ := Kd.at_string (Kd.C_below HR.out HW3.out) 0 (by omega) (by have := HN.out; omega)
      cases e
      rw [Int.toNat_zero] at hx
      have hx : w3.cell? ad = some (.string (rdOf ByteArray.empty l0 0)) := by simpa [Addr.add] using hx
      have hone : strings_Join.text a1.data.toList (l0.take 1) = (rdOf ByteArray.empty l0 0).data.toList ∧ (rdOf ByteArray.empty l0 0).size ≤ 140737488355328 := by
        have h1 := strings_Join.text_len a1 (l0.take 1) (by rw [List.length_take]; have := HN.out; omega)
        match l0, HN.out with
        | x :: r, _ =>
          refine ⟨?_, ?_⟩
          · show x.data.toList ++ [] = _; rw [List.append_nil]; rfl
          · show x.size ≤ _
            have h2 : (strings_Join.text a1.data.toList (x :: r)).length = x.size + (r.flatMap (fun y => a1.data.toList ++ y.data.toList)).length := by
              show (x.data.toList ++ _).length = _
              rw [List.length_append, data_length]
            omega
      have HONE := Lib.hid hone.1
      have hx0s := hone.2
      clear hone
      generalize rdOf ByteArray.empty l0 0 = x at hx HONE hx0s
      go_wp2_with fail
      refine (Bld.write wr.heap.size wr.heap.size [] x _ HB3.out (by simp only [List.length_nil]; omega)).mono ?_
      rintro e w4 ⟨rfl, hb4, hB4, hk4⟩
      rw [List.nil_append, ← HONE.out] at hb4
      have HB4 := Aside0.mk hb4
      have HW4 := Aside0.mk (HW3.out.trans (Below.mono hB4 hwb))
      clear hb4 hB4 hk4 hx HB3 HW3 HONE
      generalize hbb : wr.heap.size = b at *
      go_wp2
      go_loopw [65] (fun v65 wq => ∃ k : Nat, k ≤ n + 1 ∧ v65 = .int .i64 k ∧ Aside0 (Bld.Has wq b b (strings_Join.text a1.data.toList (l0.take (k + 1)))) ∧ Aside0 (Below w.heap.size w wq)) (fun v65 _ => n + 1 - (intOf v65).toNat)
      case atStart => exact ⟨0, Nat.zero_le _, rfl, HB4, HW4⟩
      case round =>
        clear HB4 HW4 HW
        obtain ⟨j, hj, rfl, HB, HW⟩ := hrel
        by_cases hjl : j < n + 1
        · obtain ⟨ad', e, hx⟩ := Kd.at_string (Kd.C_below HR.out HW.out) ((j + 1 : Nat) : Int) (by omega) (by have := HN.out; omega)
          cases e
          rw [Int.toNat_natCast] at hx
          have hn1 := strings_Join.text_next a1.data.toList l0 (j + 1) (by omega) (by have := HN.out; omega)
          generalize rdOf ByteArray.empty l0 ((j + 1 : Nat) : Int) = y at hx hn1
          have e9 := strings_Join.add_one ad j
          have hx2 := hx
          rw [e9] at hx2
          clear e9
          have hxs := data_length y
          have hss := data_length a1
          have htot : (strings_Join.text a1.data.toList (l0.take (j + 1))).length + a1.size + y.size ≤ 140737488355328 := by
            have h1 := congrArg List.length hn1.1
            rw [List.length_append, List.length_append, hxs, hss] at h1
            have := hn1.2
            omega
          have HN1 := Lib.hid hn1.1
          have HSS := Lib.hid hss
          have HTT := Lib.hid htot
          clear hn1 hxs hss htot
          go_wp2_with fail
          refine (Bld.write b b _ a1 _ HB.out (by have := HTT.out; omega)).mono ?_
          rintro e w5 ⟨rfl, hb5, hB5, hk5⟩
          have HB5 := Aside0.mk hb5
          have HW5 := Aside0.mk (HW.out.trans (Below.mono hB5 hwb))
          clear hb5 hB5 hk5
          go_wp2_with fail
          refine (Bld.write b b _ y _ HB5.out (by rw [List.length_append, HSS.out]; exact HTT.out)).mono ?_
          rintro e w6 ⟨rfl, hb6, hB6, hk6⟩
          rw [← HN1.out] at hb6
          have HB6 := Aside0.mk hb6
          have HW6 := Aside0.mk (HW5.out.trans (Below.mono hB6 hwb))
          clear hb6 hB6 hk6 HB5 HW5
          go_wp2
          go_roundw
          case rel => exact ⟨j + 1, by omega, by go_num, HB6, HW6⟩
          case measure => simp [intOf]; omega
        · have hjn : j + 1 = l0.length := by have := HN.out; omega
          rw [hjn, List.take_length] at HB
          clear hjn
          go_wp2_with fail
          refine (Bld.string b b _ _ HB.out).mono ?_
          rintro e w6 ⟨rfl, hB6⟩
          have HW6 := Aside0.mk (HW.out.trans (Below.mono hB6 hwb))
          clear hB6
          go_wp2
          go_ret
          exact ⟨rfl, HW6.out⟩

/-! ### acl_Text: function 10 -/
def acl_Text.f (a0_0 : Bool) (a0_1 : ByteArray) (a0_2 : ByteArray) (a0_3 : ByteArray) : Option (ByteArray) := (acl_word.f a0_0).bind fun t140 => ((strings_Join.f (([t140, a0_1, a0_2, a0_3] : List ByteArray)) (⟨#[32]⟩ : ByteArray)).bind fun t144 => (some t144))
def acl_Text.T1 : Bool × List (List Nat × List Nat) := (true, [([], []), ([0], [0]), ([1], [1]), ([], []), ([3], [3]), ([], []), ([5], [5]), ([], []), ([7], [7]), ([2, 4, 6, 8], [2, 4, 6, 8]), ([9, 2], [9]), ([10, 10, 0, 1, 2, 3, 4, 5, 6, 7, 8, 9, 10], [10])])
def acl_Text.B1 : List Nat := [0, 1, 3, 0, 8, 0, 32, 0, 128, 511, 1023, 2047]
theorem acl_Text.tab1 : rtab .any (opsOf Try.f10 1) = acl_Text.T1 := by kernel_rfl
theorem acl_Text.bits1 : waitsOk acl_Text.T1.2 acl_Text.B1 = true := by kernel_rfl
set_option maxHeartbeats 8000000 in
set_option maxRecDepth 100000 in
theorem acl_Text.calls (a0_0 : Bool) (a0_1 : ByteArray) (a0_2 : ByteArray) (a0_3 : ByteArray) (r : ByteArray) (w : World) (h : acl_Text.f a0_0 a0_1 a0_2 a0_3 = some r) :
    Calls Try.prog 10 #[.agg #[.bool a0_0, .string a0_1, .string a0_2, .string a0_3]] w fun e w' => e = .returned (.string r) ∧ Below w.heap.size w w' := by
  have hu23 := Try.underlying23
  have HB := Aside0.mk (Below.refl w.heap.size w)
  have H : ((acl_word.f a0_0).bind fun t140 => ((strings_Join.f (([t140, a0_1, a0_2, a0_3] : List ByteArray)) (⟨#[32]⟩ : ByteArray)).bind fun t144 => (some t144))) = some r := h
  clear h
  replace H := Option.bind_eq_some_iff.mp H
  obtain ⟨t140, A20, H⟩ := H
  replace H : ((strings_Join.f (([t140, a0_1, a0_2, a0_3] : List ByteArray)) (⟨#[32]⟩ : ByteArray)).bind fun t144 => (some t144)) = some r := H
  have A2 := Aside0.mk A20
  clear A20
  obtain ⟨y141, hy141⟩ : ∃ y_ : List ByteArray, y_ = (([t140, a0_1, a0_2, a0_3] : List ByteArray)) := ⟨_, rfl⟩
  replace H : ((strings_Join.f y141 (⟨#[32]⟩ : ByteArray)).bind fun t144 => (some t144)) = some r := by first | (rw [hy141]; with_reducible exact H) | (have H2_ := (Option.bind_some _ _).symm.trans H; rw [hy141]; with_reducible exact H2_) | (have H2_ := (Option.bind_some _ _).symm.trans H; with_reducible exact H2_) | with_reducible exact H | (rw [hy141]; exact H) | exact H
  have Ny141 := Aside0.mk hy141
  clear hy141
  replace H := Option.bind_eq_some_iff.mp H
  obtain ⟨t144, A30, H⟩ := H
  replace H : (some t144) = some r := H
  have A3 := Aside0.mk A30
  clear A30
  obtain rfl := Option.some.inj H
  go_enter Try.func10, Try.ntmps10
  try go_wp2_with (first | ((with_reducible refine gate_dst (N := 1) rfl ?_); refine box_event ?hg (N := 1) ?hd (cs := #[.bool a0_0, .string a0_1, .string a0_2, .string a0_3]) (t := 23) ?hr ?_; (case hd => rfl); (case hg => rfl); (case hr => first | (go_simp; done) | (go_simp; rfl)); intro gb139 hg w4 hbox hb; have n0_ := Aside0.mk (below_step (by repeat (first | (with_reducible first | exact HB.out | apply below_alloc | apply pw_below_drewN | apply below_drew1) | exact HB.out)) hb); have n1_ := Aside0.mk (hbox); have n2_ := Aside0.mk ((by rw [hg]; exact (below_size (by repeat (first | (with_reducible first | exact HB.out | apply below_alloc | apply pw_below_drewN | apply below_drew1) | exact HB.out))) : w.heap.size ≤ gb139)); have n3_ := Aside0.mk ((by rw [hg]; exact (below_size (by repeat (first | (with_reducible first | exact HB.out | apply below_alloc | apply pw_below_drewN | apply below_drew1) | exact HB.out))) : w.heap.size ≤ gb139)); clear HB; have HB := n0_; have BK139 := n1_; have GW139 := n2_; have GE139 := n3_; clear n0_ n1_ n2_ n3_; clear hb hbox hg))
  have n0_ := Aside0.mk (blk_drew BK139.out)
  have n1_ := Aside0.mk (below_drew1 HB.out)
  clear BK139
  clear HB
  have BK139 := n0_
  have HB := n1_
  clear n0_ n1_
  refine start_ (n := 12) (S := fun w' => w'.cell? ⟨gb139, 0, none⟩ = some (.bool a0_0) ∧ w'.cell? ⟨gb139, 1, none⟩ = some (.string a0_1) ∧ w'.cell? ⟨gb139, 2, none⟩ = some (.string a0_2) ∧ w'.cell? ⟨gb139, 3, none⟩ = some (.string a0_3)) (ds := []) #[false, false, false, false, false, false, false, false, false, false, false, false] (by kernel_rfl) rfl rfl ⟨(blk_cell BK139.out 0).trans rfl, (blk_cell BK139.out 1).trans rfl, (blk_cell BK139.out 2).trans rfl, (blk_cell BK139.out 3).trans rfl⟩ (fun hHeld => ?_); refine with_tabW acl_Text.tab1 acl_Text.bits1 (fun HT_ HW_ => ?_)
  generalize w4.drew = w5 at BK139 HB hHeld ⊢
  refine pure_ (i := 0) (N := some 3) (v := ?_) (a' := ?_) #[true, false, false, false, false, false, false, false, false, false, false, false] rfl rfl (any_of HT_.out (by kernel_rfl)) (fun _ _ _ h => h) (Or.inl ⟨by rfl, ?_⟩) ?_ ?_
  rotate_left
  · intro w'
    (try simp only [IntKind.wrap_u8])
    go_simp
    with_reducible rfl
  rotate_left
  · simp only [Act.put, List.setIfInBounds_toArray, List.set_cons_zero, List.set_cons_succ, i64_w, i32_w]
    rfl
  refine pure_ (i := 3) (N := some 6) (v := ?_) (a' := ?_) #[true, false, false, true, false, false, false, false, false, false, false, false] rfl rfl (any_of HT_.out (by kernel_rfl)) (fun _ _ _ h => h) (Or.inl ⟨by rfl, ?_⟩) ?_ ?_
  rotate_left
  · intro w'
    (try simp only [IntKind.wrap_u8])
    go_simp
    with_reducible rfl
  rotate_left
  · simp only [Act.put, List.setIfInBounds_toArray, List.set_cons_zero, List.set_cons_succ, i64_w, i32_w]
    rfl
  refine pure_ (i := 5) (N := some 8) (v := ?_) (a' := ?_) #[true, false, false, true, false, true, false, false, false, false, false, false] rfl rfl (any_of HT_.out (by kernel_rfl)) (fun _ _ _ h => h) (Or.inl ⟨by rfl, ?_⟩) ?_ ?_
  rotate_left
  · intro w'
    (try simp only [IntKind.wrap_u8])
    go_simp
    with_reducible rfl
  rotate_left
  · simp only [Act.put, List.setIfInBounds_toArray, List.set_cons_zero, List.set_cons_succ, i64_w, i32_w]
    rfl
  refine pure_ (i := 7) (N := some 10) (v := ?_) (a' := ?_) #[true, false, false, true, false, true, false, true, false, false, false, false] rfl rfl (any_of HT_.out (by kernel_rfl)) (fun _ _ _ h => h) (Or.inl ⟨by rfl, ?_⟩) ?_ ?_
  rotate_left
  · intro w'
    (try simp only [IntKind.wrap_u8])
    go_simp
    with_reducible rfl
  rotate_left
  · simp only [Act.put, List.setIfInBounds_toArray, List.set_cons_zero, List.set_cons_succ, i64_w, i32_w]
    rfl
  refine take_ (i := 1) (N := some 4) (v := ?_) (a' := ?_) #[true, true, false, true, false, true, false, true, false, false, false, false] rfl rfl (take_ofW HT_.out HW_.out (by kernel_rfl)) (fun _ _ _ h => h) (Or.inl ⟨by rfl, ?_⟩) hHeld ?_ ?_
  rotate_left
  · rintro w' ⟨s0, s1, s2, s3⟩
    go_simp
    with_reducible rfl
  rotate_left
  · simp only [Act.put, List.setIfInBounds_toArray, List.set_cons_zero, List.set_cons_succ, i64_w, i32_w]
    rfl
  refine take_ (i := 4) (N := some 7) (v := ?_) (a' := ?_) #[true, true, false, true, true, true, false, true, false, false, false, false] rfl rfl (take_ofW HT_.out HW_.out (by kernel_rfl)) (fun _ _ _ h => h) (Or.inl ⟨by rfl, ?_⟩) hHeld ?_ ?_
  rotate_left
  · rintro w' ⟨s0, s1, s2, s3⟩
    go_simp
    with_reducible rfl
  rotate_left
  · simp only [Act.put, List.setIfInBounds_toArray, List.set_cons_zero, List.set_cons_succ, i64_w, i32_w]
    rfl
  refine take_ (i := 6) (N := some 9) (v := ?_) (a' := ?_) #[true, true, false, true, true, true, true, true, false, false, false, false] rfl rfl (take_ofW HT_.out HW_.out (by kernel_rfl)) (fun _ _ _ h => h) (Or.inl ⟨by rfl, ?_⟩) hHeld ?_ ?_
  rotate_left
  · rintro w' ⟨s0, s1, s2, s3⟩
    go_simp
    with_reducible rfl
  rotate_left
  · simp only [Act.put, List.setIfInBounds_toArray, List.set_cons_zero, List.set_cons_succ, i64_w, i32_w]
    rfl
  refine take_ (i := 8) (N := some 11) (v := ?_) (a' := ?_) #[true, true, false, true, true, true, true, true, true, false, false, false] rfl rfl (take_ofW HT_.out HW_.out (by kernel_rfl)) (fun _ _ _ h => h) (Or.inl ⟨by rfl, ?_⟩) hHeld ?_ ?_
  rotate_left
  · rintro w' ⟨s0, s1, s2, s3⟩
    go_simp
    with_reducible rfl
  rotate_left
  · simp only [Act.put, List.setIfInBounds_toArray, List.set_cons_zero, List.set_cons_succ, i64_w, i32_w]
    rfl
  refine one_ (i := 2) (N := some 5) #[true, true, true, true, true, true, true, true, true, false, false, false] rfl rfl (one_of HT_.out (by kernel_rfl)) (by decide) (fun K hK => ?_)
  refine goes_ Try.func18 (by kernel_rfl) rfl #[.bool a0_0] (by rfl) rfl rfl (by (try simp only [List.map_toArray, List.map_cons, List.map_nil]); first | done | rfl | (simp only [List.length_drop, List.length_take]; rfl)) ?_
  with_reducible refine (acl_word.calls a0_0 t140 _ A2.out).mono ?_
  rintro e w' ⟨rfl, ⟨nd, rfl⟩⟩
  refine ⟨_, rfl, ?_⟩
  refine hK.out _ _ ⟨(blk_cell BK139.out 0).trans rfl, (blk_cell BK139.out 1).trans rfl, (blk_cell BK139.out 2).trans rfl, (blk_cell BK139.out 3).trans rfl⟩ (fun hHeld => ?_)
  clear hK K
  refine norm_ (a' := ?_) ?_ ?_
  rotate_left
  · show Act.put _ (some 5) _ = _
    simp only [Act.put, List.setIfInBounds_toArray, List.set_cons_zero, List.set_cons_succ, i64_w, i32_w]
    rfl
  refine one_ (i := 9) (N := some 12) #[true, true, true, true, true, true, true, true, true, true, false, false] rfl rfl (one_of HT_.out (by kernel_rfl)) (by decide) (fun K hK => ?_)
  refine Kd.R_lit_step Kd.string _ 9 ?hg (N := 12) ?hd (xs := ([t140, a0_1, a0_2, a0_3] : List ByteArray)) (inner := [.string t140, .string a0_1, .string a0_2, .string a0_3]) (ok := fun _ => True) (okp := fun _ => True) ?hr ?hp (fun _ hk => hk) trivial (Below.refl _ _) (Nat.le_refl _) (by simp) ?_; (case hd => rfl); (case hg => rfl); (case hr => first | (go_simp; done) | (go_simp; rfl)); (case hp => exact (Reps.one (show Kd.M Kd.string _ _ _ t140 [.string t140] from rfl) (Reps.one (show Kd.M Kd.string _ _ _ a0_1 [.string a0_1] from rfl) (Reps.one (show Kd.M Kd.string _ _ _ a0_2 [.string a0_2] from rfl) (Reps.one (show Kd.M Kd.string _ _ _ a0_3 [.string a0_3] from rfl) (Reps.none _ _))))))
  intro v142 w6 ho7 hb hg_ hnew_
  clear hg_ hnew_
  (first | rw [← Ny141.out] at ho7 | (simp only [Int.reduceToNat] at ho7; rw [← Ny141.out] at ho7))
  have n0_ := Aside0.mk (Kd.R_lower ho7 (below_size (by repeat (first | (with_reducible first | exact HB.out | apply below_alloc | apply pw_below_drewN | apply below_drew1 | refine below_set ?_ GE139.out) | exact HB.out))))
  have n1_ := Aside0.mk (blk_below (g := gb139) (o := .cells #[.bool a0_0, .string a0_1, .string a0_2, .string a0_3] 23 (0, 0)) (by (with_reducible repeat (first | refine blk_drewN ?_ _ | refine blk_drew ?_ | refine blk_alloc ?_ _)); exact BK139.out) hb)
  have n2_ := Aside0.mk (below_step (by repeat (first | (with_reducible first | exact HB.out | apply below_alloc | apply pw_below_drewN | apply below_drew1 | refine below_set ?_ GE139.out) | exact HB.out)) hb)
  clear BK139
  clear HB
  have HO143 := n0_
  have BK139 := n1_
  have HB := n2_
  clear n0_ n1_ n2_
  clear hb ho7
  obtain ⟨Ao8, co8, eo8⟩ := Kd.R_slice HO143.out
  (first | subst eo8 | (injection eo8 with f1_ f2_ f3_; have f4_ := f1_.symm; have f5_ := f3_.symm; clear f1_ f2_ f3_; subst f4_; subst f5_))
  refine hK.out _ _ ⟨(blk_cell BK139.out 0).trans rfl, (blk_cell BK139.out 1).trans rfl, (blk_cell BK139.out 2).trans rfl, (blk_cell BK139.out 3).trans rfl⟩ (fun hHeld => ?_)
  clear hK K
  refine norm_ (a' := ?_) ?_ ?_
  rotate_left
  · show Act.put _ (some 12) _ = _
    simp only [Act.put, List.setIfInBounds_toArray, List.set_cons_zero, List.set_cons_succ, i64_w, i32_w]
    rfl
  refine one_ (i := 10) (N := some 13) #[true, true, true, true, true, true, true, true, true, true, true, false] rfl rfl (one_of HT_.out (by kernel_rfl)) (by decide) (fun K hK => ?_)
  refine goes_ Try.func22 (by kernel_rfl) rfl #[.slice Ao8 y141.length co8, .string (⟨#[32]⟩ : ByteArray)] (by rfl) rfl rfl (by (try simp only [List.map_toArray, List.map_cons, List.map_nil]); first | done | rfl | (simp only [List.length_drop, List.length_take]; rfl)) ?_
  with_reducible refine (strings_Join.calls _ _ y141 (⟨#[32]⟩ : ByteArray) t144 _ ?side1 ?side2 A3.out).mono ?_
  (case side1 => repeat (first | exact (Kd.R_reads' HO143.out).2.2 | (with_reducible refine Kd.C_alloc ?_ _) | (with_reducible refine Kd.C_drewN ?_ _) | (with_reducible refine Kd.C_drew ?_)))
  (case side2 => exact (Kd.R_reads' HO143.out).2.1)
  rintro e w9 ⟨rfl, hb⟩
  refine ⟨_, rfl, ?_⟩
  have n0_ := Aside0.mk (Kd.R_below (by (with_reducible repeat (first | apply Kd.R_alloc | apply Kd.R_drewN | apply Kd.R_drew)); exact HO143.out) hb)
  have n1_ := Aside0.mk (blk_below (g := gb139) (o := .cells #[.bool a0_0, .string a0_1, .string a0_2, .string a0_3] 23 (0, 0)) (by (with_reducible repeat (first | refine blk_drewN ?_ _ | refine blk_drew ?_ | refine blk_alloc ?_ _)); exact BK139.out) hb)
  have n2_ := Aside0.mk (below_step (by repeat (first | (with_reducible first | exact HB.out | apply below_alloc | apply pw_below_drewN | apply below_drew1 | refine below_set ?_ GE139.out) | exact HB.out)) hb)
  clear HO143
  clear BK139
  clear HB
  have HO143 := n0_
  have BK139 := n1_
  have HB := n2_
  clear n0_ n1_ n2_
  (try clear hb)
  (try clear hb2)
  (try clear hk)
  (try clear hi)
  refine hK.out _ _ ⟨(blk_cell BK139.out 0).trans rfl, (blk_cell BK139.out 1).trans rfl, (blk_cell BK139.out 2).trans rfl, (blk_cell BK139.out 3).trans rfl⟩ (fun hHeld => ?_)
  clear hK K
  refine norm_ (a' := ?_) ?_ ?_
  rotate_left
  · show Act.put _ (some 13) _ = _
    simp only [Act.put, List.setIfInBounds_toArray, List.set_cons_zero, List.set_cons_succ, i64_w, i32_w]
    rfl
  refine pure_ (i := 11) (N := some 2) (v := ?_) (a' := ?_) #[true, true, true, true, true, true, true, true, true, true, true, true] rfl rfl (any_of HT_.out (by kernel_rfl)) (fun _ _ _ h => h) (Or.inl ⟨by rfl, ?_⟩) ?_ ?_
  rotate_left
  · intro w'
    (try simp only [IntKind.wrap_u8])
    go_simp
    with_reducible rfl
  rotate_left
  · simp only [Act.put, List.setIfInBounds_toArray, List.set_cons_zero, List.set_cons_succ, i64_w, i32_w]
    rfl
  refine done_ (done_of HT_.out (by kernel_rfl)) ?_
  try go_wp2
  go_ret
  exact ⟨by first | rfl | (simp [errW_none, errW_some] <;> rfl) | (simp [*, errW_none, errW_some] <;> rfl), by repeat (first | (with_reducible first | exact HB.out | apply below_alloc | apply pw_below_drewN | apply below_drew1 | refine below_set ?_ GE139.out) | exact HB.out)⟩

/-! ### head_small: function 48 -/
def head_small.f (a0 : Int) : Option (Int) := if a0 ≥ 65 then (if a0 ≤ 90 then (some ((((a0 + 97) % 256) - 65) % 256)) else (some a0)) else (some a0)
set_option maxHeartbeats 8000000 in
set_option maxRecDepth 100000 in
theorem head_small.calls (a0 : Int) (r : Int) (w : World) (h : head_small.f a0 = some r) :
    Calls Try.prog 48 #[.int .u8 a0] w fun e w' => e = .returned (.int .u8 r) ∧ Drawn0 w w' := by
  have H : (if a0 ≥ 65 then (if a0 ≤ 90 then (some ((((a0 + 97) % 256) - 65) % 256)) else (some a0)) else (some a0)) = some r := h
  clear h
  by_cases c2 : a0 ≥ 65
  · rw [if_pos c2] at H
    have c2b0 : decide (65 ≤ a0) = true := decide_eq_true c2
    clear c2
    by_cases c3 : a0 ≤ 90
    · rw [if_pos c3] at H
      have c3b0 : decide (a0 ≤ 90) = true := decide_eq_true c3
      clear c3
      obtain rfl := Option.some.inj H
      go_enter Try.func48, Try.ntmps48
      go_wp2
      go_ret
      exact ⟨by first | rfl | (simp; done) | (simp [*]; done) | (simp; exact Leaf.ne_nil_bool _) | (simp; rw [IntKind.wrap_u8]; exact congrArg (fun z => bits BinOp.or IntKind.i64 z _ % 256) (by unfold wrap64; exact IntKind.wrap_i64 _)), by repeat (first | exact Drawn0.refl _ | apply Drawn0.step)⟩
    · rw [if_neg c3] at H
      have c3b0 : decide (a0 ≤ 90) = false := decide_eq_false c3
      clear c3
      obtain rfl := Option.some.inj H
      go_enter Try.func48, Try.ntmps48
      go_wp2
      go_ret
      exact ⟨by first | rfl | (simp; done) | (simp [*]; done) | (simp; exact Leaf.ne_nil_bool _) | (simp; rw [IntKind.wrap_u8]; exact congrArg (fun z => bits BinOp.or IntKind.i64 z _ % 256) (by unfold wrap64; exact IntKind.wrap_i64 _)), by repeat (first | exact Drawn0.refl _ | apply Drawn0.step)⟩
  · rw [if_neg c2] at H
    have c2b0 : decide (65 ≤ a0) = false := decide_eq_false c2
    clear c2
    obtain rfl := Option.some.inj H
    go_enter Try.func48, Try.ntmps48
    go_wp2
    go_ret
    exact ⟨by first | rfl | (simp; done) | (simp [*]; done) | (simp; exact Leaf.ne_nil_bool _) | (simp; rw [IntKind.wrap_u8]; exact congrArg (fun z => bits BinOp.or IntKind.i64 z _ % 256) (by unfold wrap64; exact IntKind.wrap_i64 _)), by repeat (first | exact Drawn0.refl _ | apply Drawn0.step)⟩

/-! ### head_Same: function 37 -/
def head_Same.l0 : Nat → ByteArray → ByteArray → Int → Int → Option (Bool)
  | 0, _, _, _, _ => none
  | k + 1, x0, x1, x12, x13 => if x13 < x12 then (if 0 ≤ x13 then (if x13 < (x0.size : Int) then ((head_small.f (bt x0 x13)).bind fun t145 => (if x13 < (x1.size : Int) then ((head_small.f (bt x1 x13)).bind fun t146 => (if t145 = t146 then (head_Same.l0 k x0 x1 x12 (wrap64 (x13 + 1))) else (some false))) else (none))) else (none)) else (none)) else (some true)
def head_Same.f (k : Nat) (a0 : ByteArray) (a1 : ByteArray) : Option (Bool) := if (a0.size : Int) = (a1.size : Int) then (head_Same.l0 k a0 a1 (a0.size : Int) 0) else (some false)
theorem head_Same.mono_l : ∀ k, (∀ y0 y1 y2 y3, LeO (head_Same.l0 k y0 y1 y2 y3) (head_Same.l0 (k + 1) y0 y1 y2 y3))
  | 0 => fun _ _ _ _ r h => by simp [head_Same.l0] at h
  | k + 1 => by
    have ih0 := head_Same.mono_l k
    · intro y0 y1 y2 y3
      unfold head_Same.l0
      repeat' first
      | (with_reducible exact ih0 _ _ _ _)
      | (with_reducible exact LeO.refl _)
      | (with_reducible exact LeO.none _)
      | (with_reducible refine LeO.ite ?_ ?_)
      | (with_reducible refine LeO.bind ?_ (fun _ => ?_))
      | exact ih0 _ _ _ _
      | exact LeO.none _
      | refine LeO.ite ?_ ?_
      | refine LeO.bind ?_ (fun _ => ?_)
theorem head_Same.mono : ∀ a0 a1 k, LeO (head_Same.f k a0 a1) (head_Same.f (k + 1) a0 a1) := by
  intro a0 a1 k
  have ih0 := head_Same.mono_l k
  unfold head_Same.f
  repeat' first
      | (with_reducible exact ih0 _ _ _ _)
      | (with_reducible exact LeO.refl _)
      | (with_reducible exact LeO.none _)
      | (with_reducible refine LeO.ite ?_ ?_)
      | (with_reducible refine LeO.bind ?_ (fun _ => ?_))
      | exact ih0 _ _ _ _
      | exact LeO.none _
      | refine LeO.ite ?_ ?_
      | refine LeO.bind ?_ (fun _ => ?_)
set_option maxHeartbeats 8000000 in
set_option maxRecDepth 100000 in
theorem head_Same.calls (k : Nat) (a0 : ByteArray) (a1 : ByteArray) (r : Bool) (w : World) (h : head_Same.f k a0 a1 = some r) :
    Calls Try.prog 37 #[.string a0, .string a1] w fun e w' => e = .returned (.bool r) ∧ Drawn0 w w' := by
  have H : (if (a0.size : Int) = (a1.size : Int) then (head_Same.l0 k a0 a1 (a0.size : Int) 0) else (some false)) = some r := h
  clear h
  by_cases c3 : (a0.size : Int) = (a1.size : Int)
  · rw [if_pos c3] at H
    have c3b0 : ((a0.size : Int) == (a1.size : Int)) = true := beq_iff_eq.mpr c3
    have c3b1 : ((a0.size : Int) != (a1.size : Int)) = false := bne_eq_false_iff_eq.mpr c3
    have c3b2 : (a0.size == a1.size) = true := by first | simpa using c3 | (simp at c3 ⊢; omega)
    clear c3
    have H' := Aside0.mk H
    clear H
    go_enter Try.func37, Try.ntmps37
    go_wp2
    repeat (go_quiet (fail); try go_wp2)
    go_loopg [13] k (fun kq v13 w' => ∃ (x13_1 : Int), v13 = .int .i64 x13_1 ∧ Aside0 (head_Same.l0 kq a0 a1 (a0.size : Int) x13_1 = some r) ∧ Aside0 (kq ≤ k) ∧ Drawn0 w w')
    case atStart => exact ⟨(0), (by first | rfl | (simp; done) | (simp [*]; done)), H', ⟨Nat.le_refl _⟩, by repeat (first | exact Drawn0.refl _ | apply Drawn0.step)⟩
    case round =>
      clear H'
      try clear p2
      try clear c3
      try clear c3b0
      try clear c3b1
      try clear c3b2
      obtain ⟨x13_1, rfl, HA, HK1, ⟨m1, rfl⟩⟩ := hrel
      cases gk with
      | zero => exact absurd HA.out (by simp [head_Same.l0])
      | succ k1 =>
        have H := HA.out
        clear HA
        simp only [head_Same.l0] at H
        by_cases c4 : x13_1 < (a0.size : Int)
        · rw [if_pos c4] at H
          have c4b0 : decide (x13_1 < (a0.size : Int)) = true := decide_eq_true c4
          clear c4
          by_cases c5 : 0 ≤ x13_1
          · rw [if_pos c5] at H
            have c5b0 : decide (0 ≤ x13_1) = true := decide_eq_true c5
            clear c5
            by_cases c6 : x13_1 < (a0.size : Int)
            · rw [if_pos c6] at H
              have c6b0 : decide (x13_1 < (a0.size : Int)) = true := decide_eq_true c6
              clear c6
              replace H := Option.bind_eq_some_iff.mp H
              obtain ⟨t145, A80, H⟩ := H
              replace H : (if x13_1 < (a1.size : Int) then ((head_small.f (bt a1 x13_1)).bind fun t146 => (if t145 = t146 then (head_Same.l0 k1 a0 a1 (a0.size : Int) (wrap64 (x13_1 + 1))) else (some false))) else (none)) = some r := H
              have A8 := Aside0.mk A80
              clear A80
              by_cases c9 : x13_1 < (a1.size : Int)
              · rw [if_pos c9] at H
                have c9b0 : decide (x13_1 < (a1.size : Int)) = true := decide_eq_true c9
                clear c9
                replace H := Option.bind_eq_some_iff.mp H
                obtain ⟨t146, A110, H⟩ := H
                replace H : (if t145 = t146 then (head_Same.l0 k1 a0 a1 (a0.size : Int) (wrap64 (x13_1 + 1))) else (some false)) = some r := H
                have A11 := Aside0.mk A110
                clear A110
                by_cases c12 : t145 = t146
                · rw [if_pos c12] at H
                  have c12b0 : (t145 == t146) = true := beq_iff_eq.mpr c12
                  have c12b1 : (t145 != t146) = false := bne_eq_false_iff_eq.mpr c12
                  clear c12
                  have H' := Aside0.mk H
                  clear H
                  have p7 : 0 ≤ (x13_1 : Int) := of_decide_eq_true (by first | (with_reducible assumption) | assumption)
                  have q7 : x13_1 < (a0.size : Int) := of_decide_eq_true (by first | (with_reducible assumption) | assumption)
                  have hx7 := bt_at a0 x13_1
                  replace p7 := eq_true p7
                  replace q7 := eq_true q7
                  go_wp2_with (first | (go_at_call 48; (with_reducible refine (head_small.calls (bt a0 x13_1) t145 _ A8.out).mono ?_); rintro e w' ⟨rfl, ⟨nd, rfl⟩⟩; (try first | exact ⟨rfl, _, World.drewN_drewN _ _ _⟩ | exact ⟨rfl, _, Eq.trans (World.drewN_drewN _ _ _) (congrArg (World.drewN _) (Nat.add_assoc _ _ _))⟩); have p10 : 0 ≤ (x13_1 : Int) := of_decide_eq_true (by first | (with_reducible assumption) | assumption); have q10 : x13_1 < (a1.size : Int) := of_decide_eq_true (by first | (with_reducible assumption) | assumption); have hx10 := bt_at a1 x13_1; replace p10 := eq_true p10; replace q10 := eq_true q10) | (go_at_call 48; (with_reducible refine (head_small.calls (bt a1 x13_1) t146 _ A11.out).mono ?_); rintro e w' ⟨rfl, ⟨nd, rfl⟩⟩; (try first | exact ⟨rfl, _, World.drewN_drewN _ _ _⟩ | exact ⟨rfl, _, Eq.trans (World.drewN_drewN _ _ _) (congrArg (World.drewN _) (Nat.add_assoc _ _ _))⟩)))
                  repeat (go_quiet (first | (go_at_call 48; (with_reducible refine (head_small.calls (bt a0 x13_1) t145 _ A8.out).mono ?_); rintro e w' ⟨rfl, ⟨nd, rfl⟩⟩; (try first | exact ⟨rfl, _, World.drewN_drewN _ _ _⟩ | exact ⟨rfl, _, Eq.trans (World.drewN_drewN _ _ _) (congrArg (World.drewN _) (Nat.add_assoc _ _ _))⟩); have p10 : 0 ≤ (x13_1 : Int) := of_decide_eq_true (by first | (with_reducible assumption) | assumption); have q10 : x13_1 < (a1.size : Int) := of_decide_eq_true (by first | (with_reducible assumption) | assumption); have hx10 := bt_at a1 x13_1; replace p10 := eq_true p10; replace q10 := eq_true q10) | (go_at_call 48; (with_reducible refine (head_small.calls (bt a1 x13_1) t146 _ A11.out).mono ?_); rintro e w' ⟨rfl, ⟨nd, rfl⟩⟩; (try first | exact ⟨rfl, _, World.drewN_drewN _ _ _⟩ | exact ⟨rfl, _, Eq.trans (World.drewN_drewN _ _ _) (congrArg (World.drewN _) (Nat.add_assoc _ _ _))⟩))); try go_wp2_with (first | (go_at_call 48; (with_reducible refine (head_small.calls (bt a0 x13_1) t145 _ A8.out).mono ?_); rintro e w' ⟨rfl, ⟨nd, rfl⟩⟩; (try first | exact ⟨rfl, _, World.drewN_drewN _ _ _⟩ | exact ⟨rfl, _, Eq.trans (World.drewN_drewN _ _ _) (congrArg (World.drewN _) (Nat.add_assoc _ _ _))⟩); have p10 : 0 ≤ (x13_1 : Int) := of_decide_eq_true (by first | (with_reducible assumption) | assumption); have q10 : x13_1 < (a1.size : Int) := of_decide_eq_true (by first | (with_reducible assumption) | assumption); have hx10 := bt_at a1 x13_1; replace p10 := eq_true p10; replace q10 := eq_true q10) | (go_at_call 48; (with_reducible refine (head_small.calls (bt a1 x13_1) t146 _ A11.out).mono ?_); rintro e w' ⟨rfl, ⟨nd, rfl⟩⟩; (try first | exact ⟨rfl, _, World.drewN_drewN _ _ _⟩ | exact ⟨rfl, _, Eq.trans (World.drewN_drewN _ _ _) (congrArg (World.drewN _) (Nat.add_assoc _ _ _))⟩))))
                  go_roundg k1
                  case measure => have := HK1.out; omega
                  case rel => exact ⟨(wrap64 (x13_1 + 1)), (by first | rfl | (simp; done) | (simp [*]; done)), H', ⟨by have := HK1.out; omega⟩, by repeat (first | exact Drawn0.refl _ | apply Drawn0.step)⟩
                · rw [if_neg c12] at H
                  have c12b0 : (t145 == t146) = false := beq_eq_false_iff_ne.mpr c12
                  have c12b1 : (t145 != t146) = true := bne_iff_ne.mpr c12
                  obtain rfl := Option.some.inj H
                  have p7 : 0 ≤ (x13_1 : Int) := of_decide_eq_true (by first | (with_reducible assumption) | assumption)
                  have q7 : x13_1 < (a0.size : Int) := of_decide_eq_true (by first | (with_reducible assumption) | assumption)
                  have hx7 := bt_at a0 x13_1
                  replace p7 := eq_true p7
                  replace q7 := eq_true q7
                  go_wp2_with (first | (go_at_call 48; (with_reducible refine (head_small.calls (bt a0 x13_1) t145 _ A8.out).mono ?_); rintro e w' ⟨rfl, ⟨nd, rfl⟩⟩; (try first | exact ⟨rfl, _, World.drewN_drewN _ _ _⟩ | exact ⟨rfl, _, Eq.trans (World.drewN_drewN _ _ _) (congrArg (World.drewN _) (Nat.add_assoc _ _ _))⟩); have p10 : 0 ≤ (x13_1 : Int) := of_decide_eq_true (by first | (with_reducible assumption) | assumption); have q10 : x13_1 < (a1.size : Int) := of_decide_eq_true (by first | (with_reducible assumption) | assumption); have hx10 := bt_at a1 x13_1; replace p10 := eq_true p10; replace q10 := eq_true q10) | (go_at_call 48; (with_reducible refine (head_small.calls (bt a1 x13_1) t146 _ A11.out).mono ?_); rintro e w' ⟨rfl, ⟨nd, rfl⟩⟩; (try first | exact ⟨rfl, _, World.drewN_drewN _ _ _⟩ | exact ⟨rfl, _, Eq.trans (World.drewN_drewN _ _ _) (congrArg (World.drewN _) (Nat.add_assoc _ _ _))⟩)))
                  repeat (go_quiet (first | (go_at_call 48; (with_reducible refine (head_small.calls (bt a0 x13_1) t145 _ A8.out).mono ?_); rintro e w' ⟨rfl, ⟨nd, rfl⟩⟩; (try first | exact ⟨rfl, _, World.drewN_drewN _ _ _⟩ | exact ⟨rfl, _, Eq.trans (World.drewN_drewN _ _ _) (congrArg (World.drewN _) (Nat.add_assoc _ _ _))⟩); have p10 : 0 ≤ (x13_1 : Int) := of_decide_eq_true (by first | (with_reducible assumption) | assumption); have q10 : x13_1 < (a1.size : Int) := of_decide_eq_true (by first | (with_reducible assumption) | assumption); have hx10 := bt_at a1 x13_1; replace p10 := eq_true p10; replace q10 := eq_true q10) | (go_at_call 48; (with_reducible refine (head_small.calls (bt a1 x13_1) t146 _ A11.out).mono ?_); rintro e w' ⟨rfl, ⟨nd, rfl⟩⟩; (try first | exact ⟨rfl, _, World.drewN_drewN _ _ _⟩ | exact ⟨rfl, _, Eq.trans (World.drewN_drewN _ _ _) (congrArg (World.drewN _) (Nat.add_assoc _ _ _))⟩))); try go_wp2_with (first | (go_at_call 48; (with_reducible refine (head_small.calls (bt a0 x13_1) t145 _ A8.out).mono ?_); rintro e w' ⟨rfl, ⟨nd, rfl⟩⟩; (try first | exact ⟨rfl, _, World.drewN_drewN _ _ _⟩ | exact ⟨rfl, _, Eq.trans (World.drewN_drewN _ _ _) (congrArg (World.drewN _) (Nat.add_assoc _ _ _))⟩); have p10 : 0 ≤ (x13_1 : Int) := of_decide_eq_true (by first | (with_reducible assumption) | assumption); have q10 : x13_1 < (a1.size : Int) := of_decide_eq_true (by first | (with_reducible assumption) | assumption); have hx10 := bt_at a1 x13_1; replace p10 := eq_true p10; replace q10 := eq_true q10) | (go_at_call 48; (with_reducible refine (head_small.calls (bt a1 x13_1) t146 _ A11.out).mono ?_); rintro e w' ⟨rfl, ⟨nd, rfl⟩⟩; (try first | exact ⟨rfl, _, World.drewN_drewN _ _ _⟩ | exact ⟨rfl, _, Eq.trans (World.drewN_drewN _ _ _) (congrArg (World.drewN _) (Nat.add_assoc _ _ _))⟩))))
                  go_ret
                  exact ⟨by first | rfl | (simp; done) | (simp [*]; done) | (simp; exact Leaf.ne_nil_bool _) | (simp; rw [IntKind.wrap_u8]; exact congrArg (fun z => bits BinOp.or IntKind.i64 z _ % 256) (by unfold wrap64; exact IntKind.wrap_i64 _)), by repeat (first | exact Drawn0.refl _ | apply Drawn0.step)⟩
              · rw [if_neg c9] at H
                exact absurd H (by simp)
            · rw [if_neg c6] at H
              exact absurd H (by simp)
          · rw [if_neg c5] at H
            exact absurd H (by simp)
        · rw [if_neg c4] at H
          have c4b0 : decide (x13_1 < (a0.size : Int)) = false := decide_eq_false c4
          clear c4
          obtain rfl := Option.some.inj H
          go_wp2
          repeat (go_quiet (fail); try go_wp2)
          go_ret
          exact ⟨by first | rfl | (simp; done) | (simp [*]; done) | (simp; exact Leaf.ne_nil_bool _) | (simp; rw [IntKind.wrap_u8]; exact congrArg (fun z => bits BinOp.or IntKind.i64 z _ % 256) (by unfold wrap64; exact IntKind.wrap_i64 _)), by repeat (first | exact Drawn0.refl _ | apply Drawn0.step)⟩
  · rw [if_neg c3] at H
    have c3b0 : ((a0.size : Int) == (a1.size : Int)) = false := beq_eq_false_iff_ne.mpr c3
    have c3b1 : ((a0.size : Int) != (a1.size : Int)) = true := bne_iff_ne.mpr c3
    have c3b2 : (a0.size == a1.size) = false := by first | simpa using c3 | (simp at c3 ⊢; omega)
    obtain rfl := Option.some.inj H
    go_enter Try.func37, Try.ntmps37
    go_wp2
    repeat (go_quiet (fail); try go_wp2)
    go_ret
    exact ⟨by first | rfl | (simp; done) | (simp [*]; done) | (simp; exact Leaf.ne_nil_bool _) | (simp; rw [IntKind.wrap_u8]; exact congrArg (fun z => bits BinOp.or IntKind.i64 z _ % 256) (by unfold wrap64; exact IntKind.wrap_i64 _)), by repeat (first | exact Drawn0.refl _ | apply Drawn0.step)⟩

/-! ### head_Get: function 24 -/
def head_Get.l0 : Nat → ByteArray → List (S72) → Int → Int → Option (ByteArray × Bool)
  | 0, _, _, _, _ => none
  | k + 1, x1, x8, x9, x10 => if x10 < x9 then (if 0 ≤ x10 then (if x10 < (x8.length : Int) then ((head_Same.f k ((rd_T72 x8 x10).f0) x1).bind fun t149 => (if t149 = true then (some ((rd_T72 x8 x10).f1, true)) else (head_Get.l0 k x1 x8 x9 (wrap64 (x10 + 1))))) else (none)) else (none)) else (some ((⟨#[]⟩ : ByteArray), false))
def head_Get.f (k : Nat) (l0 : List (S72)) (a1 : ByteArray) : Option (ByteArray × Bool) := head_Get.l0 k a1 l0 (l0.length : Int) 0
theorem head_Get.mono_l : ∀ k, (∀ y0 y1 y2 y3, LeO (head_Get.l0 k y0 y1 y2 y3) (head_Get.l0 (k + 1) y0 y1 y2 y3))
  | 0 => fun _ _ _ _ r h => by simp [head_Get.l0] at h
  | k + 1 => by
    have ih0 := head_Get.mono_l k
    · intro y0 y1 y2 y3
      unfold head_Get.l0
      repeat' first
      | (with_reducible exact ih0 _ _ _ _)
      | (with_reducible exact head_Same.mono _ _ _)
      | (with_reducible exact LeO.refl _)
      | (with_reducible exact LeO.none _)
      | (with_reducible refine LeO.ite ?_ ?_)
      | (with_reducible refine LeO.bind ?_ (fun _ => ?_))
      | exact ih0 _ _ _ _
      | exact head_Same.mono _ _ _
      | exact LeO.none _
      | refine LeO.ite ?_ ?_
      | refine LeO.bind ?_ (fun _ => ?_)
theorem head_Get.mono : ∀ a0 a1 k, LeO (head_Get.f k a0 a1) (head_Get.f (k + 1) a0 a1) := by
  intro a0 a1 k
  have ih0 := head_Get.mono_l k
  unfold head_Get.f
  repeat' first
      | (with_reducible exact ih0 _ _ _ _)
      | (with_reducible exact head_Same.mono _ _ _)
      | (with_reducible exact LeO.refl _)
      | (with_reducible exact LeO.none _)
      | (with_reducible refine LeO.ite ?_ ?_)
      | (with_reducible refine LeO.bind ?_ (fun _ => ?_))
      | exact ih0 _ _ _ _
      | exact head_Same.mono _ _ _
      | exact LeO.none _
      | refine LeO.ite ?_ ?_
      | refine LeO.bind ?_ (fun _ => ?_)
set_option maxHeartbeats 8000000 in
set_option maxRecDepth 100000 in
theorem head_Get.calls (k : Nat) (A0 : Option Addr) (c0 : Nat) (l0 : List (S72)) (a1 : ByteArray) (r1 : ByteArray) (r2 : Bool) (w : World) (hr0 : Kd.C k72 w A0 l0.length l0) (hc0 : l0.length ≤ c0) (h : head_Get.f k l0 a1 = some (r1, r2)) :
    Calls Try.prog 24 #[.slice A0 l0.length c0, .string a1] w fun e w' => e = .returned (.tuple #[.string r1, .bool r2]) ∧ Below w.heap.size w w' := by
  have hu72 := Try.underlying72
  have HR0 := Aside0.mk hr0
  have HC0 := Aside0.mk hc0
  clear hr0 hc0
  have HB := Aside0.mk (Below.refl w.heap.size w)
  have H : (head_Get.l0 k a1 l0 (l0.length : Int) 0) = some (r1, r2) := h
  clear h
  have H' := Aside0.mk H
  clear H
  go_enter Try.func24, Try.ntmps24
  go_wp2
  go_loopg [10] k (fun kq v10 w' => ∃ (x10_1 : Int), v10 = .int .i64 x10_1 ∧ Aside0 (head_Get.l0 kq a1 l0 (l0.length : Int) x10_1 = some (r1, r2)) ∧ Aside0 (kq ≤ k) ∧ Aside0 (Below w.heap.size w w'))
  case atStart => exact ⟨(0), (by first | rfl | (simp; done) | (simp [*]; done)), H', ⟨Nat.le_refl _⟩, ⟨by repeat (first | (with_reducible first | exact HB.out | apply below_alloc | apply pw_below_drewN | apply below_drew1) | exact HB.out)⟩⟩
  case round =>
    clear H'
    try clear c2
    try clear p2
    obtain ⟨x10_1, rfl, HA, HK1, HB⟩ := hrel
    cases gk with
    | zero => exact absurd HA.out (by simp [head_Get.l0])
    | succ k1 =>
      have H := HA.out
      clear HA
      simp only [head_Get.l0] at H
      by_cases c3 : x10_1 < (l0.length : Int)
      · rw [if_pos c3] at H
        have c3b0 : decide (x10_1 < (l0.length : Int)) = true := decide_eq_true c3
        clear c3
        by_cases c4 : 0 ≤ x10_1
        · rw [if_pos c4] at H
          have c4b0 : decide (0 ≤ x10_1) = true := decide_eq_true c4
          clear c4
          by_cases c5 : x10_1 < (l0.length : Int)
          · rw [if_pos c5] at H
            have c5b0 : decide (x10_1 < (l0.length : Int)) = true := decide_eq_true c5
            clear c5
            replace H := Option.bind_eq_some_iff.mp H
            obtain ⟨t149, A60, H⟩ := H
            replace H : (if t149 = true then (some ((rd_T72 l0 x10_1).f1, true)) else (head_Get.l0 k1 a1 l0 (l0.length : Int) (wrap64 (x10_1 + 1)))) = some (r1, r2) := H
            have A6 := Aside0.mk A60
            clear A60
            by_cases c7 : t149 = true
            · subst c7
              have H1 : (some ((rd_T72 l0 x10_1).f1, true)) = some (r1, r2) := by rw [if_pos rfl] at H; exact H
              clear H
              have H := H1
              clear H1
              simp only [Option.some.injEq, Prod.mk.injEq] at H
              obtain ⟨rfl, rfl⟩ := H
              have p147 : 0 ≤ (x10_1 : Int) := of_decide_eq_true (by first | (with_reducible assumption) | assumption)
              have q147 : x10_1 < (l0.length : Int) := of_decide_eq_true (by first | (with_reducible assumption) | assumption)
              obtain ⟨ad147, e147, hx147_0, hx147_1⟩ := at_T72 HR0.out x10_1 p147 q147
              cases e147
              (try replace hx147_0 := (HB.out.cell (World.block_lt_of_cell? w _ hx147_0)).trans hx147_0)
              (try replace hx147_1 := (HB.out.cell (World.block_lt_of_cell? w _ hx147_1)).trans hx147_1)
              replace p147 := eq_true p147
              replace q147 := eq_true q147
              go_wp2_with (first | ((with_reducible refine gate_dst (N := 7) rfl ?_); refine box_event ?hg (N := 7) ?hd (cs := #[.string (⟨#[]⟩ : ByteArray), .string (⟨#[]⟩ : ByteArray)]) (t := 72) ?hr ?_; (case hd => rfl); (case hg => rfl); (case hr => first | (go_simp; done) | (go_simp; rfl)); intro gb148 hg w8 hbox hb; have n0_ := Aside0.mk (below_step (by repeat (first | (with_reducible first | exact HB.out | apply below_alloc | apply pw_below_drewN | apply below_drew1) | exact HB.out)) hb); have n1_ := Aside0.mk (hbox); have n2_ := Aside0.mk ((by rw [hg]; exact (below_size (by repeat (first | (with_reducible first | exact HB.out | apply below_alloc | apply pw_below_drewN | apply below_drew1) | exact HB.out))) : w.heap.size ≤ gb148)); have n3_ := Aside0.mk ((by rw [hg]; exact (below_size (by repeat (first | (with_reducible first | exact HB.out | apply below_alloc | apply pw_below_drewN | apply below_drew1) | exact HB.out))) : w.heap.size ≤ gb148)); clear HB; have HB := n0_; have BK148 := n1_; have GW148 := n2_; have GE148 := n3_; clear n0_ n1_ n2_ n3_; clear hb hbox hg; have hcz9_0 : w8.cell? ⟨gb148, 0, none⟩ = some (.string (⟨#[]⟩ : ByteArray)) := (blk_cell BK148.out 0).trans rfl; have hcz9_1 : w8.cell? ⟨gb148, 1, none⟩ = some (.string (⟨#[]⟩ : ByteArray)) := (blk_cell BK148.out 1).trans rfl; have hfz9_0 := blk_frozen BK148.out 0; have hfz9_1 := blk_frozen BK148.out 1) | ((with_reducible refine gate_callee (f := 37) rfl ?_); refine goesL_ (some 17) rfl rfl Try.func37 (by kernel_rfl) rfl #[.string ((rd_T72 l0 x10_1).f0), .string a1] rfl (by (try simp only [List.map_toArray, List.map_cons, List.map_nil]); first | done | rfl | (simp only [List.length_drop, List.length_take]; rfl)) ?_; (with_reducible refine (head_Same.calls k1 ((rd_T72 l0 x10_1).f0) a1 true _ A6.out).mono ?_); rintro e w' ⟨rfl, ⟨nd, rfl⟩⟩; refine ⟨_, rfl, ?_⟩))
              go_ret2
              exact ⟨by first | rfl | (simp [errW_none, errW_some] <;> rfl) | (simp [*, errW_none, errW_some] <;> rfl), by repeat (first | (with_reducible first | exact HB.out | apply below_alloc | apply pw_below_drewN | apply below_drew1 | refine below_set ?_ GE148.out) | exact HB.out)⟩
            · replace c7 := Bool.eq_false_iff.mpr c7
              subst c7
              have H1 : (head_Get.l0 k1 a1 l0 (l0.length : Int) (wrap64 (x10_1 + 1))) = some (r1, r2) := by rw [if_neg (show ¬ (false = true) by decide)] at H; exact H
              clear H
              have H := H1
              clear H1
              have H' := Aside0.mk H
              clear H
              have p147 : 0 ≤ (x10_1 : Int) := of_decide_eq_true (by first | (with_reducible assumption) | assumption)
              have q147 : x10_1 < (l0.length : Int) := of_decide_eq_true (by first | (with_reducible assumption) | assumption)
              obtain ⟨ad147, e147, hx147_0, hx147_1⟩ := at_T72 HR0.out x10_1 p147 q147
              cases e147
              (try replace hx147_0 := (HB.out.cell (World.block_lt_of_cell? w _ hx147_0)).trans hx147_0)
              (try replace hx147_1 := (HB.out.cell (World.block_lt_of_cell? w _ hx147_1)).trans hx147_1)
              replace p147 := eq_true p147
              replace q147 := eq_true q147
              go_wp2_with (first | ((with_reducible refine gate_dst (N := 7) rfl ?_); refine box_event ?hg (N := 7) ?hd (cs := #[.string (⟨#[]⟩ : ByteArray), .string (⟨#[]⟩ : ByteArray)]) (t := 72) ?hr ?_; (case hd => rfl); (case hg => rfl); (case hr => first | (go_simp; done) | (go_simp; rfl)); intro gb148 hg w10 hbox hb; have n0_ := Aside0.mk (below_step (by repeat (first | (with_reducible first | exact HB.out | apply below_alloc | apply pw_below_drewN | apply below_drew1) | exact HB.out)) hb); have n1_ := Aside0.mk (hbox); have n2_ := Aside0.mk ((by rw [hg]; exact (below_size (by repeat (first | (with_reducible first | exact HB.out | apply below_alloc | apply pw_below_drewN | apply below_drew1) | exact HB.out))) : w.heap.size ≤ gb148)); have n3_ := Aside0.mk ((by rw [hg]; exact (below_size (by repeat (first | (with_reducible first | exact HB.out | apply below_alloc | apply pw_below_drewN | apply below_drew1) | exact HB.out))) : w.heap.size ≤ gb148)); clear HB; have HB := n0_; have BK148 := n1_; have GW148 := n2_; have GE148 := n3_; clear n0_ n1_ n2_ n3_; clear hb hbox hg; have hcz11_0 : w10.cell? ⟨gb148, 0, none⟩ = some (.string (⟨#[]⟩ : ByteArray)) := (blk_cell BK148.out 0).trans rfl; have hcz11_1 : w10.cell? ⟨gb148, 1, none⟩ = some (.string (⟨#[]⟩ : ByteArray)) := (blk_cell BK148.out 1).trans rfl; have hfz11_0 := blk_frozen BK148.out 0; have hfz11_1 := blk_frozen BK148.out 1) | ((with_reducible refine gate_callee (f := 37) rfl ?_); refine goesL_ (some 17) rfl rfl Try.func37 (by kernel_rfl) rfl #[.string ((rd_T72 l0 x10_1).f0), .string a1] rfl (by (try simp only [List.map_toArray, List.map_cons, List.map_nil]); first | done | rfl | (simp only [List.length_drop, List.length_take]; rfl)) ?_; (with_reducible refine (head_Same.calls k1 ((rd_T72 l0 x10_1).f0) a1 false _ A6.out).mono ?_); rintro e w' ⟨rfl, ⟨nd, rfl⟩⟩; refine ⟨_, rfl, ?_⟩))
              go_roundg k1
              case measure => have := HK1.out; omega
              case rel => exact ⟨(wrap64 (x10_1 + 1)), (by first | rfl | (simp; done) | (simp [*]; done)), H', ⟨by have := HK1.out; omega⟩, ⟨by repeat (first | (with_reducible first | exact HB.out | apply below_alloc | apply pw_below_drewN | apply below_drew1 | refine below_set ?_ GE148.out) | exact HB.out)⟩⟩
          · rw [if_neg c5] at H
            exact absurd H (by simp)
        · rw [if_neg c4] at H
          exact absurd H (by simp)
      · rw [if_neg c3] at H
        have c3b0 : decide (x10_1 < (l0.length : Int)) = false := decide_eq_false c3
        clear c3
        simp only [Option.some.injEq, Prod.mk.injEq] at H
        obtain ⟨rfl, rfl⟩ := H
        go_wp2
        go_ret2
        exact ⟨by first | rfl | (simp [errW_none, errW_some] <;> rfl) | (simp [*, errW_none, errW_some] <;> rfl), by repeat (first | (with_reducible first | exact HB.out | apply below_alloc | apply pw_below_drewN | apply below_drew1) | exact HB.out)⟩

/-! ### strings_Cut: function 38 -/
-- FOR strings.Cut
def strings_Cut.f (a0 : ByteArray) (a1 : ByteArray) : Option (ByteArray × ByteArray × Bool) :=
  match a1.data.toList with
  | [c] => if a0.size ≤ 140737488355328 then some (Leaf.cutAt a0 (Lib.indexByte a0.data.toList c)) else none
  | _ => none
theorem strings_Cut.idx (s : ByteArray) (c : UInt8) (i : Int) (w : World) (h : Lib.indexByte s.data.toList c = i) :
    Calls Try.prog 56 #[.string s, .string ⟨#[c]⟩] w fun e w' => e = .returned (.int .i64 i) ∧ w' = w := h ▸ Try.stringslite_Index_one s c w
theorem strings_Cut.yes (s : ByteArray) (c : UInt8) (n : Nat) (w : World) (hs : s.size ≤ 140737488355328) (hn : n < s.size) (h : Lib.indexByte s.data.toList c = (n : Int)) :
    Calls Try.prog 49 #[.string s, .string ⟨#[c]⟩] w fun e w' => e = .returned (.tuple #[.string (s.extract 0 n), .string (s.extract (n + 1) s.size), .bool true]) ∧ Drawn0 w w' := by
  have H := Lib.hid h
  clear h
  go_enter Try.func49, Try.ntmps49
  go_wp2_with (go_at_call 56; refine (strings_Cut.idx _ _ _ _ H.out).mono ?_; rintro e w' ⟨rfl, rfl⟩)
  go_quiet (fail)
  go_wp2
  go_ret3
  exact ⟨rfl, ⟨_, rfl⟩⟩
theorem strings_Cut.no (s : ByteArray) (c : UInt8) (w : World) (h : Lib.indexByte s.data.toList c = -1) :
    Calls Try.prog 49 #[.string s, .string ⟨#[c]⟩] w fun e w' => e = .returned (.tuple #[.string s, .string ⟨#[]⟩, .bool false]) ∧ Drawn0 w w' := by
  have H := Lib.hid h
  clear h
  go_enter Try.func49, Try.ntmps49
  go_wp2_with (go_at_call 56; refine (strings_Cut.idx _ _ _ _ H.out).mono ?_; rintro e w' ⟨rfl, rfl⟩)
  go_ret3
  exact ⟨rfl, Drawn0.refl _⟩
theorem strings_Cut.calls (a0 : ByteArray) (a1 : ByteArray) (r1 : ByteArray) (r2 : ByteArray) (r3 : Bool) (w : World) (h : strings_Cut.f a0 a1 = some (r1, r2, r3)) :
    Calls Try.prog 38 #[.string a0, .string a1] w fun e w' => e = .returned (.tuple #[.string r1, .string r2, .bool r3]) ∧ Drawn0 w w' := by
  obtain ⟨⟨l⟩⟩ := a1
  unfold strings_Cut.f at h
  simp only at h
  split at h
  case h_2 => cases h
  rename_i c
  split at h
  case isFalse => cases h
  rename_i hs
  have h := Option.some.inj h
  have lite : Calls Try.prog 49 #[.string a0, .string ⟨#[c]⟩] w fun e w' => e = .returned (.tuple #[.string r1, .string r2, .bool r3]) ∧ Drawn0 w w' := by
    have hge := Lib.indexByte_ge a0.data.toList c
    rcases Leaf.indexByte_lt a0.data.toList c with hi | hi
    · have hsz : (a0.data.toList.length : Int) = (a0.size : Int) := by rw [data_length]
      by_cases h0 : 0 ≤ Lib.indexByte a0.data.toList c
      · obtain ⟨n, hn⟩ := Int.eq_ofNat_of_zero_le h0
        rw [Leaf.cutAt, if_pos h0, hn] at h
        cases h
        exact strings_Cut.yes a0 c n w hs (by omega) hn
      · have hm : Lib.indexByte a0.data.toList c = -1 := by omega
        rw [Leaf.cutAt, if_neg h0] at h
        cases h
        exact strings_Cut.no a0 c w hm
    · rw [Leaf.cutAt, if_neg (by omega)] at h
      cases h
      exact strings_Cut.no a0 c w hi
  have L := Lib.hid lite
  clear lite h
  go_enter Try.func38, Try.ntmps38
  go_wp2_with (go_at_call 49; refine L.out.mono ?_; rintro e w' ⟨rfl, hd⟩)
  have HD := Aside0.mk hd
  clear hd
  go_wp2
  go_ret3
  exact ⟨rfl, HD.out⟩

/-! ### norm_Split: function 25 -/
def norm_Split.f (a0 : ByteArray) : Option (ByteArray × ByteArray × Bool) := (strings_Cut.f a0 (⟨#[63]⟩ : ByteArray)).bind fun bt150 => (some (bt150.1, bt150.2.1, bt150.2.2))
set_option maxHeartbeats 8000000 in
set_option maxRecDepth 100000 in
theorem norm_Split.calls (a0 : ByteArray) (r1 : ByteArray) (r2 : ByteArray) (r3 : Bool) (w : World) (h : norm_Split.f a0 = some (r1, r2, r3)) :
    Calls Try.prog 25 #[.string a0] w fun e w' => e = .returned (.tuple #[.string r1, .string r2, .bool r3]) ∧ Drawn0 w w' := by
  have H : ((strings_Cut.f a0 (⟨#[63]⟩ : ByteArray)).bind fun bt150 => (some (bt150.1, bt150.2.1, bt150.2.2))) = some (r1, r2, r3) := h
  clear h
  replace H := Option.bind_eq_some_iff.mp H
  obtain ⟨⟨t150, t151, t152⟩, A20, H⟩ := H
  replace H : (some (t150, t151, t152)) = some (r1, r2, r3) := H
  have A2 := Aside0.mk A20
  clear A20
  simp only [Option.some.injEq, Prod.mk.injEq] at H
  obtain ⟨rfl, rfl, rfl⟩ := H
  go_enter Try.func25, Try.ntmps25
  go_wp2_with (first | ((with_reducible refine gate_callee (f := 38) rfl ?_); refine goesL_ (some 6) rfl rfl Try.func38 (by kernel_rfl) rfl #[.string a0, .string (⟨#[63]⟩ : ByteArray)] rfl (by (try simp only [List.map_toArray, List.map_cons, List.map_nil]); first | done | rfl | (simp only [List.length_drop, List.length_take]; rfl)) ?_; (with_reducible refine (strings_Cut.calls a0 (⟨#[63]⟩ : ByteArray) t150 t151 t152 _ A2.out).mono ?_); rintro e w' ⟨rfl, ⟨nd, rfl⟩⟩; refine ⟨_, rfl, ?_⟩))
  go_ret3
  exact ⟨by first | rfl | (simp; done) | (simp [*]; done) | (simp; exact Leaf.ne_nil_bool _) | (simp; rw [IntKind.wrap_u8]; exact congrArg (fun z => bits BinOp.or IntKind.i64 z _ % 256) (by unfold wrap64; exact IntKind.wrap_i64 _)), by repeat (first | exact Drawn0.refl _ | apply Drawn0.step)⟩

/-! ### glob_part_many: function 41 -/
def glob_part_many.f (a0_0 : Int) (a0_1 : Int) : Option (Bool) := some (decide (a0_0 ≥ 2))
set_option maxHeartbeats 8000000 in
set_option maxRecDepth 100000 in
theorem glob_part_many.calls (a0_0 : Int) (a0_1 : Int) (r : Bool) (w : World) (h : glob_part_many.f a0_0 a0_1 = some r) :
    Calls Try.prog 41 #[.agg #[.int .i64 a0_0, .int .u8 a0_1]] w fun e w' => e = .returned (.bool r) ∧ Below w.heap.size w w' := by
  have hu77 := Try.underlying77
  have HB := Aside0.mk (Below.refl w.heap.size w)
  have H : (some (decide (a0_0 ≥ 2))) = some r := h
  clear h
  obtain rfl := Option.some.inj H
  go_enter Try.func41, Try.ntmps41
  go_wp2_with (first | ((with_reducible refine gate_dst (N := 1) rfl ?_); refine box_event ?hg (N := 1) ?hd (cs := #[.int .i64 a0_0, .int .u8 a0_1]) (t := 77) ?hr ?_; (case hd => rfl); (case hg => rfl); (case hr => first | (go_simp; done) | (go_simp; rfl)); intro gb153 hg w2 hbox hb; have n0_ := Aside0.mk (below_step (by repeat (first | (with_reducible first | exact HB.out | apply below_alloc | apply pw_below_drewN | apply below_drew1) | exact HB.out)) hb); have n1_ := Aside0.mk (hbox); have n2_ := Aside0.mk ((by rw [hg]; exact (below_size (by repeat (first | (with_reducible first | exact HB.out | apply below_alloc | apply pw_below_drewN | apply below_drew1) | exact HB.out))) : w.heap.size ≤ gb153)); have n3_ := Aside0.mk ((by rw [hg]; exact (below_size (by repeat (first | (with_reducible first | exact HB.out | apply below_alloc | apply pw_below_drewN | apply below_drew1) | exact HB.out))) : w.heap.size ≤ gb153)); clear HB; have HB := n0_; have BK153 := n1_; have GW153 := n2_; have GE153 := n3_; clear n0_ n1_ n2_ n3_; clear hb hbox hg; have hcz3_0 : w2.cell? ⟨gb153, 0, none⟩ = some (.int .i64 a0_0) := (blk_cell BK153.out 0).trans rfl; have hcz3_1 : w2.cell? ⟨gb153, 1, none⟩ = some (.int .u8 a0_1) := (blk_cell BK153.out 1).trans rfl; have hfz3_0 := blk_frozen BK153.out 0; have hfz3_1 := blk_frozen BK153.out 1))
  go_ret
  exact ⟨by first | rfl | (simp [errW_none, errW_some] <;> rfl) | (simp [*, errW_none, errW_some] <;> rfl), by repeat (first | (with_reducible first | exact HB.out | apply below_alloc | apply pw_below_drewN | apply below_drew1 | refine below_set ?_ GE153.out) | exact HB.out)⟩

end Go.Proofs.Ytjliebggdphmpaa.G
