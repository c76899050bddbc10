/- Counters put together: the program's. -/
import Derived.Test.YteebckekahnjiaaDoorStatS
set_option linter.unusedVariables false
set_option linter.unusedSimpArgs false
namespace Go.Proofs.YteebckekahnjiaaDoor.Stat
open Go.RowKit Go.Proofs.YteebckekahnjiaaDoor.G Go.Proofs.YteebckekahnjiaaDoorW.PrintWords Go.Proofs.YteebckekahnjiaaDoorW.PrintMore Go.Proofs.YteebckekahnjiaaDoor.Foot Go.Proofs.YteebckekahnjiaaDoor.StatL

/-- In the middle: the first k numbers of block q are put onto block p's. -/
structure MgI (T p q : Nat) (l m : List Int) (k : Nat) (w wr : World) : Prop where
  one : wr.heap[p]? = some (.cells (En (mg k l m)) T (0, 0))
  two : wr.heap[q]? = some (.cells (En (if p = q then mg k l m else m)) T (0, 0))
  own : p = q → l = m
  keep : Keeps (fun k => k = p) w wr
section
variable {T p q k : Nat} {l m : List Int} {w wr w' : World}
theorem MgI.drew (h : MgI T p q l m k w wr) : MgI T p q l m k w wr.drew := ⟨h.one, h.two, h.own, h.keep.drew⟩
theorem MgI.read (h : MgI T p q l m k w wr) (hk : k < 45) (hm : m.length = 45) : ∃ m2, wr.heap[q]? = some (.cells (En m2) T (0, 0)) ∧ m2.length = 45 ∧ nth m2 k = nth m k := by
  refine ⟨_, h.two, ?_, ?_⟩
  · split
    · exact mg_length ..
    · exact hm
  · split
    · rename_i e
      rw [h.own e]
      exact mg_own k m m hk
    · rfl
theorem MgI.step (h : MgI T p q l m k w wr) (hk : k < 45) (hb : w'.heap[p]? = some (.cells (En (bump (mg k l m) k (nth m k))) T (0, 0))) (hK : Keeps (fun k => k = p) wr w') : MgI T p q l m (k + 1) w w' := by
  have e : bump (mg k l m) k (nth m k) = mg (k + 1) l m := mg_step k l m hk
  rw [e] at hb
  refine ⟨hb, ?_, h.own, h.keep.trans hK (fun _ h => .inl h)⟩
  by_cases hpq : p = q
  · subst hpq; rw [if_pos rfl]; exact hb
  · have h2 := h.two
    rw [if_neg hpq] at h2 ⊢
    exact hK.blk h2 (fun e => hpq e.symm)
theorem MgI.start (h1 : w.heap[p]? = some (.cells (En l) T (0, 0))) (h2 : w.heap[q]? = some (.cells (En m) T (0, 0))) (hl : l.length = 45) : MgI T p q l m 0 w w := by
  have e : p = q → l = m := fun e => by
    subst e
    rw [h1] at h2
    injection h2 with h2
    injection h2 with h2
    have h3 := congrArg Array.toList h2
    simp only [En] at h3
    have inj : ∀ (a b : List Int), a.map (Value.int .i64) = b.map (Value.int .i64) → a = b := by
      intro a
      induction a with
      | nil => intro b h; cases b with
        | nil => rfl
        | cons => simp at h
      | cons x a ih => intro b h; cases b with
        | nil => simp at h
        | cons y b =>
          simp only [List.map_cons, List.cons.injEq, Value.int.injEq, true_and] at h
          rw [h.1, ih b h.2]
    exact inj l m h3
  refine ⟨by rw [mg_zero hl]; exact h1, ?_, e, Keeps.refl _ _⟩
  split
  · rename_i hpq; subst hpq; rw [mg_zero hl]; exact h1
  · exact h2
end
theorem mg_range {a b : Nat} {l m : List Int} (hl : Bd a l) (hm : Bd b m) (k : Nat) (hk : k < 45) (ha : a ≤ 1000) (hb : b ≤ 1000) :
    -9223372036854775808 ≤ nth (mg k l m) k + nth m k ∧ nth (mg k l m) k + nth m k ≤ 9223372036854775807 := by
  have h1 : nth (mg k l m) k = nth l k := mg_own k l m hk
  rw [h1]
  unfold nth
  by_cases h : k < 44
  · have := hl.lo k h
    have := hm.lo k h
    omega
  · obtain rfl : k = 44 := by omega
    have := hl.all
    have := hm.all
    omega
set_option maxHeartbeats 4000000 in
set_option maxRecDepth 100000 in
theorem merge_calls (p q a b : Nat) (l m : List Int) (w : World) (h1 : w.heap[p]? = some (OS l)) (h2 : w.heap[q]? = some (OS m)) (hl : Bd a l) (hm : Bd b m) (ha : a ≤ 1000) (hb : b ≤ 1000) :
    Calls Tryd.prog 13 #[.pointer (some ⟨p, 0, none⟩), .pointer (some ⟨q, 0, none⟩)] w fun e w' => e = .returned (.tuple #[]) ∧ w'.heap[p]? = some (OS (mg 45 l m)) ∧ Keeps (fun k => k = p) w w' := by
  have HBl := Lib.hid hl
  have HBm := Lib.hid hm
  have HM := Aside0.mk (MgI.start h1 h2 hl.len)
  clear h1 h2 hl hm
  go_enter Tryd.func13, Tryd.ntmps13
  go_wp2
  go_loopw [7] (fun v7 wr => ∃ i : Nat, v7 = .int .i64 (i : Int) ∧ i ≤ 6 ∧ Aside0 (MgI 56 p q l m i w wr)) (fun v7 _ => 6 - (intOf v7).toNat)
  case atStart => exact ⟨0, rfl, Nat.zero_le _, HM⟩
  case round =>
    clear HM
    obtain ⟨i, rfl, hi, HM⟩ := hrel
    by_cases hlt : i < 6
    · have hi0 : (0 : Int) ≤ (i : Int) := by omega
      have hi1 : (i : Int) < 6 := by omega
      have HD := Aside0.mk HM.out.drew
      have hrg := mg_range HBl.out HBm.out i (by omega) ha hb
      obtain ⟨m2, hq2, hl2, hn2⟩ := HD.out.read (by omega) HBm.out.len
      rw [← hn2] at hrg
      have HRG := Lib.hid hrg
      have HN2 := Lib.hid hn2
      have HQ2 := Lib.hid hq2
      have HL2 := Lib.hid hl2
      have hc2 := en_at hq2 i (by omega)
      have hc1 := en_at HD.out.one i (by rw [mg_length]; omega)
      clear hrg hn2 hq2 hl2 hc1 hc2
      go_wp2_with fail
      go_still_tail 11, (by kernel_rfl)
      still_call (loadAt q _ _ m2 _ HQ2.out (by rw [HL2.out]; omega))
      repeat still_step
      refine wpStill_nil ?_
      change wpList _ _ _ _ _ wr.drew
      generalize wr.drew = w4 at HD HQ2 ⊢
      go_wp2_with fail
      refine (addAt p _ _ (mg i l m) _ _ HD.out.one (by rw [mg_length]; omega) HRG.out).mono ?_
      rintro e w5 ⟨rfl, hb5, hk5⟩
      have HM5 := Aside0.mk (HD.out.step (by omega) (by rw [← HN2.out]; exact hb5) hk5)
      clear hb5 hk5 HD
      go_wp2_with fail
      go_roundw
      case rel => exact ⟨i + 1, by go_num, by omega, HM5⟩
      case measure => simp [intOf]; omega
    · have hin : i = 6 := by omega
      have hic : ((i : Nat) : Int) = 6 := by omega
      rw [hin] at HM
      rw [hic]
      clear hin hic hlt hi
      go_wp2_with fail
      go_loopw [23] (fun v23 wr => ∃ i : Nat, v23 = .int .i64 (i : Int) ∧ i ≤ 6 ∧ Aside0 (MgI 56 p q l m (6 + i) w wr)) (fun v23 _ => 6 - (intOf v23).toNat)
      case atStart => exact ⟨0, rfl, Nat.zero_le _, HM⟩
      case round =>
        clear HM
        obtain ⟨i, rfl, hi, HM⟩ := hrel
        by_cases hlt : i < 6
        · have hi0 : (0 : Int) ≤ (i : Int) := by omega
          have hi1 : (i : Int) < 6 := by omega
          have HD := Aside0.mk HM.out.drew
          have hrg := mg_range HBl.out HBm.out (6 + i) (by omega) ha hb
          obtain ⟨m2, hq2, hl2, hn2⟩ := HD.out.read (by omega) HBm.out.len
          rw [← hn2] at hrg
          have HRG := Lib.hid hrg
          have HN2 := Lib.hid hn2
          have HQ2 := Lib.hid hq2
          have HL2 := Lib.hid hl2
          have hc2 := en_at hq2 (6 + i) (by omega)
          have hc1 := en_at HD.out.one (6 + i) (by rw [mg_length]; omega)
          clear hrg hn2 hq2 hl2 hc1 hc2
          go_wp2_with fail
          go_still_tail 11, (by kernel_rfl)
          still_call (loadAt q _ _ m2 _ HQ2.out (by rw [HL2.out]; omega))
          repeat still_step
          refine wpStill_nil ?_
          change wpList _ _ _ _ _ wr.drew
          generalize wr.drew = w4 at HD HQ2 ⊢
          go_wp2_with fail
          refine (addAt p _ _ (mg (6 + i) l m) _ _ HD.out.one (by rw [mg_length]; omega) HRG.out).mono ?_
          rintro e w5 ⟨rfl, hb5, hk5⟩
          have HM5 := Aside0.mk (HD.out.step (by omega) (by rw [← HN2.out]; exact hb5) hk5)
          clear hb5 hk5 HD
          go_wp2_with fail
          go_roundw
          case rel => exact ⟨i + 1, by go_num, by omega, HM5⟩
          case measure => simp [intOf]; omega
        · have hin : i = 6 := by omega
          have hic : ((i : Nat) : Int) = 6 := by omega
          rw [hin] at HM
          rw [hic]
          clear hin hic hlt hi
          go_wp2_with fail
          go_loopw [39] (fun v39 wr => ∃ i : Nat, v39 = .int .i64 (i : Int) ∧ i ≤ 32 ∧ Aside0 (MgI 56 p q l m (12 + i) w wr)) (fun v39 _ => 32 - (intOf v39).toNat)
          case atStart => exact ⟨0, rfl, Nat.zero_le _, HM⟩
          case round =>
            clear HM
            obtain ⟨i, rfl, hi, HM⟩ := hrel
            by_cases hlt : i < 32
            · have hi0 : (0 : Int) ≤ (i : Int) := by omega
              have hi1 : (i : Int) < 32 := by omega
              have HD := Aside0.mk HM.out.drew
              have hrg := mg_range HBl.out HBm.out (12 + i) (by omega) ha hb
              obtain ⟨m2, hq2, hl2, hn2⟩ := HD.out.read (by omega) HBm.out.len
              rw [← hn2] at hrg
              have HRG := Lib.hid hrg
              have HN2 := Lib.hid hn2
              have HQ2 := Lib.hid hq2
              have HL2 := Lib.hid hl2
              have hc2 := en_at hq2 (12 + i) (by omega)
              have hc1 := en_at HD.out.one (12 + i) (by rw [mg_length]; omega)
              clear hrg hn2 hq2 hl2 hc1 hc2
              go_wp2_with fail
              go_still_tail 11, (by kernel_rfl)
              still_call (loadAt q _ _ m2 _ HQ2.out (by rw [HL2.out]; omega))
              repeat still_step
              refine wpStill_nil ?_
              change wpList _ _ _ _ _ wr.drew
              generalize wr.drew = w4 at HD HQ2 ⊢
              go_wp2_with fail
              refine (addAt p _ _ (mg (12 + i) l m) _ _ HD.out.one (by rw [mg_length]; omega) HRG.out).mono ?_
              rintro e w5 ⟨rfl, hb5, hk5⟩
              have HM5 := Aside0.mk (HD.out.step (by omega) (by rw [← HN2.out]; exact hb5) hk5)
              clear hb5 hk5 HD
              go_wp2_with fail
              go_roundw
              case rel => exact ⟨i + 1, by go_num, by omega, HM5⟩
              case measure => simp [intOf]; omega
            · have hin : i = 32 := by omega
              have hic : ((i : Nat) : Int) = 32 := by omega
              rw [hin] at HM
              rw [hic]
              clear hin hic hlt hi
              go_wp2_with fail
              have HD := Aside0.mk HM.out.drew
              have hrg := mg_range HBl.out HBm.out 44 (by omega) ha hb
              obtain ⟨m2, hq2, hl2, hn2⟩ := HD.out.read (by omega) HBm.out.len
              rw [show 12 + 32 = 44 from rfl] at hn2
              rw [← hn2] at hrg
              have HRG := Lib.hid hrg
              have HN2 := Lib.hid hn2
              have HQ2 := Lib.hid hq2
              have HL2 := Lib.hid hl2
              clear hrg hn2 hq2 hl2
              go_still_tail 7, (by kernel_rfl)
              still_call (loadAt q 44 _ m2 _ HQ2.out (by rw [HL2.out]; omega))
              repeat still_step
              refine wpStill_nil ?_
              change wpList _ _ _ _ _ wr.drew
              generalize wr.drew = w4 at HD HQ2 ⊢
              go_wp2_with fail
              refine (addAt p 44 _ (mg 44 l m) _ _ HD.out.one (by rw [mg_length]; omega) HRG.out).mono ?_
              rintro e w5 ⟨rfl, hb5, hk5⟩
              have HM5 := Aside0.mk (HD.out.step (k := 44) (by omega) (by rw [← HN2.out]; exact hb5) hk5)
              clear hb5 hk5 HD
              go_wp2_with fail
              go_end0
              exact ⟨rfl, HM5.out.one, HM5.out.keep⟩
end Go.Proofs.YteebckekahnjiaaDoor.Stat
