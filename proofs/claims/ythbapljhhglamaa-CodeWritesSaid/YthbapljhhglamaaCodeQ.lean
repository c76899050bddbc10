/- The document's reader. -/
import Derived.Test.YthbapljhhglamaaCodeK
import Derived.Test.YthbapljhhglamaaFoot2
import Derived.Deep.DeepMust
set_option linter.unusedVariables false
set_option linter.unusedSimpArgs false
namespace Go.Proofs.Ythbapljhhglamaa.Code
open Go.RowKit Go.Proofs.Ythbapljhhglamaa.G Go.Proofs.YthbapljhhglamaaW.PrintWords Go.Proofs.YthbapljhhglamaaW.PrintMore Go.Proofs.Ythbapljhhglamaa.Foot Go.Proofs.Ythbapljhhglamaa.CodeL Go.Proofs.Ythbapljhhglamaa.Leaf

/-- The document's reader at block q: what is left of bytes that W holds; none: it is bad. -/
def RfB (W : World) (q : Nat) (st : Option (List Int)) (w : World) : Prop := match st with
  | some xs => ∃ A c, w.heap[q]? = some (.cells #[.slice A xs.length c, .bool false] 46 (0, 0)) ∧ xs.length ≤ c ∧ Kd.C (Kd.int .u8) W A xs.length xs ∧ Bytes8 xs
  | none => ∃ A n c, w.heap[q]? = some (.cells #[.slice A n c, .bool true] 46 (0, 0))
def Rf (W : World) (q : Nat) (st : Option (List Int)) : HP := fun w F => F = (fun k => k = q) ∧ RfB W q st w
theorem RfB.blk {W : World} {q : Nat} {st : Option (List Int)} {w : World} (h : RfB W q st w) : ∃ v b, w.heap[q]? = some (.cells #[v, .bool b] 46 (0, 0)) := by
  cases st with
  | none => obtain ⟨A, n, c, h⟩ := h; exact ⟨_, _, h⟩
  | some xs => obtain ⟨A, c, h, _⟩ := h; exact ⟨_, _, h⟩
theorem RfB.move {W : World} {q : Nat} {st : Option (List Int)} {w w' : World} (h : RfB W q st w) (hm : w'.heap[q]? = w.heap[q]?) : RfB W q st w' := by
  cases st with
  | none => obtain ⟨A, n, c, h⟩ := h; exact ⟨A, n, c, hm.trans h⟩
  | some xs => obtain ⟨A, c, h, r⟩ := h; exact ⟨A, c, hm.trans h, r⟩
instance {W : World} {q : Nat} {st : Option (List Int)} : Firm (Rf W q st) where
  move := by
    rintro w w' F ⟨rfl, h⟩ hm
    exact ⟨rfl, h.move (hm q rfl)⟩
  lt := by
    rintro w F ⟨rfl, h⟩ k hk
    obtain ⟨v, b, hb⟩ := h.blk
    subst hk
    exact blk_lt hb
theorem numGo_at {xs : List Int} {i n : Nat} (h : i < xs.length) : numGo i n (xs.drop i) = numGo i n (xs.getD i 0 :: xs.drop (i + 1)) := by
  rw [List.drop_eq_getElem_cons h, List.getD_eq_getElem?_getD, List.getElem?_eq_getElem h]; rfl
def RefPost (W : World) (q : Nat) (st : Option (List Int)) (w : World) (e : Ending) (w' : World) : Prop :=
  e = .returned (.int .u64 (((numS st).1 : Nat) : Int)) ∧ RfB W q (numS st).2 w' ∧ Keeps (fun k => k = q) w w'
theorem ref_bad {W : World} {q : Nat} {st : Option (List Int)} {w w' : World} {A : Option Addr} {n c : Nat} (h : numS st = (0, none)) (hb : w'.heap[q]? = some (.cells #[.slice A n c, .bool true] 46 (0, 0))) (hk : Keeps (fun k => k = q) w w') : RefPost W q st w (.returned (.int .u64 0)) w' := by
  unfold RefPost
  rw [h]
  exact ⟨rfl, ⟨A, n, c, hb⟩, hk⟩
theorem ref_ret {W : World} {q : Nat} {xs r : List Int} {w w' : World} {A : Option Addr} {c m : Nat} {v : Int} (h : numD xs = some (m, r)) (hv : v = (m : Int)) (hb : w'.heap[q]? = some (.cells #[.slice A r.length c, .bool false] 46 (0, 0))) (hc : r.length ≤ c) (hC : Kd.C (Kd.int .u8) W A r.length r) (h8 : Bytes8 r) (hk : Keeps (fun k => k = q) w w') :
    RefPost W q (some xs) w (.returned (.int .u64 v)) w' := by
  subst hv
  unfold RefPost
  have hs : numS (some xs) = (m, some r) := by unfold numS; simp only [h]
  rw [hs]
  exact ⟨rfl, ⟨A, c, hb, hc, hC, h8⟩, hk⟩
theorem keeps_set (q o : Nat) (w : World) (u : Value) : Keeps (fun k => k = q) w (w.setCell ⟨q, o, none⟩ u) := (Keeps.refl (fun k => k = q) w).setCell (p := ⟨q, o, none⟩) (.inl rfl) u
theorem and0 : bits .and .u8 0 127 = 0 := byte_low' 0 (by decide)
theorem numS_bad {xs : List Int} (h : numD xs = none) : numS (some xs) = (0, none) := by unfold numS; simp only [h]
theorem wrapi (k i : Nat) (hi : i ≤ 10) : (7 * (i : Int) + 7) = 7 * ((i + 1 : Nat) : Int) := by omega
set_option maxHeartbeats 4000000 in
set_option maxRecDepth 100000 in
theorem ref_num (W : World) (q : Nat) (st : Option (List Int)) (w : World) (hB : Below W.heap.size W w) (h : RfB W q st w) : Calls Try.prog 21 #[.pointer (some ⟨q, 0, none⟩)] w (RefPost W q st w) := by
  cases st with
  | none =>
    obtain ⟨A, n, c, hb⟩ := h
    have h0 := blk_cell hb 0
    have h1 := blk_cell hb 1
    have hz := blk_frozen hb 1
    have HB := Lib.hid hb
    clear hb hB
    go_enter Try.func21, Try.ntmps21
    go_wp2
    refine wp_loop_rounds 1 ?_
    rw [rounds_succ]
    go_wp2
    go_ret
    exact ref_bad rfl (blk_put HB.out 1 (.bool true) rfl) (keeps_set _ _ _ _)
  | some xs =>
    obtain ⟨A, c, hb, hc, hC, h8⟩ := h
    have h0 := blk_cell hb 0
    have h1 := blk_cell hb 1
    have hz0 := blk_frozen hb 0
    have hz := blk_frozen hb 1
    have HB := Lib.hid hb
    have H8 := Lib.hid h8
    have HC := Lib.hid hC
    have HCw := Lib.hid (Kd.C_below hC hB)
    have hlm : xs.length ≤ 9223372036854775807 := hC.2.1
    clear hb hB h8 hC
    go_enter Try.func21, Try.ntmps21
    go_wp2
    go_loop [3, 4, 5] (fun v3 v4 v5 => ∃ i n : Nat, i ≤ 9 ∧ i ≤ xs.length ∧ v5 = .int .i64 (i : Int) ∧ v4 = .int .i64 (7 * (i : Int)) ∧ v3 = .int .u64 (n : Int) ∧ Aside0 (n < 2 ^ (7 * i)) ∧ Aside0 (numGo i n (xs.drop i) = numD xs)) (fun _ _ v5 => 10 - (intOf v5).toNat)
    case atStart => exact ⟨0, 0, by omega, Nat.zero_le _, rfl, rfl, rfl, ⟨by decide⟩, ⟨rfl⟩⟩
    case round =>
      obtain ⟨i, n, hi, hix, rfl, rfl, rfl, HN, HG⟩ := hrel
      by_cases hlt : i < xs.length
      · obtain ⟨ad, rfl, hx⟩ := byte_at HCw.out i hlt
        have hm := H8.out _ (List.getElem_mem (l := xs) hlt)
        have hg : xs.getD i 0 = xs[i] := by rw [List.getD_eq_getElem?_getD, List.getElem?_eq_getElem hlt]; rfl
        rw [← hg] at hm
        have HGA := Lib.hid ((numGo_at hlt).symm.trans HG.out)
        obtain ⟨k, hk, hkx⟩ : ∃ k : Nat, k < 256 ∧ xs.getD i 0 = (k : Int) := ⟨(xs.getD i 0).toNat, by omega, by omega⟩
        rw [hkx] at hx HGA
        have hlow := byte_low' k hk
        clear hm hg hkx
        obtain ⟨A', hA⟩ : ∃ A', A' = if c = i + 1 then some ad else (some ad : Option Addr).map (·.add ((i + 1) * 1)) := ⟨_, rfl⟩
        have hsl := cut_from (P := Try.prog) 22 5 .i64 Try.underlying22 infoU8.1 1 infoU8.2 (some ad) xs.length c ((i : Int) + 1) (by omega) (by omega)
        rw [show ((i : Int) + 1).toNat = i + 1 by omega, ← hA] at hsl
        have hcc := Kd.C_drop HC.out (show i + 1 ≤ xs.length by omega) hc
        rw [show (Kd.int .u8).sz = 1 from rfl, ← hA] at hcc
        have HCC := Lib.hid hcc
        have HO := Lib.hid (fun hi9 => or_next n k i HN.out hi9)
        clear hA hcc
        by_cases h9 : i < 9
        · have h9b : ((i : Int) == 9) = false := beq_eq_false_iff_ne.2 (by omega)
          by_cases hk1 : k < 128
          · by_cases hz : k = 0
            · by_cases hi0 : i = 0
              · have hi00 : i ≤ 0 := by omega
                have hxne : ¬ xs = [] := fun e => by rw [e] at hlt; simp at hlt
                have HI0 := Lib.hid hi0
                subst hz
                clear hi0
                have HRT := Lib.hid (HGA.out.symm.trans (numGo_ret (.inl h9) hk1 (.inr HI0.out)))
                go_wp2
                go_ret
                exact ref_ret HRT.out (by have h0 := HO.out (.inl h9); simp [and0, IntKind.wrap_u64] at h0 ⊢; exact h0) (by rw [List.length_drop]; exact blk_put HB.out 0 _ rfl) (by rw [List.length_drop]; omega) HCC.out (fun y hy => H8.out y (List.mem_of_mem_drop hy)) (keeps_set _ _ _ _)
              · have hi00 : 0 < i := by omega
                subst hz
                have HBD := Lib.hid (numS_bad (HGA.out.symm.trans (numGo_bad (.inr ⟨rfl, hi0⟩))))
                go_wp2
                go_ret
                exact ref_bad HBD.out (blk_put HB.out 1 (.bool true) rfl) (keeps_set _ _ _ _)
            · have HRT := Lib.hid (HGA.out.symm.trans (numGo_ret (.inl h9) hk1 (.inl hz)))
              go_wp2
              go_ret
              exact ref_ret HRT.out (by first | exact HO.out (.inl h9) | (rw [← HO.out (.inl h9), show (k : Int) % 128 = (k : Int) by omega])) (by rw [List.length_drop]; exact blk_put HB.out 0 _ rfl) (by rw [List.length_drop]; omega) HCC.out (fun y hy => H8.out y (List.mem_of_mem_drop hy)) (keeps_set _ _ _ _)
          · have HGN := Lib.hid ((numGo_next (n := n) (r := xs.drop (i + 1)) h9 (by omega : 128 ≤ k) hk).symm.trans HGA.out)
            have HL := Lib.hid (next_lt n k i HN.out)
            go_wp2
            go_round
            case rel => exact ⟨i + 1, _, by omega, by omega, by go_num, by rw [wrapi k i (by omega)], by rw [HO.out (.inl h9)], ⟨HL.out⟩, ⟨HGN.out⟩⟩
            case measure => simp [intOf]; omega
        · have hi9 : i = 9 := by omega
          have h9b : ((i : Int) == 9) = true := beq_iff_eq.2 (by omega)
          have hi99 : 9 ≤ i := by omega
          have HI9 := Lib.hid hi9
          clear hi9
          by_cases hk1 : k ≤ 1
          · by_cases hz : k = 0
            · subst hz
              have HBD := Lib.hid (numS_bad (HGA.out.symm.trans (numGo_bad (.inr ⟨rfl, by omega⟩))))
              go_wp2
              go_ret
              exact ref_bad HBD.out (blk_put HB.out 1 (.bool true) rfl) (keeps_set _ _ _ _)
            · have HRT := Lib.hid (HGA.out.symm.trans (numGo_ret (.inr ⟨HI9.out, hk1⟩) (by omega) (.inl hz)))
              go_wp2
              go_ret
              exact ref_ret HRT.out (by first | exact HO.out (.inr ⟨HI9.out, by omega⟩) | (rw [← HO.out (.inr ⟨HI9.out, by omega⟩), show (k : Int) % 128 = (k : Int) by omega])) (by rw [List.length_drop]; exact blk_put HB.out 0 _ rfl) (by rw [List.length_drop]; omega) HCC.out (fun y hy => H8.out y (List.mem_of_mem_drop hy)) (keeps_set _ _ _ _)
          · have HBD := Lib.hid (numS_bad (HGA.out.symm.trans (numGo_bad (.inl ⟨HI9.out, by omega⟩))))
            go_wp2
            go_ret
            exact ref_bad HBD.out (blk_put HB.out 1 (.bool true) rfl) (keeps_set _ _ _ _)
      · have hil : i = xs.length := by omega
        have HBD := Lib.hid (numS_bad (by rw [← HG.out, hil, List.drop_length]; rfl : numD xs = none))
        go_wp2
        go_ret
        exact ref_bad HBD.out (blk_put HB.out 1 (.bool true) rfl) (keeps_set _ _ _ _)
end Go.Proofs.Ythbapljhhglamaa.Code
