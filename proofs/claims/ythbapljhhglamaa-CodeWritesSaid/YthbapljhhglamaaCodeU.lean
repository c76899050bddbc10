/- The document's reader: lists. -/
import Derived.Test.YthbapljhhglamaaCodeS
import Derived.Test.YthbapljhhglamaaCodeM
set_option linter.unusedVariables false
set_option linter.unusedSimpArgs false
namespace Go.Proofs.Ythbapljhhglamaa.Code
open Go.RowKit Go.Proofs.Ythbapljhhglamaa.G Go.Proofs.YthbapljhhglamaaW.PrintWords Go.Proofs.YthbapljhhglamaaW.PrintMore Go.Proofs.Ythbapljhhglamaa.Foot Go.Proofs.Ythbapljhhglamaa.CodeL Go.Proofs.Ythbapljhhglamaa.Leaf

theorem textS_len {st : Option (List Int)} {M : Nat} (h : ∀ xs, st = some xs → xs.length ≤ M) : ∀ xs, (textS st).2 = some xs → xs.length ≤ M := by
  intro xs hx
  cases st with
  | none => cases hx
  | some ys =>
    unfold textS at hx
    cases ht : textD ys with
    | none => simp only [ht] at hx; cases hx
    | some p =>
      obtain ⟨b, r⟩ := p
      simp only [ht] at hx
      injection hx with hx
      subst hx
      have := textD_len ht
      have := h ys rfl
      omega
theorem pairs_step (m : Nat) (ys : List Int) (acc : List (List Int × List Int)) : pairsD (m + 1) ys acc = (textS (textS (some ys)).2).2.bind fun r => pairsD m r (acc ++ [((textS (some ys)).1, (textS (textS (some ys)).2).1)]) := by
  rw [pairsD]
  cases h1 : textD ys with
  | none => rw [textS_bad h1]; rfl
  | some p =>
    obtain ⟨a, r⟩ := p
    rw [textS_some h1]
    simp only
    cases h2 : textD r with
    | none => rw [textS_bad h2]; rfl
    | some p2 =>
      obtain ⟨b, s⟩ := p2
      rw [textS_some h2]
      rfl
theorem fieldsS_num_none {st : Option (List Int)} (h : (numS st).2 = none) : fieldsS st = ([], none) := by
  cases st with
  | none => rfl
  | some xs =>
    unfold numS at h
    cases hn : numD xs with
    | none => exact fieldsS_bad (fieldsD_bad hn)
    | some nr =>
      obtain ⟨n, r⟩ := nr
      simp only [hn] at h
      cases h
theorem fieldsS_num_some {st : Option (List Int)} {r : List Int} (h : (numS st).2 = some r) : fieldsS st = if (numS st).1 ≤ r.length then (match pairsD (numS st).1 r [] with | none => ([], none) | some (l, s) => (l.map fieldOf, some s)) else ([], none) := by
  cases st with
  | none => cases h
  | some xs =>
    unfold numS at h ⊢
    cases hn : numD xs with
    | none => simp only [hn] at h; cases h
    | some nr =>
      obtain ⟨n, s⟩ := nr
      simp only [hn] at h ⊢
      injection h with h
      subst h
      by_cases hle : n ≤ s.length
      · rw [if_pos hle]
        have he := fieldsD_num hn hle
        cases hp : pairsD n s [] with
        | none => exact fieldsS_bad (he.trans hp)
        | some p =>
          obtain ⟨l, t⟩ := p
          exact fieldsS_ok (he.trans hp)
      · rw [if_neg hle]
        exact fieldsS_bad (fieldsD_long hn hle)
def RefFieldsPost (W : World) (q : Nat) (st : Option (List Int)) (w : World) (e : Ending) (w' : World) : Prop :=
  ∃ v, e = .returned v ∧ Kd.R k66 66 w' 0 (fun k => w.heap.size ≤ k) v (fieldsS st).1 ∧ RfB W q (fieldsS st).2 w' ∧ Keeps (fun k => k = q) w w'
theorem ref_fields_bad {W : World} {q : Nat} {st : Option (List Int)} {w w' : World} {A : Option Addr} {n c : Nat} (h : fieldsS st = ([], none)) (hb : w'.heap[q]? = some (.cells #[.slice A n c, .bool true] 46 (0, 0))) (hk : Keeps (fun k => k = q) w w') : RefFieldsPost W q st w (.returned (.slice none 0 0)) w' := by
  refine ⟨_, rfl, ?_, ?_, hk⟩
  · rw [h]; exact Kd.R_nil _ _ _ _ _
  · rw [h]; exact ⟨A, n, c, hb⟩
/-- What the loop holds: some: all was read so far. -/
def Good_ (n : Nat) (r : List Int) (i : Nat) (st : Option (List Int)) (acc : List (S66)) : Prop := match st with
  | none => pairsD n r [] = none
  | some ys => ∃ accP : List (List Int × List Int), acc = accP.map fieldOf ∧ pairsD (n - i) ys accP = pairsD n r []
theorem Good_.step {n : Nat} {r : List Int} {i : Nat} {ys : List Int} {acc : List (S66)} (h : Good_ n r i (some ys) acc) (hi : i < n) : Good_ n r (i + 1) (textS (textS (some ys)).2).2 (acc ++ [fieldOf ((textS (some ys)).1, (textS (textS (some ys)).2).1)]) := by
  obtain ⟨accP, rfl, hp⟩ := h
  rw [show n - i = n - (i + 1) + 1 by omega, pairs_step] at hp
  cases hs : (textS (textS (some ys)).2).2 with
  | none => rw [hs] at hp; exact hp.symm
  | some z =>
    rw [hs] at hp
    exact ⟨accP ++ [_], by rw [List.map_append]; rfl, hp⟩
set_option maxHeartbeats 4000000 in
set_option maxRecDepth 100000 in
theorem ref_fields (W : World) (q : Nat) (st : Option (List Int)) (w : World) (hB : Below W.heap.size W w) (hq : W.heap.size ≤ q) (h : RfB W q st w) (hl : ∀ xs, st = some xs → xs.length ≤ 1000000000) : Calls Try.prog 25 #[.pointer (some ⟨q, 0, none⟩)] w (RefFieldsPost W q st w) := by
  have HB := Lib.hid hB
  have HR := Lib.hid h
  have HL := Lib.hid hl
  have hqw : q < w.heap.size := by obtain ⟨_, _, hb⟩ := h.blk; exact blk_lt hb
  clear hB h hl
  go_enter Try.func25, Try.ntmps25
  go_wp2_with fail
  refine (ref_num W q st w HB.out HR.out).mono ?_
  rintro e w1 ⟨rfl, hr, hk⟩
  have HK := Lib.hid hk
  cases hn : (numS st).2 with
  | none =>
    rw [hn] at hr
    have HT := Lib.hid (fieldsS_num_none hn)
    obtain ⟨A, n, c, hb⟩ := hr
    have h1 := blk_cell hb 1
    have hz := blk_frozen hb 1
    have HBK := Lib.hid hb
    clear hk hn hb
    go_wp2
    go_ret
    exact ref_fields_bad HT.out (blk_put HBK.out 1 (.bool true) rfl) (HK.out.trans (keeps_set q 1 _ _) (fun k h => .inl h))
  | some r =>
    rw [hn] at hr
    have HT := Lib.hid (fieldsS_num_some hn)
    have HRR := Lib.hid hr
    have hrl : r.length ≤ 1000000000 := numS_len hn HL.out
    obtain ⟨A, c, hb, hc, hC, h8⟩ := hr
    have h0 := blk_cell hb 0
    have h1 := blk_cell hb 1
    have hz := blk_frozen hb 1
    have HBK := Lib.hid hb
    generalize hnn : (numS st).1 = n at HT ⊢
    clear hk hn hb hC h8 hnn
    by_cases hle : n ≤ r.length
    · rw [if_pos hle] at HT
      have hdec : decide (r.length < n) = false := by simp; omega
      go_wp2
      go_loopw [4, 5] (fun v4 v5 wr => ∃ (i : Nat) (st1 : Option (List Int)) (A4 : Option Addr) (c4 : Nat) (acc : List (S66)), v5 = .int .u64 (i : Int) ∧ v4 = .slice A4 i c4 ∧ i ≤ n ∧ Aside0 (acc.length = i) ∧ Aside0 (Good_ n r i st1 acc) ∧ Aside0 (∀ xs, st1 = some xs → xs.length ≤ 1000000000) ∧ Aside0 (RfB W q st1 wr) ∧ Aside0 (Kd.R k66 66 wr 0 (fun k => w.heap.size ≤ k) (.slice A4 i c4) acc) ∧ Aside0 (Keeps (fun k => k = q) w wr)) (fun _ v5 _ => n - (intOf v5).toNat)
      case atStart => exact ⟨0, some r, none, 0, [], rfl, rfl, Nat.zero_le _, ⟨rfl⟩, ⟨[], rfl, rfl⟩, ⟨fun xs h => by injection h with h; subst h; exact hrl⟩, ⟨HRR.out⟩, ⟨Kd.R_nil _ _ _ _ _⟩, ⟨HK.out⟩⟩
      case round =>
        obtain ⟨i, st1, A4, c4, acc, rfl, rfl, hi, HI, HG, HL1, HR1, HA, HK1⟩ := hrel
        clear HRR h0 h1 hz HBK HK
        cases st1 with
        | none =>
          have HP := Lib.hid (show fieldsS st = ([], none) by rw [HT.out, show pairsD n r [] = none from HG.out])
          obtain ⟨A5, n5, c5, hb5⟩ := HR1.out
          have h1 := blk_cell hb5 1
          have HB5 := Lib.hid hb5
          clear hb5
          by_cases hlt : i < n
          · go_wp2
            go_ret
            exact ref_fields_bad HP.out HB5.out HK1.out
          · go_wp2
            go_ret
            exact ref_fields_bad HP.out HB5.out HK1.out
        | some ys =>
          obtain ⟨A5, c5, hb5, hr5⟩ := id HR1.out
          have h1 := blk_cell hb5 1
          clear hb5 hr5
          by_cases hlt : i < n
          · have HG2 := Lib.hid (HG.out.step hlt)
            have HL2 := Lib.hid (textS_len (textS_len HL1.out))
            have HL3 := Lib.hid (textS_len HL1.out)
            generalize hx1 : (textS (some ys)).1 = x1 at HG2
            generalize hs1 : (textS (some ys)).2 = s1 at HG2 HL2 HL3
            generalize hx2 : (textS s1).1 = x2 at HG2
            generalize hs2 : (textS s1).2 = s2 at HG2 HL2
            have HX1 := Lib.hid hx1
            have HS1 := Lib.hid hs1
            have HX2 := Lib.hid hx2
            have HS2 := Lib.hid hs2
            have HBr := Lib.hid (HB.out.trans (HK1.out.to_below HB.out.size (fun k hk => hk ▸ hq)))
            clear hx1 hs1 hx2 hs2
            go_wp2_with fail
            refine (ref_text W q (some ys) wr HBr.out hq HR1.out HL1.out).mono ?_
            rintro e w4 ⟨va, rfl, hRa, hr4, hk4⟩
            rw [HX1.out] at hRa
            rw [HS1.out] at hr4
            obtain ⟨Aa, ca, rfl, _, _⟩ := Kd.R_reads hRa
            have HCa := Lib.hid (CS.of_R (F := fun k => k < wr.heap.size) hRa (fun k hk => by omega))
            have HR4 := Lib.hid hr4
            have HK4 := Lib.hid hk4
            have HB4 := Lib.hid (HBr.out.trans (hk4.to_below HBr.out.size (fun k hk => hk ▸ hq)))
            clear hRa hr4 hk4
            go_wp2_with fail
            refine (ref_text W q s1 w4 HB4.out hq HR4.out HL3.out).mono ?_
            rintro e w5 ⟨vb, rfl, hRb, hr5, hk5⟩
            rw [HX2.out] at hRb
            rw [HS2.out] at hr5
            obtain ⟨Ab, cb, rfl, _, hCb⟩ := Kd.R_reads hRb
            have hqr : q < wr.heap.size := Nat.lt_of_lt_of_le hqw HK1.out.size
            have hCa := HCa.out w5 (hk5.mono (fun k hk => .inl (by subst hk; exact hqr)))
            have hcva := Kd.C_string (P := Try.prog) (A := Aa) (c := ca) Try.underlying22 Try.underlying5 Try.underlying9 hCa
            have hcvb := Kd.C_string (P := Try.prog) (A := Ab) (c := cb) Try.underlying22 Try.underlying5 Try.underlying9 hCb
            have HK45 := Lib.hid (HK4.out.trans hk5 (fun k h => .inl h))
            have HR5 := Lib.hid hr5
            have HA5 := Lib.hid (HK45.out.R (Kd.R_mono (Kd.R_bound HA.out) (ok' := fun k => w.heap.size ≤ k ∧ k < wr.heap.size) (fun k hk => ⟨hk.1, hk.2.2.1⟩)) (fun k hk => by omega))
            clear hRb hr5 hk5 hCa hCb
            go_wp2_with (first
              | ((with_reducible refine gate_builtin (b := .append) (xs := #[.tmp 43, .tmp 49]) rfl ?_); at_builtin; go_must (refine Kd.R_append k66 (w0 := w5) 0 rfl (.tmp 43) (.tmp 49) 48 66 (.agg #[.string ByteArray.empty, .string ByteArray.empty]) 32 rfl Try.underlying48 info_field rfl (by decide) (by decide) (.slice A4 i c4) acc (fieldOf (x1, x2)) [.string (strOfNums x1), .string (strOfNums x2)] (fun k => w.heap.size ≤ k) (fun _ => False) rfl rfl (k66_mkM _ _ _ _) (fun _ hk => hk.elim) ?aF (Kd.R_mono HA5.out (fun k hk => hk.1)) (Below.refl _ _) (Nat.zero_le _) ?aL ?_); (case aF => exact fun k hk => Nat.le_trans (Nat.le_trans HK1.out.size HK45.out.size) hk); (case aL => rw [HI.out]; omega); intro v6 w6 hR6 hB6 hg6 _; obtain ⟨A6, c6, he6⟩ := Kd.R_slice hR6; rw [List.length_append, HI.out] at he6; subst he6; have HR6 := Lib.hid hR6; have HG6 := Lib.hid hg6; clear hR6 hB6 hg6)
              | fail)
            go_roundw
            case rel => exact ⟨i + 1, s2, A6, c6, acc ++ [fieldOf (x1, x2)], by go_num, rfl, by omega, ⟨by rw [List.length_append, HI.out]; rfl⟩, ⟨HG2.out⟩, ⟨HL2.out⟩, ⟨HR5.out.move (HG6.out.block q (Nat.lt_of_lt_of_le hqr HK45.out.size) (fun e => by have := (HA5.out.1 q e.symm).1; omega))⟩, ⟨HR6.out⟩, ⟨(HK1.out.trans HK45.out (fun k h => .inl h)).grown HG6.out (fun k e => .inr (HA5.out.1 k e).1)⟩⟩
            case measure => simp [intOf]; omega
          · have hin : i = n := by omega
            subst hin
            have HP := Lib.hid (show fieldsS st = (acc, some ys) by
              obtain ⟨accP, e, hp⟩ := HG.out
              rw [Nat.sub_self, pairsD] at hp
              rw [HT.out, ← hp, e])
            go_wp2
            go_ret
            refine ⟨_, rfl, ?_, ?_, HK1.out⟩
            · rw [HP.out]; exact HA.out
            · rw [HP.out]; exact HR1.out
    · rw [if_neg hle] at HT
      go_wp2
      go_ret
      exact ref_fields_bad HT.out (blk_put HBK.out 1 (.bool true) rfl) (HK.out.trans (keeps_set q 1 _ _) (fun k h => .inl h))
end Go.Proofs.Ythbapljhhglamaa.Code
