/- A reader: a list is read, its calls. -/
import Derived.Test.YthbapljhhglamaaCodeF
set_option linter.unusedVariables false
set_option linter.unusedSimpArgs false
namespace Go.Proofs.Ythbapljhhglamaa.Code
open Go.RowKit Go.Proofs.Ythbapljhhglamaa.G Go.Proofs.YthbapljhhglamaaW.PrintWords Go.Proofs.YthbapljhhglamaaW.PrintMore Go.Proofs.Ythbapljhhglamaa.Foot Go.Proofs.Ythbapljhhglamaa.CodeL Go.Proofs.Ythbapljhhglamaa.Leaf

theorem numGo_len : ∀ (ys : List Int) (i a n : Nat) (r : List Int), numGo i a ys = some (n, r) → r.length < ys.length := by
  intro ys
  induction ys with
  | nil => intro i a n r h; rw [numGo] at h; cases h
  | cons y ys ih =>
    intro i a n r h
    rw [numGo] at h
    split at h
    · split at h
      · split at h
        · injection h with h
          injection h with _ h
          subst h
          simp
        · cases h
      · have := ih _ _ _ _ h
        simp only [List.length_cons]
        omega
    · cases h
theorem numD_len {xs r : List Int} {n : Nat} (h : numD xs = some (n, r)) : r.length < xs.length := numGo_len xs 0 0 n r h
theorem textD_len {xs b r : List Int} (h : textD xs = some (b, r)) : b.length + r.length < xs.length := by
  unfold textD at h
  cases hn : numD xs with
  | none => rw [hn] at h; cases h
  | some nr =>
    obtain ⟨n, s⟩ := nr
    rw [hn] at h
    simp only at h
    split at h
    · have := numD_len hn
      injection h with h
      injection h with h1 h2
      subst h1 h2
      simp only [List.length_take, List.length_drop]
      omega
    · cases h
def fieldsS : Option (List Int) → List (S66) × Option (List Int)
  | none => ([], none)
  | some xs => match fieldsD xs with
    | none => ([], none)
    | some (l, r) => (l.map fieldOf, some r)
theorem fieldsS_bad {xs : List Int} (h : fieldsD xs = none) : fieldsS (some xs) = ([], none) := by unfold fieldsS; simp only [h]
theorem fieldsS_ok {xs r : List Int} {l : List (List Int × List Int)} (h : fieldsD xs = some (l, r)) : fieldsS (some xs) = (l.map fieldOf, some r) := by unfold fieldsS; simp only [h]
theorem fieldsD_long {xs r : List Int} {n : Nat} (hn : numD xs = some (n, r)) (hle : ¬ n ≤ r.length) : fieldsD xs = none := by unfold fieldsD; rw [hn]; simp only; rw [if_neg hle]
theorem fieldsD_num {xs r : List Int} {n : Nat} (hn : numD xs = some (n, r)) (hle : n ≤ r.length) : fieldsD xs = pairsD n r [] := by unfold fieldsD; rw [hn]; simp only; rw [if_pos hle]
theorem fieldsD_bad {xs : List Int} (hn : numD xs = none) : fieldsD xs = none := by unfold fieldsD; rw [hn]
theorem fieldsS_none {st : Option (List Int)} (h : (fieldsS st).2 = none) : (fieldsS st).1 = [] := by
  cases st with
  | none => rfl
  | some xs =>
    unfold fieldsS at h ⊢
    cases hn : fieldsD xs with
    | none => simp only [hn]
    | some nr =>
      obtain ⟨n, r⟩ := nr
      simp only [hn] at h
      cases h
set_option maxHeartbeats 4000000 in
set_option maxRecDepth 100000 in
theorem fields1_calls (p a b B : Nat) (xs : List Int) (w : World) (F : Nat → Prop) (hp : F p) (hF : ∀ k, F k → k < w.heap.size) (hnb : ¬ F b) (hna : ¬ F a) (hab : a ≠ b) (hB : B = w.heap.size) (ha : w.heap[a]? = some (.cells #[.pointer (some ⟨p, 0, none⟩)] 32 (0, 0))) (hb : w.heap[b]? = some (.cells #[.slice none 0 0] 48 (0, 0))) (hR : Rdo w p xs F) (hl : xs.length ≤ 1000000000) :
    Calls Try.prog 37 #[.pointer (some ⟨a, 0, none⟩), .pointer (some ⟨b, 0, none⟩)] w (ClosP p b w F (InBox k66 66 48 b B (fieldsS (some xs)).1) (fieldsS (some xs)).2) := by
  have ha0 := blk_cell ha 0
  have hap : a ≠ p := fun e => hna (e ▸ hp)
  have hbp : b ≠ p := fun e => hnb (e ▸ hp)
  have haB : a < B := by rw [hB]; exact blk_lt ha
  have hbB : b < B := by rw [hB]; exact blk_lt hb
  have HR := Lib.hid hR
  have HFl := Lib.hid hF
  have HFB := Lib.hid (show ∀ k, F k → k < B from fun k hk => by rw [hB]; exact hF k hk)
  have HBW := Lib.hid hB
  have HA := Lib.hid ha
  have HB := Lib.hid hb
  have HL := Lib.hid hl
  clear ha hb hR hF hB hl
  go_enter Try.func37, Try.ntmps37
  go_wp2_with fail
  refine (num_calls p xs w F HR.out).mono ?_
  rintro e w1 ⟨hk, hpost⟩
  have HK := Lib.hid (hk.mono (G := fun k => k = p ∨ k = b) (fun k h => .inl (.inl h)))
  cases hn : numD xs with
  | none =>
    rw [hn] at hpost
    have HT := Lib.hid (fieldsS_bad (fieldsD_bad hn))
    obtain ⟨rfl, r, hr⟩ := hpost
    have HR1 := Lib.hid hr
    clear hk hn hr
    go_wp2
    simp only [bodyPost]
    exact ⟨trivial, .bad HK.out (by rw [HT.out]) HR1.out⟩
  | some nr =>
    obtain ⟨n, r⟩ := nr
    rw [hn] at hpost
    obtain ⟨rfl, hr⟩ := hpost
    have ha1 := hk.blk HA.out hap
    have hb1 := hk.blk HB.out hbp
    have hac := blk_cell ha1 0
    have hrl : r.length ≤ 1000000000 := by have := numD_len hn; have := HL.out; omega
    obtain ⟨Ar, cr, hrb, _⟩ := id hr
    have hp0 : w1.cell? ⟨p, 0, none⟩ = some (.slice Ar r.length cr) := blk_cell hrb 0
    have hM : Mid p a b B w F r none 0 [] w1 := ⟨hr, ha1, hb1, Kd.R_nil _ _ _ _ _, HK.out⟩
    have HM := Aside0.mk hM
    have HR1 := Lib.hid hr
    by_cases hle : n ≤ r.length
    · have HT := Lib.hid (fieldsD_num hn hle)
      clear hk hn hr ha1 hb1 hrb hM HA HB
      go_wp2_with fail
      with_reducible refine (must_yes' _ _ (by simp <;> omega)).mono ?_
      rintro e w' ⟨rfl, rfl⟩
      go_wp2
      go_loopw [15] (fun v15 wr => ∃ (i : Nat) (ys : List Int) (A : Option Addr) (c : Nat) (accP : List (List Int × List Int)), v15 = .int .u64 (i : Int) ∧ i ≤ n ∧ Aside0 (accP.length = i) ∧ Aside0 (pairsD (n - i) ys accP = pairsD n r []) ∧ Aside0 (ys.length ≤ 1000000000) ∧ Aside0 (Mid p a b B w F ys A c (accP.map fieldOf) wr)) (fun v15 _ => n - (intOf v15).toNat)
      case atStart => exact ⟨0, r, none, 0, [], rfl, Nat.zero_le _, ⟨rfl⟩, ⟨rfl⟩, ⟨hrl⟩, HM⟩
      case round =>
        clear HM
        obtain ⟨i, ys, A, c, accP, rfl, hi, HI, HP, HY, HM⟩ := hrel
        have HBr := Lib.hid (show B ≤ wr.heap.size from by rw [HBW.out]; exact HM.out.keeps.size)
        by_cases hlt : i < n
        · obtain ⟨m, hm⟩ : ∃ m, n - i = m + 1 := ⟨n - i - 1, by omega⟩
          have hP := HP.out
          rw [hm, pairsD] at hP
          have HHM := Lib.hid hm
          clear hm
          cases ht1 : textD ys with
          | none =>
            rw [ht1] at hP
            have HT2 := Lib.hid (fieldsS_bad (HT.out.trans hP.symm))
            have H1 := Lib.hid ht1
            clear hP ht1
            go_wp2_with fail
            refine round_no1 p a b B ys w wr F A c (accP.map fieldOf) hp (fun k hk => HFl.out k hk) hap hbp hab (by have := HFB.out p hp; omega) HFB.out haB hbB hnb (by rw [HBW.out]; exact Nat.le_refl _) HBr.out HY.out H1.out (by rw [List.length_map, HI.out]; omega) HM.out _ _ _ _ _ _ _ _ _ _ _ _ _ _ _ _ _ _ _ _ _ _ _ _ _ _ _ ?_ ?_
            · exact fun ch x y w e h => by simp only [Exit.inBlock, Exit.then, bodyPost] at h ⊢; exact ⟨e ▸ h.1, h.2⟩
            · intro x w' r hx hr hk
              simp only [Exit.then, Exit.inBlock, bodyPost]
              exact ⟨hx, .bad hk (by rw [HT2.out]) hr⟩
          | some xr =>
            obtain ⟨x1, r1⟩ := xr
            rw [ht1] at hP
            simp only at hP
            have hr1l : r1.length ≤ 1000000000 := by have := textD_len ht1; have := HY.out; omega
            cases ht2 : textD r1 with
            | none =>
              rw [ht2] at hP
              have HT2 := Lib.hid (fieldsS_bad (HT.out.trans hP.symm))
              have H1 := Lib.hid ht1
              have H2 := Lib.hid ht2
              clear ht2
              clear hP ht1
              go_wp2_with fail
              refine round_no2 p a b B ys x1 r1 w wr F A c (accP.map fieldOf) hp (fun k hk => HFl.out k hk) hap hbp hab (by have := HFB.out p hp; omega) HFB.out haB hbB hnb (by rw [HBW.out]; exact Nat.le_refl _) HBr.out HY.out H1.out H2.out hr1l (by rw [List.length_map, HI.out]; omega) HM.out _ _ _ _ _ _ _ _ _ _ _ _ _ _ _ _ _ _ _ _ _ _ _ _ _ _ _ ?_ ?_
              · exact fun ch x y w e h => by simp only [Exit.inBlock, Exit.then, bodyPost] at h ⊢; exact ⟨e ▸ h.1, h.2⟩
              · intro x w' r hx hr hk
                simp only [Exit.then, Exit.inBlock, bodyPost]
                exact ⟨hx, .bad hk (by rw [HT2.out]) hr⟩
            | some xr2 =>
              obtain ⟨x2, r2⟩ := xr2
              rw [ht2] at hP
              simp only at hP
              have hr2l : r2.length ≤ 1000000000 := by have := textD_len ht2; omega
              have H1 := Lib.hid ht1
              have H2 := Lib.hid ht2
              have HP2 := Lib.hid hP
              clear ht1 ht2 hP
              go_wp2_with fail
              refine (round_yes p a b B ys x1 r1 x2 r2 w wr F A c (accP.map fieldOf) hp (fun k hk => HFl.out k hk) hap hbp hab (by have := HFB.out p hp; omega) HFB.out haB hbB hnb (by rw [HBW.out]; exact Nat.le_refl _) HBr.out HY.out H1.out H2.out hr1l (by rw [List.length_map, HI.out]; omega) HM.out _ _ _ _ _ _ _ _ _ _ _ _ _ _ _ _ _ _ _ _ _ _ _ _ _ _ _ ?_ ?_)
              · exact fun ch x y w e h => by simp only [Exit.inBlock, Exit.then, bodyPost] at h ⊢; exact ⟨e ▸ h.1, h.2⟩
              · intro A' c' w2 u17 u18 u19 u20 u21 u22 u23 u24 u25 u26 hM2
                have HM2 := Aside0.mk hM2
                clear hM2
                go_wp2
                go_roundw
                case rel => exact ⟨i + 1, r2, A', c', accP ++ [(x1, x2)], by go_num, by omega, ⟨by rw [List.length_append, HI.out]; rfl⟩, ⟨by rw [show n - (i + 1) = m by have := HHM.out; omega, HP2.out]⟩, ⟨hr2l⟩, ⟨by rw [List.map_append]; exact HM2.out⟩⟩
                case measure => simp [intOf]; omega
        · have hin : i = n := by omega
          subst hin
          have hP := HP.out
          rw [Nat.sub_self, pairsD] at hP
          have HT2 := Lib.hid (fieldsS_ok (HT.out.trans hP.symm))
          clear hP
          go_wp2
          go_end0
          rw [HT2.out]
          exact .ret HM.out.keeps ⟨_, HM.out.lst, HM.out.row⟩ rfl HM.out.rd
    · have HT := Lib.hid (fieldsS_bad (fieldsD_long hn hle))
      clear hk hn hr ha1 hb1 hrb hM HM
      go_wp2_with fail
      with_reducible refine (must_no' _ _ (by simp <;> omega)).mono ?_
      rintro e w' ⟨rfl, rfl⟩
      go_wp2
      simp only [bodyPost]
      exact ⟨trivial, .bad HK.out (by rw [HT.out]) HR1.out⟩
set_option maxHeartbeats 1000000 in
set_option maxRecDepth 100000 in
theorem Fields_calls (p : Nat) (st : Option (List Int)) (w : World) (F : Nat → Prop) (h : Rd p st w F) (hl : ∀ xs, st = some xs → xs.length ≤ 1000000000) :
    Calls Try.prog 24 #[.pointer (some ⟨p, 0, none⟩)] w fun e w' => ∃ v, e = .returned v ∧ Kd.R k66 66 w' 0 (fun k => w.heap.size ≤ k) v (fieldsS st).1 ∧ RdF p (fieldsS st).2 w F w' := by
  obtain ⟨hp, hF, h⟩ := h
  have hmf : ∀ (fn : Fn) (first cap : Array Value) (w : World), (Instr.makeFunc fn first cap).run Try.prog w = .ok (.func fn first cap) w := fun _ _ _ _ => rfl
  have HF := Lib.hid hF
  have HP := Lib.hid hp
  have HFW := Lib.hid (show ∀ k, F k → k < (boxW w p (.slice none 0 0) 48).heap.size from fun k hk => by rw [boxW_size]; have := hF k hk; omega)
  cases st with
  | none =>
    obtain ⟨v, hv⟩ := h
    have HV := Lib.hid (blk_below hv (boxW_below w p (.slice none 0 0) 48))
    clear hF hv hl
    go_enter Try.func24, Try.ntmps24
    go_wp2_with fail
    refine (try_no (boxW w p (.slice none 0 0) 48) p v (.func (.func 37) #[] #[.pointer (some ⟨w.heap.size, 0, none⟩), .pointer (some ⟨w.heap.size + 1, 0, none⟩)]) HV.out).mono ?_
    rintro e w1 ⟨rfl, hB⟩
    have HB := Lib.hid hB
    clear hB
    go_wp2
    go_ret
    exact ⟨_, rfl, Kd.R_nil _ _ _ _ _, .of_none HP.out HF.out (blk_below HV.out HB.out) ((Keeps.of_below (boxW_below _ _ _ _)).then_below HB.out)⟩
  | some xs =>
    have HR := Lib.hid (Rdo.below h hF (boxW_below w p (.slice none 0 0) 48))
    have HL := Lib.hid (hl xs rfl)
    clear hF h hl
    go_enter Try.func24, Try.ntmps24
    go_wp2_with fail
    refine (try_gen p (w.heap.size + 1) xs 37 #[.pointer (some ⟨w.heap.size, 0, none⟩), .pointer (some ⟨w.heap.size + 1, 0, none⟩)] (boxW w p (.slice none 0 0) 48) F (InBox k66 66 48 (w.heap.size + 1) (w.heap.size + 4) (fieldsS (some xs)).1) (fieldsS (some xs)).2 (fun args w => by simp [go_sem]) HP.out HFW.out HR.out (by rw [boxW_size]; omega) ?_ ?_).mono ?_
    · refine fields1_calls p w.heap.size (w.heap.size + 1) (w.heap.size + 4) xs _ F HP.out (fun k hk => by rw [tryW_size]; have := HFW.out k hk; omega) (fun hk => by have := HF.out _ hk; omega) (fun hk => by have := HF.out _ hk; omega) (by omega) (by rw [tryW_size, boxW_size]) (blk_below (boxW_box _ _ _ _) (tryW_below _ _)) (blk_below (boxW_var _ _ _ _) (tryW_below _ _)) (HR.out.below HFW.out (tryW_below _ _)) HL.out
    · exact fun w1 u h => h.set (by rw [boxW_size]; show w.heap.size + 1 ≠ w.heap.size + 2 + 1; omega) (by rw [boxW_size]; show w.heap.size + 2 + 1 < w.heap.size + 4; omega) u
    · rintro e w1 ⟨hk, ⟨rfl, ⟨v, hv, hRv⟩, r, hst, hr⟩ | ⟨rfl, hst, v, hv⟩⟩
      · have HK := Lib.hid (boxed (boxW_below _ _ _ _) (by omega) hk)
        have HST := Lib.hid hst
        have HR1 := Lib.hid hr
        have hc0 := blk_cell hv 0
        have HRV := Lib.hid hRv
        clear hk hst hr hv hRv
        go_wp2
        go_ret
        rw [HST.out]
        exact ⟨_, rfl, row_out HRV.out (by omega), .of_some HP.out HF.out HR1.out HK.out⟩
      · have HK := Lib.hid (boxed (boxW_below _ _ _ _) (by omega) hk)
        have HST := Lib.hid hst
        have HV := Lib.hid hv
        have H0 := Lib.hid (fieldsS_none hst)
        clear hk hst hv
        go_wp2
        go_ret
        rw [HST.out, H0.out]
        exact ⟨_, rfl, Kd.R_nil _ _ _ _ _, .of_none HP.out HF.out HV.out HK.out⟩
/-! Made, and done. -/
def doneS : Option (List Int) → Int
  | some [] => 0
  | _ => 20
set_option maxRecDepth 100000 in
theorem Done_calls (p : Nat) (st : Option (List Int)) (w : World) (F : Nat → Prop) (h : Rd p st w F) :
    Calls Try.prog 16 #[.pointer (some ⟨p, 0, none⟩)] w fun e w' => e = .returned (.int .i64 (doneS st)) ∧ w' = w := by
  obtain ⟨hp, hF, h⟩ := h
  cases st with
  | none =>
    obtain ⟨v, hv⟩ := h
    have h0 := blk_cell hv 0
    have h1 := blk_cell hv 1
    clear hv hF
    go_enter Try.func16, Try.ntmps16
    go_wp2
    go_ret
    exact ⟨rfl, rfl⟩
  | some xs =>
    obtain ⟨A, c, hb, _⟩ := h
    have h0 := blk_cell hb 0
    have h1 := blk_cell hb 1
    clear hb hF
    cases xs with
    | nil =>
      go_enter Try.func16, Try.ntmps16
      go_wp2
      go_ret
      exact ⟨rfl, rfl⟩
    | cons x r =>
      go_enter Try.func16, Try.ntmps16
      go_wp2
      go_ret
      exact ⟨rfl, rfl⟩
set_option maxRecDepth 100000 in
theorem NewReader_calls (A : Option Addr) (c : Nat) (b : List Int) (w : World) (hC : Kd.C (Kd.int .u8) w A b.length b) (h8 : Bytes8 b) (hl : b.length ≤ 1000000000) :
    Calls Try.prog 14 #[.slice A b.length c] w fun e w' => ∃ q, e = .returned (.pointer (some ⟨q, 0, none⟩)) ∧ Below w.heap.size w w' ∧ ∃ F', Rd q (some b) w' F' ∧ ∀ k, F' k → w.heap.size ≤ k := by
  have HC := Lib.hid hC
  have H8 := Lib.hid h8
  clear hC h8
  go_enter Try.func14, Try.ntmps14
  go_wp2_with fail
  refine (clone_bytes A c b w HC.out (by omega)).mono ?_
  rintro e w1 ⟨v, rfl, hv, hB⟩
  obtain ⟨A1, c1, rfl, hlc, hC1⟩ := Kd.R_reads hv
  have HB := Lib.hid hB
  have HV := Lib.hid hv
  have HC1 := Lib.hid hC1
  clear hv hB hC1
  go_wp2
  go_ret
  have hsz := HB.out.size
  refine ⟨w1.heap.size, rfl, HB.out.alloc hsz _, fun k => w.heap.size ≤ k ∧ k < w1.heap.size + 1, ⟨⟨hsz, by omega⟩, fun k hk => by simp; omega, A1, c1, blk_new w1 _, Kd.C_alloc HC1.out _, hlc, fun a ha => ?_, H8.out⟩, fun k hk => hk.1⟩
  subst ha
  have h1 : (Value.slice (some a) b.length c1).ownBlock = some a.block := rfl
  have h2 := Kd.R_lt HV.out _ h1
  have h3 := Kd.R_base HV.out _ h1
  exact ⟨⟨h3, by omega⟩, by omega⟩
end Go.Proofs.Ythbapljhhglamaa.Code
