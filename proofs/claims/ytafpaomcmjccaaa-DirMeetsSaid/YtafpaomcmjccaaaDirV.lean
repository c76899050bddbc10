/- Those of a kind taken out of a row of one's own. -/
import Derived.Test.YtafpaomcmjccaaaDirU
set_option linter.unusedVariables false
set_option linter.unusedSimpArgs false
namespace Go.Proofs.Ytafpaomcmjccaaa.Dir
open Go.RowKit Go.Proofs.Ytafpaomcmjccaaa.G Go.Proofs.YtafpaomcmjccaaaW.PrintWords Go.Proofs.YtafpaomcmjccaaaW.PrintMore Go.Proofs.Ytafpaomcmjccaaa.Foot
/-- In the middle of the sweep: i are kept of the first j. -/
structure Swp (p : S55 → Bool) (xs : List S55) (i j : Nat) (M : List S55) : Prop where
  lt : i < j
  le : j ≤ xs.length
  len : M.length = xs.length
  kept : M.take i = (xs.take j).filter fun x => !p x
  rest : M.drop j = xs.drop j
section
variable {p : S55 → Bool} {xs M : List S55} {i j : Nat}
theorem Swp.start (h : xs.findIdx? p = some i) : Swp p xs i (i + 1) xs := by
  rw [List.findIdx?_eq_some_iff_getElem] at h
  obtain ⟨hi, hp, hb⟩ := h
  refine ⟨by omega, hi, rfl, ?_, rfl⟩
  rw [List.take_succ_eq_append_getElem hi, List.filter_append, List.filter_cons, hp]
  simp only [Bool.not_true, Bool.false_eq_true, if_false, List.filter_nil, List.append_nil]
  rw [List.filter_eq_self.2]
  intro x hx
  obtain ⟨k, hk, rfl⟩ := List.mem_take_iff_getElem.1 hx
  have := hb k (by omega)
  simpa using this
theorem Swp.at_ (h : Swp p xs i j M) {x : S55} (hx : xs[j]? = some x) : M[j]? = some x := by
  have := congrArg (fun l : List S55 => l[0]?) h.rest
  simp only [List.getElem?_drop, Nat.add_zero] at this
  rw [this]; exact hx
theorem Swp.take_succ {x : S55} (hx : xs[j]? = some x) : xs.take (j + 1) = xs.take j ++ [x] := by rw [List.take_add_one, hx]; rfl
theorem Swp.drop_succ (h : Swp p xs i j M) : M.drop (j + 1) = xs.drop (j + 1) := by
  have := congrArg (fun l : List S55 => l.drop 1) h.rest
  simpa only [List.drop_drop] using this
theorem Swp.gone (h : Swp p xs i j M) {x : S55} (hx : xs[j]? = some x) (hp : p x = true) : Swp p xs i (j + 1) M := by
  have hj := (List.getElem?_eq_some_iff.1 hx).1
  refine ⟨by have := h.lt; omega, hj, h.len, ?_, h.drop_succ⟩
  rw [Swp.take_succ hx, List.filter_append, ← h.kept]
  simp [hp]
theorem Swp.stay (h : Swp p xs i j M) {x : S55} (hx : xs[j]? = some x) (hp : p x = false) : Swp p xs (i + 1) (j + 1) (M.set i x) := by
  have hj := (List.getElem?_eq_some_iff.1 hx).1
  have hl := h.len
  have hlt := h.lt
  refine ⟨by omega, hj, by rw [List.length_set]; exact h.len, ?_, ?_⟩
  · rw [Swp.take_succ hx, List.filter_append, ← h.kept, List.take_add_one, List.getElem?_set_self (by omega), List.take_set, List.set_eq_of_length_le (by rw [List.length_take]; omega)]
    simp [hp]
  · rw [List.drop_set, if_pos (by omega)]
    exact h.drop_succ
theorem Swp.done (h : Swp p xs i xs.length M) (z : S55) : (Fl.laid M i (List.replicate (xs.length - i) z)).take i = xs.filter fun x => !p x := by
  have hl := h.len
  have hlt := h.lt
  unfold Fl.laid
  rw [List.append_assoc, List.take_append_of_le_length (by rw [List.length_take]; omega), List.take_take, Nat.min_self, h.kept, List.take_of_length_le (Nat.le_refl _)]
end
def SwpI (p : S55 → Bool) (xs : List S55) (g : Nat) (T : List Value) (w : World) (i j : Nat) (wr : World) : Prop := ∃ M, Swp p xs i j M ∧ dE.BlkT 55 wr g M T ∧ Keeps (fun k => k = g) w wr
set_option maxHeartbeats 4000000 in
set_option maxRecDepth 100000 in
theorem DeleteFunc_calls (w : World) (base : Nat) (v : Value) (xs : List S55) (hR : dE.R 55 w base v xs) (hl : xs.length ≤ 100000) (hok : ∀ x ∈ xs, OkE x) (a b c : Nat) (f t u : Int) (hB : Bxs w a b c f t u) (hf : 0 ≤ f ∧ f < 4294967296) (ht : 0 ≤ t ∧ t < 4294967296)
    (hab : v.ownBlock ≠ some a ∧ v.ownBlock ≠ some b ∧ v.ownBlock ≠ some c) :
    Calls Try.prog 42 #[v, delV a b c] w (CutPost base v (xs.filter fun x => !elder f t u x) w) := by
  obtain ⟨A, cp, rfl, hncp, hcp, hC, _⟩ := Fl.R_slice hR
  obtain ⟨n, hn⟩ : ∃ n, xs.length = n := ⟨_, rfl⟩
  rw [hn] at hR hab
  have HR := Aside0.mk hR
  have HOK := Lib.hid hok
  have HB := Aside0.mk hB
  have HF := Lib.hid hf
  have HT := Lib.hid ht
  have HC := Aside0.mk hC
  have HN := Lib.hid hn
  have HAB := Lib.hid hab
  rw [hn] at hl ⊢
  clear hR hok hB hf ht hC hncp hn hab
  by_cases hfi : xs.findIdx? (elder f t u) = none
  · have HFI := Lib.hid (show firstI (elder f t u) xs = -1 by unfold firstI; rw [hfi])
    have HE := Lib.hid (show (xs.filter fun x => !elder f t u x) = xs from List.filter_eq_self.2 (fun x hx => by have := List.findIdx?_eq_none_iff.1 hfi x hx; rw [this]; rfl))
    clear hfi
    go_enter Try.func42, Try.ntmps42
    go_wp2_with fail
    with_reducible refine (IndexFunc_calls _ A n cp xs HN.out HC.out hl HOK.out a b c f t u HB.out HF.out HT.out).mono ?_
    rintro e w1 ⟨rfl, hb1⟩
    rw [HFI.out]
    have HW := Aside0.mk hb1
    clear hb1
    go_wp2
    go_ret
    exact ⟨_, rfl, by rw [HE.out]; exact Fl.R_below HR.out HW.out, Keeps.of_below HW.out⟩
  · obtain ⟨i0, hi0⟩ := Option.ne_none_iff_exists'.1 hfi
    have HFI := Lib.hid (show firstI (elder f t u) xs = (i0 : Int) by unfold firstI; rw [hi0])
    have HS := Lib.hid (Swp.start hi0)
    have hlt0 : i0 < n := by rw [← HN.out]; exact (List.findIdx?_eq_some_iff_getElem.1 hi0).1
    clear hfi hi0
    go_enter Try.func42, Try.ntmps42
    go_wp2_with fail
    with_reducible refine (IndexFunc_calls _ A n cp xs HN.out HC.out hl HOK.out a b c f t u HB.out HF.out HT.out).mono ?_
    rintro e w1 ⟨rfl, hb1⟩
    rw [HFI.out]
    obtain ⟨g, cap, T, hv, hgb, hnc, hcap, hBT, hTl⟩ := Fl.R_blkT (Fl.R_below HR.out hb1) (by rw [HN.out]; omega)
    rw [HN.out] at hv hnc hTl
    injection hv with e1 e2 e3
    subst e1
    subst e3
    have HW := Aside0.mk hb1
    have HG := Lib.hid hgb
    have HTL := Lib.hid hTl
    have HBT := Aside0.mk hBT
    have hm1 : ((i0 : Int) == -1) = false := by rw [beq_eq_false_iff_ne]; omega
    have hga : g ≠ a ∧ g ≠ b ∧ g ≠ c := ⟨fun e => HAB.out.1 (by rw [e]; rfl), fun e => HAB.out.2.1 (by rw [e]; rfl), fun e => HAB.out.2.2 (by rw [e]; rfl)⟩
    have HGA := Lib.hid hga
    clear hb1 hgb hTl hBT hga
    go_wp2_with fail
    go_loopw [5, 6] (fun v5 v6 wr => ∃ i j : Nat, v5 = .int .i64 (i : Int) ∧ v6 = .int .i64 (j : Int) ∧ i < j ∧ j ≤ n ∧ Aside0 (SwpI (elder f t u) xs g T w i j wr)) (fun _ v6 _ => n - (intOf v6).toNat)
    case atStart => exact ⟨i0, i0 + 1, rfl, by go_num, by omega, by omega, ⟨xs, HS.out, HBT.out, Keeps.of_below HW.out⟩⟩
    case round =>
      clear HW HBT
      obtain ⟨i, j, rfl, rfl, hij, hj, HI⟩ := hrel
      obtain ⟨M, hsw, hbt, hkp⟩ := HI.out
      have HSW := Aside0.mk hsw
      have HBT := Aside0.mk hbt
      have HKP := Aside0.mk hkp
      clear HI hsw hbt hkp
      by_cases hlt : j < n
      · have hj0 : (0 : Int) ≤ (j : Int) := by omega
        have hj1 : (j : Int) < (n : Int) := by omega
        have hii0 : (0 : Int) ≤ (i : Int) := by omega
        have hii1 : (i : Int) < (n : Int) := by omega
        obtain ⟨x, hx⟩ : ∃ x, xs[j]? = some x := ⟨_, List.getElem?_eq_getElem (by rw [HN.out]; exact hlt)⟩
        obtain ⟨⟨h0, h1, h2, h3⟩, _⟩ := BlkT_cells HBT.out j x (HSW.out.at_ hx)
        have HX := Lib.hid hx
        have HO := Lib.hid (HOK.out x (List.mem_of_getElem? hx))
        have HB2 := Aside0.mk (HB.out.move (w' := wr) (HKP.out.block _ (blk_lt HB.out.b0) (Ne.symm HGA.out.1)) (HKP.out.block _ (blk_lt HB.out.b1) (Ne.symm HGA.out.2.1)) (HKP.out.block _ (blk_lt HB.out.b2) (Ne.symm HGA.out.2.2)))
        clear hx
        go_wp2_with fail
        have hbx := blk_new wr (.cells #[.int .u16 x.f0, .int .u32 x.f1, .int .u16 x.f2, .int .u64 x.f3] 55)
        have HA1 := Aside0.mk (below_alloc (Below.refl wr.heap.size wr) (.cells #[.int .u16 x.f0, .int .u32 x.f1, .int .u16 x.f2, .int .u64 x.f3] 55))
        have HB3 := Aside0.mk (HB2.out.below HA1.out)
        have hgs := blk_lt HBT.out
        generalize hh : wr.heap.size = h at hbx hgs ⊢
        generalize wr.alloc (.cells #[.int .u16 x.f0, .int .u32 x.f1, .int .u16 x.f2, .int .u64 x.f3] 55) = w2 at hbx HA1 HB3 ⊢
        with_reducible refine (elder_calls _ a b c f t u x HB3.out HO.out HF.out HT.out).mono ?_
        rintro e w3 ⟨rfl, hb3⟩
        have HBX := Aside0.mk (blk_below hbx hb3)
        have HB13 := Aside0.mk (show Below wr.heap.size wr w3 from HA1.out.trans (hb3.mono HA1.out.size))
        have HBT3 := Aside0.mk (show dE.BlkT 55 w3 g M T from blk_below HBT.out HB13.out)
        have HKP3 := Aside0.mk (HKP.out.then_below HB13.out)
        obtain ⟨Bq, hBe⟩ : ∃ Bq, elder f t u x = Bq := ⟨_, rfl⟩
        rw [hBe]
        have HBE := Lib.hid hBe
        clear hBe hb3 hbx hh h0 h1 h2 h3
        cases Bq with
        | true =>
          go_wp2
          go_roundw
          case rel => exact ⟨i, j + 1, rfl, by go_num, by omega, by omega, ⟨M, HSW.out.gone HX.out HBE.out, HBT3.out, HKP3.out⟩⟩
          case measure => simp [intOf]; omega
        | false =>
          have hin : i < M.length := by rw [HSW.out.len, HN.out]; omega
          obtain ⟨y, hy⟩ : ∃ y, M[i]? = some y := ⟨_, List.getElem?_eq_getElem hin⟩
          obtain ⟨⟨k0, k1, k2, k3⟩, kf⟩ := BlkT_cells HBT3.out i y hy
          have z0 := kf (i * 4)
          have z1 := kf (i * 4 + 1)
          have z2 := kf (i * 4 + 2)
          have z3 := kf (i * 4 + 3)
          have l0 : w3.cell? ⟨h, 0, none⟩ = some (.int .u16 x.f0) := blk_cell HBX.out 0
          have l1 : w3.cell? ⟨h, 1, none⟩ = some (.int .u32 x.f1) := blk_cell HBX.out 1
          have l2 : w3.cell? ⟨h, 2, none⟩ = some (.int .u16 x.f2) := blk_cell HBX.out 2
          have l3 : w3.cell? ⟨h, 3, none⟩ = some (.int .u64 x.f3) := blk_cell HBX.out 3
          have HBT4 := Aside0.mk (BlkT_four HBT3.out i y hy x)
          have HKP4 := Aside0.mk (keeps4 HKP3.out rfl i (.int .u16 x.f0) (.int .u32 x.f1) (.int .u16 x.f2) (.int .u64 x.f3))
          clear hy kf hin
          go_wp2
          go_roundw
          case rel => exact ⟨i + 1, j + 1, by go_num, by go_num, by omega, by omega, ⟨M.set i x, HSW.out.stay HX.out HBE.out, HBT4.out, HKP4.out⟩⟩
          case measure => simp [intOf]; omega
      · have hjn : j = n := by omega
        obtain ⟨i0, hi0', hz, hsz, hby⟩ := szE
        have hzv : ∀ w, (zeroValue 55).run Try.prog w = .ok (.agg #[.int .u16 0, .int .u32 0, .int .u16 0, .int .u64 0]) w := fun w => by kernel_rfl
        have hsl : M.length = n := by rw [HSW.out.len, HN.out]
        have hcut1 : ∀ W : World, (Instr.slice 45 (.slice (some ⟨g, 0, none⟩) n cp) (some (.int .i64 (i : Int))) none none).run Try.prog W = .ok (.slice (some ⟨g, i * dE.sz, none⟩) (n - i) (cp - i)) W := fun W => by
          have := Fl.cut_from (W := W) elE Try.underlying45 hi0' hsz (some ⟨g, 0, none⟩) n cp i (by omega) _ rfl
          rw [if_neg (by omega)] at this
          simp only [Option.map_some, add_plain] at this
          exact this
        have hcut2 : ∀ W : World, (Instr.slice 45 (.slice (some ⟨g, 0, none⟩) n cp) none (some (.int .i64 (i : Int))) none).run Try.prog W = .ok (.slice (some ⟨g, 0, none⟩) i cp) W := fun W =>
          Fl.cut_to (W := W) elE Try.underlying45 hi0' (some ⟨g, 0, none⟩) n cp i (by omega) _ rfl
        have hcl := Fl.run_clearT (P := Try.prog) (ty := 0) (w := wr) (x0 := zE) Try.underlying45 hzv rfl i (n - i) (cp - i) (e' := 55) HBT.out (by omega) (by rw [hsl]; omega)
        have hB2 : dE.BlkT 55 _ g _ T := Fl.BlkT_set (w := wr) (d := dE) HBT.out (Fl.laid M i (List.replicate (n - i) zE))
        have hk2 := HKP.out.trans (keeps_setRow wr g (dE.flat (Fl.laid M i (List.replicate (n - i) zE)) ++ T).toArray (fun k => k = g) rfl) (fun k hk => .inl hk)
        generalize wr.setRow g (dE.flat (Fl.laid M i (List.replicate (n - i) zE)) ++ T).toArray = w2 at hcl hB2 hk2
        have hl2 : (Fl.laid M i (List.replicate (n - i) zE)).length = n := by rw [Fl.laid_length _ _ _ (by rw [List.length_replicate, hsl]; omega), hsl]
        have hRf := Fl.R_of_blkT (n := i) hB2 HG.out (by rw [hl2]; omega) (by rw [hl2]; exact hnc) hcap (by rw [hl2]; exact HTL.out)
        have hdn := (show Swp (elder f t u) xs i xs.length M by rw [HN.out, ← hjn]; exact HSW.out).done zE
        rw [HN.out] at hdn
        rw [hdn] at hRf
        have HRF := Lib.hid hRf
        have HK2 := Lib.hid (show Keeps (fun k => (Value.slice (some ⟨g, 0, none⟩) n cp).ownBlock = some k) w w2 from hk2.mono (fun k hk => .inl (by rw [hk]; rfl)))
        have HCL := Lib.hid hcl
        clear hcl hB2 hk2 hl2 hRf hdn hsl hzv hz hsz hby hi0'
        generalize n - i = n2 at hcut1 HCL
        generalize cp - i = c2 at hcut1 HCL
        generalize i * dE.sz = o9 at hcut1 HCL
        have hji : decide ((j : Int) < (n : Int)) = false := decide_eq_false (by omega)
        go_wp2_with (first
          | (refine Fl.wpList_clear_run rfl (.tmp 38) 45 rfl _ _ rfl HCL.out ?_)
          | fail)
        go_ret
        exact ⟨_, rfl, HRF.out, HK2.out⟩
end Go.Proofs.Ytafpaomcmjccaaa.Dir
