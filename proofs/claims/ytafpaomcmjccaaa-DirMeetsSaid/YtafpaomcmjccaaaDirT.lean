/- One entry taken out of a row; those of a kind taken out. -/
import Derived.Test.YtafpaomcmjccaaaDirS
set_option linter.unusedVariables false
set_option linter.unusedSimpArgs false
namespace Go.Proofs.Ytafpaomcmjccaaa.Dir
open Go.RowKit Go.Proofs.Ytafpaomcmjccaaa.G Go.Proofs.YtafpaomcmjccaaaW.PrintWords Go.Proofs.YtafpaomcmjccaaaW.PrintMore Go.Proofs.Ytafpaomcmjccaaa.Foot

theorem elE : Try.prog.elem 45 = 55 := by kernel_rfl
theorem erase_laid (xs : List S55) (i : Nat) (hi : i < xs.length) (z : S55) :
    (Fl.laid (Fl.laid xs i (xs.drop (i + 1))) (xs.length - 1) [z]).take (xs.length - 1) = xs.eraseIdx i := by
  have hl : (Fl.laid xs i (xs.drop (i + 1))).length = xs.length := Fl.laid_length _ _ _ (by rw [List.length_drop]; omega)
  rw [Fl.laid_one _ _ _ (by rw [hl]; omega), List.take_set, List.set_eq_of_length_le (by rw [List.length_take]; omega)]
  unfold Fl.laid
  rw [List.take_append_of_le_length (by rw [List.length_append, List.length_take, List.length_drop]; omega), List.take_of_length_le (by rw [List.length_append, List.length_take, List.length_drop]; omega), List.eraseIdx_eq_take_drop_succ]
/-- A row of one's own that was cut down in place. -/
def CutPost (base : Nat) (v : Value) (xs : List S55) (w : World) (e : Ending) (w' : World) : Prop := ∃ v', e = .returned v' ∧ dE.R 55 w' base v' xs ∧ Keeps (fun k => v.ownBlock = some k) w w'
theorem keeps_setRow (w : World) (g : Nat) (cs : Array Value) (F : Nat → Prop) (hF : F g) : Keeps F w (w.setRow g cs) := ⟨rfl, rfl, rfl, by simp, fun k hk hn => setRow_other _ _ _ _ (fun e => hn (e ▸ hF))⟩
set_option maxHeartbeats 2000000 in
set_option maxRecDepth 100000 in
theorem SDelete_calls (w : World) (base : Nat) (v : Value) (xs : List S55) (hR : dE.R 55 w base v xs) (i : Nat) (hi : i < xs.length) (hl : xs.length ≤ 100000) :
    Calls Try.prog 40 #[v, .int .i64 (i : Int), .int .i64 ((i : Int) + 1)] w (CutPost base v (xs.eraseIdx i) w) := by
  obtain ⟨g, cap, T, rfl, hg, hnc, hcap, hB, hT⟩ := Fl.R_blkT hR (by omega)
  obtain ⟨i0, hi0', hz, hsz, hby⟩ := szE
  have hzv : ∀ w, (zeroValue 55).run Try.prog w = .ok (.agg #[.int .u16 0, .int .u32 0, .int .u16 0, .int .u64 0]) w := fun w => by kernel_rfl
  obtain ⟨A2, hcut2, hC2⟩ : ∃ A2, (∀ W : World, (Instr.slice 45 (.slice (some ⟨g, 0, none⟩) xs.length cap) (some (.int .i64 ((i : Int) + 1))) none none).run Try.prog W = .ok (.slice A2 (xs.length - (i + 1)) (cap - (i + 1))) W) ∧ dE.C w.drew A2 (xs.drop (i + 1)) := by
    refine ⟨_, fun W => Fl.cut_from (W := W) elE Try.underlying45 hi0' hsz (some ⟨g, 0, none⟩) xs.length cap (i + 1) (by omega) _ (by omega), ?_⟩
    by_cases hc : cap = i + 1
    · rw [List.drop_eq_nil_of_le (by omega)]
      exact Fl.C_nil
    · rw [if_neg hc]
      have := Fl.C_blkT hB (i + 1) (xs.length - (i + 1)) (by omega)
      rw [List.take_of_length_le (by rw [List.length_drop]; omega)] at this
      simp only [Option.map_some, add_plain]
      exact Fl.C_below this (below_drew (Below.refl _ _))
  have hcut0 : ∀ W : World, (Instr.slice 45 (.slice (some ⟨g, 0, none⟩) xs.length cap) (some (.int .i64 (i : Int))) (some (.int .i64 ((i : Int) + 1))) (some (.int .i64 (xs.length : Int)))).run Try.prog W = .ok (.slice (if xs.length = i then some ⟨g, 0, none⟩ else (some (⟨g, 0, none⟩ : Addr)).map (·.add (i * dE.sz))) (i + 1 - i) (xs.length - i)) W := fun W =>
    Fl.cut4 (W := W) elE Try.underlying45 hi0' hsz (some ⟨g, 0, none⟩) xs.length cap i (i + 1) xs.length (by omega) (by omega) (by omega) _ _ _ rfl (by omega) rfl
  have hcut1 : ∀ W : World, (Instr.slice 45 (.slice (some ⟨g, 0, none⟩) xs.length cap) none (some (.int .i64 (i : Int))) none).run Try.prog W = .ok (.slice (some ⟨g, 0, none⟩) i cap) W := fun W =>
    Fl.cut_to (W := W) elE Try.underlying45 hi0' (some ⟨g, 0, none⟩) xs.length cap i (by omega) _ rfl
  have hdl : (xs.drop (i + 1)).length = xs.length - (i + 1) := List.length_drop
  have hap := Fl.run_append_roomT (P := Try.prog) (ty := 45) (w := w.drew) Try.underlying45 hi0' hsz 0 i cap (xs.length - (i + 1)) (cap - (i + 1)) (e' := 55) hB hC2 hdl (by omega) (by omega)
  rw [Nat.zero_mul, Nat.zero_add, show i + (xs.length - (i + 1)) = xs.length - 1 by omega] at hap
  have hB1 : dE.BlkT 55 _ g _ T := Fl.BlkT_set (w := w.drew) (d := dE) hB (Fl.laid xs i (xs.drop (i + 1)))
  have hk1 := (Keeps.refl (fun k => some g = some k) w).drew.trans (keeps_setRow w.drew g (dE.flat (Fl.laid xs i (xs.drop (i + 1))) ++ T).toArray (fun k => some g = some k) rfl) (fun k hk => .inl hk)
  generalize w.drew.setRow g (dE.flat (Fl.laid xs i (xs.drop (i + 1))) ++ T).toArray = w1 at hap hB1 hk1
  have hl1 : (Fl.laid xs i (xs.drop (i + 1))).length = xs.length := Fl.laid_length _ _ _ (by rw [List.length_drop]; omega)
  have hcut3 : ∀ W : World, (Instr.slice 45 (.slice (some ⟨g, 0, none⟩) (xs.length - 1) cap) (some (.int .i64 ((xs.length - 1 : Nat) : Int))) (some (.int .i64 (xs.length : Int))) none).run Try.prog W = .ok (.slice (some ⟨g, (xs.length - 1) * dE.sz, none⟩) 1 (cap - (xs.length - 1))) W := fun W => by
    have := Fl.cut3 (W := W) elE Try.underlying45 hi0' hsz (some ⟨g, 0, none⟩) (xs.length - 1) cap (xs.length - 1) xs.length (by omega) (by omega) _ _ rfl rfl
    rw [if_neg (by omega), show xs.length - (xs.length - 1) = 1 by omega] at this
    simp only [Option.map_some, add_plain] at this
    exact this
  have hcl := Fl.run_clearT (P := Try.prog) (ty := 0) (w := w1) (x0 := zE) Try.underlying45 hzv rfl (xs.length - 1) 1 (cap - (xs.length - 1)) (e' := 55) hB1 (by omega) (by rw [hl1]; omega)
  have hB2 : dE.BlkT 55 _ g _ T := Fl.BlkT_set (w := w1) (d := dE) hB1 (Fl.laid (Fl.laid xs i (xs.drop (i + 1))) (xs.length - 1) (List.replicate 1 zE))
  have hk2 := hk1.trans (keeps_setRow w1 g (dE.flat (Fl.laid (Fl.laid xs i (xs.drop (i + 1))) (xs.length - 1) (List.replicate 1 zE)) ++ T).toArray (fun k => some g = some k) rfl) (fun k hk => .inl hk)
  generalize w1.setRow g (dE.flat (Fl.laid (Fl.laid xs i (xs.drop (i + 1))) (xs.length - 1) (List.replicate 1 zE)) ++ T).toArray = w2 at hcl hB2 hk2
  have hl2 : (Fl.laid (Fl.laid xs i (xs.drop (i + 1))) (xs.length - 1) (List.replicate 1 zE)).length = xs.length := by rw [Fl.laid_length _ _ _ (by rw [List.length_replicate, hl1]; omega), hl1]
  have hRf := Fl.R_of_blkT (n := xs.length - 1) hB2 hg (by rw [hl2]; omega) (by rw [hl2]; exact hnc) hcap (by rw [hl2]; exact hT)
  rw [show List.replicate 1 zE = [zE] from rfl, erase_laid xs i hi zE] at hRf
  have HRF := Lib.hid hRf
  have HK2 := Lib.hid hk2
  have HAP := Lib.hid hap
  have HCL := Lib.hid hcl
  generalize xs.length = n at *
  have hw1 : IntKind.i64.wrap ((i : Int) + 1) = (i : Int) + 1 := by rw [IntKind.wrap_i64]; omega
  generalize (n - 1) * dE.sz = o9 at hcut3 HCL
  obtain ⟨m, hm⟩ : ∃ m, n - 1 = m := ⟨_, rfl⟩
  rw [hm] at HCL HAP HRF
  simp only [hm] at hcut3
  have HM := Lib.hid hm
  clear hm
  generalize n - (i + 1) = n2 at hcut2 HAP
  generalize cap - (i + 1) = c2 at hcut2 HAP
  generalize cap - m = c3 at hcut3 HCL
  have hi1 : (i : Int) < (n : Int) := by omega
  have hi0 : (0 : Int) ≤ (i : Int) := by omega
  have hne : ((i : Int) == (i : Int) + 1) = false := by rw [beq_eq_false_iff_ne]; omega
  clear hR hB hT hap hcl hB1 hk1 hl1 hB2 hk2 hl2 hRf hC2 hdl hzv hz hsz hby hi0'
  go_enter Try.func40, Try.ntmps40
  go_wp2_with fail
  go_region_held3 (fun _ => True) (exact trivial) (refine Fl.step_append_run rfl (.tmp 22) (.tmp 25) 45 45 rfl _ _ _ rfl rfl HAP.out ?_)
  go_wp2_with (first
    | (refine Fl.wpList_clear_run rfl (.tmp 31) 45 rfl _ _ rfl HCL.out ?_)
    | fail)
  go_ret
  exact ⟨_, rfl, HRF.out, HK2.out⟩
end Go.Proofs.Ytafpaomcmjccaaa.Dir
