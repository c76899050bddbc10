/- A writer: its lists, and what it tells. -/
import Derived.Test.YthbapljhhglamaaCodeG
set_option linter.unusedVariables false
set_option linter.unusedSimpArgs false
namespace Go.Proofs.Ythbapljhhglamaa.Code
open Go.RowKit Go.Proofs.Ythbapljhhglamaa.G Go.Proofs.YthbapljhhglamaaW.PrintWords Go.Proofs.YthbapljhhglamaaW.PrintMore Go.Proofs.Ythbapljhhglamaa.Foot Go.Proofs.Ythbapljhhglamaa.CodeL Go.Proofs.Ythbapljhhglamaa.Leaf

theorem NewWriter_calls (w : World) : Calls Try.prog 11 #[] w fun e w' => e = .returned (.pointer (some ⟨w.heap.size, 0, none⟩)) ∧ Below w.heap.size w w' ∧ Wr w.heap.size [] w' (fun k => k = w.heap.size) := by
  go_enter Try.func11, Try.ntmps11
  go_wp2
  go_ret
  exact ⟨rfl, below_alloc (Below.refl _ _) _, rfl, fun k hk => by subst hk; simp, .slice none 0 0, blk_new w _, Kd.R_nil _ _ _ _ _⟩
set_option maxRecDepth 100000 in
theorem wbytes (p : Nat) (l : List Int) (w : World) (F : Nat → Prop) (h : Wr p l w F) (hl : l.length ≤ 1000000000) :
    Calls Try.prog 13 #[.pointer (some ⟨p, 0, none⟩)] w fun e w' => ∃ A c, e = .returned (.slice A l.length c) ∧ l.length ≤ c ∧ Kd.R (Kd.int .u8) 5 w' w.heap.size (fun _ => True) (.slice A l.length c) l ∧ Below w.heap.size w w' := by
  obtain ⟨hp, hF, v, hb, hR⟩ := h
  obtain ⟨A, c, rfl, hlc, hC⟩ := Kd.R_reads hR
  have hc0 := blk_cell hb 0
  have HC := Lib.hid hC
  clear hb hR hC hF
  go_enter Try.func13, Try.ntmps13
  go_wp2_with fail
  refine (clone_bytes A c l w HC.out (by omega)).mono ?_
  rintro e w1 ⟨v, rfl, hv, hB⟩
  obtain ⟨A1, c1, rfl, hl1, hC1⟩ := Kd.R_reads hv
  have HV := Lib.hid hv
  have HB := Lib.hid hB
  clear hv hB hC1
  go_wp2
  go_ret
  exact ⟨A1, c1, rfl, hl1, HV.out, HB.out⟩
theorem wtext_str (p : Nat) (l : List Int) (A : Option Addr) (c : Nat) (s : ByteArray) (w : World) (F : Nat → Prop) (h : Wr p l w F) (hb : CS (Kd.int .u8) F w A s.size (bytesOf s)) (hn : s.size ≤ 1000000) (hl : l.length ≤ 900000000) :
    Calls Try.prog 17 #[.pointer (some ⟨p, 0, none⟩), .slice A s.size c] w fun e w' => e = .returned (.tuple #[]) ∧ WrE p (l ++ encT (bytesOf s)) w F w' := by
  have e := bytesOf_length s
  rw [← e] at hb ⊢
  exact wtext p l A c (bytesOf s) w F h hb (by omega) hl
def encFs (l : List (S66)) : List Int := l.flatMap fun x => encT (bytesOf x.f0) ++ encT (bytesOf x.f1)
def encS (l : List (S66)) : List Int := enc l.length ++ encFs l
set_option maxHeartbeats 2000000 in
set_option maxRecDepth 100000 in
theorem wfields (p : Nat) (l : List Int) (A : Option Addr) (c : Nat) (fs : List (S66)) (w : World) (F : Nat → Prop) (h : Wr p l w F) (hb : CS k66 F w A fs.length fs) (hn : fs.length ≤ 100) (hs : ∀ x ∈ fs, x.f0.size ≤ 10000 ∧ x.f1.size ≤ 10000) (hl : l.length ≤ 100000000) :
    Calls Try.prog 29 #[.pointer (some ⟨p, 0, none⟩), .slice A fs.length c] w fun e w' => e = .returned (.tuple #[]) ∧ WrE p (l ++ encS fs) w F w' := by
  have HI := Aside0.mk h
  have HC := Aside0.mk hb
  have HS := Lib.hid hs
  have hp := h.1
  clear h hb hs
  go_enter Try.func29, Try.ntmps29
  go_wp2_with fail
  refine (wnum p l fs.length _ F HI.out (by omega) (by omega)).mono ?_
  rintro e w1 ⟨rfl, hE⟩
  have HE := Aside0.mk hE
  clear hE HI
  go_wp2
  go_loopw [13] (fun v13 wr => ∃ (i : Nat) (acc : List Int), v13 = .int .i64 (i : Int) ∧ i ≤ fs.length ∧ Aside0 (acc ++ encFs (fs.drop i) = l ++ encS fs) ∧ Aside0 (acc.length ≤ 100000020 + 30000 * i) ∧ Aside0 (WrE p acc w F wr)) (fun v13 _ => fs.length - (intOf v13).toNat)
  case atStart => exact ⟨0, l ++ enc fs.length, rfl, Nat.zero_le _, ⟨by rw [List.drop_zero]; unfold encS; rw [List.append_assoc]⟩, ⟨by have := (enc_len10 (n := fs.length) (by omega)).2; rw [List.length_append]; omega⟩, HE⟩
  case round =>
    clear HE
    obtain ⟨i, acc, rfl, hi, HA, HL, HE⟩ := hrel
    obtain ⟨F1, hw1, hF1, hk1⟩ := HE.out
    have HCr := Aside0.mk (HC.out.step hk1 hF1)
    have HW1 := Aside0.mk hw1
    have HF1 := Aside0.mk hF1
    have HK1 := Aside0.mk hk1
    clear hw1 hF1 hk1
    by_cases hlt : i < fs.length
    · obtain ⟨ad, rfl, hx0, hx1⟩ := at_T66 HCr.out.now (i : Int) (by omega) (by omega)
      have hx := HS.out _ (List.getElem_mem (l := fs) hlt)
      obtain ⟨x, hxx⟩ : ∃ x, rd_T66 fs (i : Int) = x := ⟨_, rfl⟩
      have hxi : fs[i] = x := by rw [← hxx]; unfold rd_T66; rw [Int.toNat_natCast, List.getD_eq_getElem?_getD, List.getElem?_eq_getElem hlt]; rfl
      rw [hxi] at hx
      rw [hxx, Int.toNat_natCast] at hx0 hx1
      have HD := Lib.hid (by rw [← hxi]; exact List.drop_eq_getElem_cons hlt : fs.drop i = x :: fs.drop (i + 1))
      clear hxx hxi
      obtain ⟨f0, f1⟩ := x
      simp only at hx hx0 hx1
      have kb := fun s W => print_bytes (P := Try.prog) 9 22 5 Try.underlying9 Try.underlying22 Try.underlying5 s W
      go_wp2_with fail
      generalize hW : Lib.bytesWorld (wr.alloc (.cells #[.string f0, .string f1] 66)) 5 f0 = W2
      have hB2 : Below wr.heap.size wr W2 := by rw [← hW]; exact bytes_below (below_alloc (Below.refl _ _) _) (by simp) _ _
      have hbx : W2.heap[wr.heap.size]? = some (.cells #[.string f0, .string f1] 66 (0, 0)) := by rw [← hW, Lib.bytesWorld_at_old _ _ _ _ (by simp)]; exact blk_new wr _
      have hCS := CS.made (wr.alloc (.cells #[.string f0, .string f1] 66)) 5 f0 (by omega)
      rw [hW] at hCS
      simp only [World.size_alloc] at hCS
      have HCS := Lib.hid hCS
      have HX := Lib.hid hbx
      have HB2 := Lib.hid hB2
      obtain ⟨cap, hcap⟩ : ∃ cap, grownCap (wr.alloc (.cells #[.string f0, .string f1] 66)) f0.size 0 5 = cap := ⟨_, rfl⟩
      rw [hcap]
      clear hW hCS hbx hB2 hcap
      have hwl : wr.heap.size < W2.heap.size := blk_lt HX.out
      have HWL := Lib.hid (HW1.out.2.1)
      have HW2 := Lib.hid (Firm.move HW1.out (fun k hk => HB2.out.block k (HWL.out k hk)))
      have HC2 := Lib.hid (HCS.out.step (G := F1) (Keeps.refl _ _) (fun k hk => .inl (by have := HWL.out k hk; show k < wr.heap.size + 1; omega)))
      have hll := HL.out
      with_reducible refine (wtext_str p acc _ cap f0 W2 F1 HW2.out HC2.out (by omega) (by omega)).mono ?_
      rintro e w3 ⟨rfl, hE3⟩
      have HE3 := Lib.hid hE3
      clear hE3
      have hb3 : w3.heap[wr.heap.size]? = some (.cells #[.string f0, .string f1] 66 (0, 0)) := by
        obtain ⟨F3, _, _, hk3⟩ := HE3.out
        exact hk3.blk HX.out (fun hk => by have := HWL.out _ hk; omega)
      have hf1 := blk_cell hb3 1
      clear hb3
      go_wp2_with fail
      generalize hW4 : Lib.bytesWorld w3 5 f1 = W4
      have hB4 : Below w3.heap.size w3 W4 := by rw [← hW4]; exact bytes_below (Below.refl _ _) (Nat.le_refl _) _ _
      have hCS4 := CS.made w3 5 f1 (by omega)
      rw [hW4] at hCS4
      obtain ⟨cap4, hcap4⟩ : ∃ cap, grownCap w3 f1.size 0 5 = cap := ⟨_, rfl⟩
      rw [hcap4]
      obtain ⟨F3, hw3, hF3, hk3⟩ := HE3.out
      have HWL3 := Lib.hid (hw3.2.1)
      have HW4 := Lib.hid (Firm.move hw3 (fun k hk => hB4.block k (HWL3.out k hk)))
      have HC4 := Lib.hid (hCS4.step (G := F3) (Keeps.refl _ _) (fun k hk => .inl (HWL3.out k hk)))
      have HKA := Lib.hid (((HK1.out.then_below HB2.out).trans hk3 (fun k hk => HF1.out k hk)).then_below hB4)
      have HFA := Lib.hid (show ∀ k, F3 k → F k ∨ w.heap.size ≤ k from fun k hk => (hF3 k hk).elim (HF1.out k) (fun h => .inr (Nat.le_trans (Nat.le_trans HK1.out.size HB2.out.size) h)))
      have hl3 := enc_len10 (n := f0.size) (by omega)
      obtain ⟨q3, hq3⟩ : ∃ q, acc ++ encT (bytesOf f0) = q := ⟨_, rfl⟩
      have hql : q3.length ≤ acc.length + 10 + f0.size := by rw [← hq3, List.length_append]; unfold encT; rw [List.length_append, bytesOf_length]; omega
      rw [hq3] at HW4
      have HQ3 := Lib.hid hq3
      clear hW4 hB4 hCS4 hcap4 hw3 hF3 hk3 HE3 HW2 HC2 HW1 hq3 hl3
      with_reducible refine (wtext_str p q3 _ cap4 f1 W4 F3 HW4.out HC4.out (by omega) (by omega)).mono ?_
      rintro e w5 ⟨rfl, hE5⟩
      have HE5 := Lib.hid (hE5.then_ HKA.out HFA.out)
      have hl5 := enc_len10 (n := f1.size) (by omega)
      obtain ⟨q5, hq5⟩ : ∃ q, q3 ++ encT (bytesOf f1) = q := ⟨_, rfl⟩
      have hq5l : q5.length ≤ q3.length + 10 + f1.size := by rw [← hq5, List.length_append]; unfold encT; rw [List.length_append, bytesOf_length]; omega
      rw [hq5] at HE5
      have HQ5 := Lib.hid hq5
      clear hE5 hq5 hl5
      go_wp2
      go_roundw
      case rel => exact ⟨i + 1, q5, by go_num, by omega, ⟨by rw [← HA.out, HD.out, ← HQ5.out, ← HQ3.out]; simp [encFs]⟩, ⟨by omega⟩, ⟨HE5.out⟩⟩
      case measure => simp [intOf]; omega
    · go_wp2
      go_end0
      have hin : i = fs.length := by omega
      subst hin
      have hA := HA.out
      rw [List.drop_length] at hA
      have h0 : encFs ([] : List (S66)) = [] := rfl
      rw [h0, List.append_nil] at hA
      exact ⟨rfl, hA ▸ HE.out⟩
end Go.Proofs.Ythbapljhhglamaa.Code
