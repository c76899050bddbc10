/- The document's reader: texts and lists. -/
import Derived.Test.YthbapljhhglamaaCodeQ
import Derived.Test.YthbapljhhglamaaCodeG
set_option linter.unusedVariables false
set_option linter.unusedSimpArgs false
namespace Go.Proofs.Ythbapljhhglamaa.Code
open Go.RowKit Go.Proofs.Ythbapljhhglamaa.G Go.Proofs.YthbapljhhglamaaW.PrintWords Go.Proofs.YthbapljhhglamaaW.PrintMore Go.Proofs.Ythbapljhhglamaa.Foot Go.Proofs.Ythbapljhhglamaa.CodeL Go.Proofs.Ythbapljhhglamaa.Leaf

theorem textS_num_none {st : Option (List Int)} (h : (numS st).2 = none) : textS st = ([], none) := by
  cases st with
  | none => rfl
  | some xs =>
    unfold numS at h
    unfold textS textD
    cases hn : numD xs with
    | none => simp only [hn]
    | some nr =>
      obtain ⟨n, r⟩ := nr
      simp only [hn] at h
      cases h
theorem textS_num_some {st : Option (List Int)} {r : List Int} (h : (numS st).2 = some r) : textS st = if (numS st).1 ≤ r.length then (r.take (numS st).1, some (r.drop (numS st).1)) else ([], none) := by
  cases st with
  | none => cases h
  | some xs =>
    unfold numS at h ⊢
    unfold textS textD
    cases hn : numD xs with
    | none => simp only [hn] at h; cases h
    | some nr =>
      obtain ⟨n, s⟩ := nr
      simp only [hn] at h ⊢
      injection h with h
      subst h
      split
      · rename_i h1
        split at h1
        · cases h1
        · rename_i h2; rw [if_neg h2]
      · rename_i b t h1
        split at h1
        · rename_i h2
          injection h1 with h1
          injection h1 with h1 h3
          rw [if_pos h2, ← h1, ← h3]
        · cases h1
theorem numS_len {st : Option (List Int)} {r : List Int} (h : (numS st).2 = some r) (hl : ∀ xs, st = some xs → xs.length ≤ 1000000000) : r.length ≤ 1000000000 := by
  cases st with
  | none => cases h
  | some xs =>
    unfold numS at h
    cases hn : numD xs with
    | none => simp only [hn] at h; cases h
    | some nr =>
      obtain ⟨n, s⟩ := nr
      simp only [hn] at h
      injection h with h
      subst h
      have := numD_len hn
      have := hl xs rfl
      omega
def RefTextPost (W : World) (q : Nat) (st : Option (List Int)) (w : World) (e : Ending) (w' : World) : Prop :=
  ∃ v, e = .returned v ∧ Kd.R (Kd.int .u8) 5 w' 0 (fun k => w.heap.size ≤ k) v (textS st).1 ∧ RfB W q (textS st).2 w' ∧ Keeps (fun k => k = q) w w'
theorem ref_text_bad {W : World} {q : Nat} {st : Option (List Int)} {w w' : World} {A : Option Addr} {n c : Nat} (h : textS st = ([], none)) (hb : w'.heap[q]? = some (.cells #[.slice A n c, .bool true] 46 (0, 0))) (hk : Keeps (fun k => k = q) w w') : RefTextPost W q st w (.returned (.slice none 0 0)) w' := by
  refine ⟨_, rfl, ?_, ?_, hk⟩
  · rw [h]; exact Kd.R_nil _ _ _ _ _
  · rw [h]; exact ⟨A, n, c, hb⟩
set_option maxHeartbeats 4000000 in
set_option maxRecDepth 100000 in
theorem ref_text (W : World) (q : Nat) (st : Option (List Int)) (w : World) (hB : Below W.heap.size W w) (hq : W.heap.size ≤ q) (h : RfB W q st w) (hl : ∀ xs, st = some xs → xs.length ≤ 1000000000) : Calls Try.prog 22 #[.pointer (some ⟨q, 0, none⟩)] w (RefTextPost W q st w) := by
  have HB := Lib.hid hB
  have HR := Lib.hid h
  have HL := Lib.hid hl
  clear hB h hl
  go_enter Try.func22, Try.ntmps22
  go_wp2_with fail
  refine (ref_num W q st w HB.out HR.out).mono ?_
  rintro e w1 ⟨rfl, hr, hk⟩
  have HK := Lib.hid hk
  cases hn : (numS st).2 with
  | none =>
    rw [hn] at hr
    have HT := Lib.hid (textS_num_none hn)
    obtain ⟨A, n, c, hb⟩ := hr
    have h1 := blk_cell hb 1
    have hz := blk_frozen hb 1
    have HBK := Lib.hid hb
    clear hk hn hb
    go_wp2
    go_ret
    exact ref_text_bad HT.out (blk_put HBK.out 1 (.bool true) rfl) (HK.out.trans (keeps_set q 1 _ _) (fun k h => .inl h))
  | some r =>
    rw [hn] at hr
    have HT := Lib.hid (textS_num_some hn)
    obtain ⟨A, c, hb, hc, hC, h8⟩ := hr
    have h0 := blk_cell hb 0
    have h1 := blk_cell hb 1
    have hz := blk_frozen hb 1
    have hz0 := blk_frozen hb 0
    have HBK := Lib.hid hb
    have hrl : r.length ≤ 1000000000 := numS_len hn HL.out
    have HC := Lib.hid hC
    have H8 := Lib.hid h8
    generalize hnn : (numS st).1 = n at HT ⊢
    clear hk hn hb hC h8 hnn
    by_cases hle : n ≤ r.length
    · rw [if_pos hle] at HT
      have hst := cut_to (P := Try.prog) 22 5 .u64 Try.underlying22 infoU8.1 A r.length c (n : Int) (by omega) (by omega) hc
      rw [Int.toNat_natCast] at hst
      obtain ⟨A', hA⟩ : ∃ A', A' = if c = n then A else A.map (·.add (n * 1)) := ⟨_, rfl⟩
      have hsf := cut_from (P := Try.prog) 22 5 .u64 Try.underlying22 infoU8.1 1 infoU8.2 A r.length c (n : Int) (by omega) (by omega)
      rw [Int.toNat_natCast, ← hA] at hsf
      have hcd := Kd.C_drop HC.out hle hc
      rw [show (Kd.int .u8).sz = 1 from rfl, ← hA] at hcd
      have HCD := Lib.hid hcd
      have hct := Kd.C_take (Kd.C_below HC.out (HB.out.trans (HK.out.to_below HB.out.size (fun k hk => hk ▸ hq)))) hle
      rw [List.length_take, Nat.min_eq_left hle] at hct
      have HCT := Lib.hid hct
      have HTL := Lib.hid (show (r.take n).length = n by rw [List.length_take, Nat.min_eq_left hle])
      clear hA hcd hct
      go_wp2_with (first
        | ((with_reducible refine gate_builtin (b := .append) (xs := #[.const (.slice none 0 0), .tmp 29]) rfl ?_); at_builtin; go_must (refine Kd.R_append_row (Value.int .u8) 0 (h1 := fun _ => rfl) (w0 := w1) w1.heap.size rfl (.const (.slice none 0 0)) (.tmp 29) 22 5 (.int .u8 0) 1 rfl Try.underlying22 info5 rfl (by decide) (.slice none 0 0) [] (r.take n) A n c (fun _ => True) rfl rfl (fun _ _ => trivial) (Kd.R_nil _ _ _ _ _) HCT.out (Below.refl _ _) (Nat.le_refl _) ?cL ?_); (case cL => simp; omega); intro v5 w5 hR5 hB5 hg5 _; rw [List.nil_append] at hR5; obtain ⟨A5, c5, rfl⟩ := Kd.R_slice hR5; rw [HTL.out] at hR5; rw [HTL.out]; have hb5 := blk_below HBK.out hB5; have h50 := blk_cell hb5 0; have hz50 := blk_frozen hb5 0; have HR5 := Lib.hid hR5; have HB5 := Lib.hid hB5; have HK5 := Lib.hid hb5; clear hR5 hB5 hg5 hb5)
        | fail)
      go_ret
      refine ⟨_, rfl, ?_, ?_, (HK.out.then_below HB5.out).trans (keeps_set q 0 _ _) (fun k h => .inl h)⟩
      · rw [HT.out]
        have h := Kd.R_far (p := ⟨q, 0, none⟩) (Kd.R_lower (Kd.R_mono (Kd.R_bound HR5.out) (ok' := fun k => w1.heap.size ≤ k) (fun k hk => hk.2.1)) (Nat.zero_le _)) (fun k hk => by have := blk_lt HBK.out; show k ≠ q; omega) (Value.slice A' (r.length - n) (c - n))
        exact Kd.R_mono h (fun k hk => Nat.le_trans HK.out.size hk)
      · rw [HT.out]
        exact ⟨A', c - n, by rw [List.length_drop]; exact blk_put HK5.out 0 _ rfl, by rw [List.length_drop]; omega, HCD.out, fun y hy => H8.out y (List.mem_of_mem_drop hy)⟩
    · rw [if_neg hle] at HT
      go_wp2
      go_ret
      exact ref_text_bad HT.out (blk_put HBK.out 1 (.bool true) rfl) (HK.out.trans (keeps_set q 1 _ _) (fun k h => .inl h))
end Go.Proofs.Ythbapljhhglamaa.Code
