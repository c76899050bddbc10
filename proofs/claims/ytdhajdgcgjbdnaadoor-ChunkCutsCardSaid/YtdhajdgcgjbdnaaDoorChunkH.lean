/- What is cut off is not all there. -/
import Derived.Test.YtdhajdgcgjbdnaaDoorChunkF
import Derived.Test.YtdhajdgcgjbdnaaDoorHeadLists
set_option linter.unusedVariables false
set_option linter.unusedSimpArgs false
namespace Go.Proofs.YtdhajdgcgjbdnaaDoor.Chunk
open Go.RowKit Go.Proofs.YtdhajdgcgjbdnaaDoor.G Go.Proofs.YtdhajdgcgjbdnaaDoorW.PrintWords Go.Proofs.YtdhajdgcgjbdnaaDoor.Plain

theorem crG_cut {l r : List Int} (h : crG l = .ok r) (n : Nat) : (1 ≤ n → crG (l.take n) = .ok (r.take (n - 1))) ∧ (n < 1 → crG (l.take n) = .bad 92) := by
  cases l with
  | nil => cases h
  | cons d u =>
    rw [crG] at h
    split at h
    · rename_i hd
      cases h
      refine ⟨fun hn => ?_, fun hn => ?_⟩
      · obtain ⟨n, rfl⟩ : ∃ m, n = m + 1 := ⟨n - 1, by omega⟩
        rw [List.take_succ_cons, crG, if_pos hd, Nat.add_sub_cancel]
      · obtain rfl : n = 0 := by omega
        rfl
    · cases h
theorem endG_cut {l r : List Int} (h : endG l = .ok r) (n : Nat) : (2 ≤ n → endG (l.take n) = .ok (r.take (n - 2))) ∧ (n < 2 → endG (l.take n) = .bad 92) := by
  cases l with
  | nil => cases h
  | cons c t =>
    rw [endG] at h
    split at h
    · rename_i hc
      refine ⟨fun hn => ?_, fun hn => ?_⟩
      · obtain ⟨n, rfl⟩ : ∃ m, n = m + 1 := ⟨n - 1, by omega⟩
        rw [List.take_succ_cons, endG, if_pos hc, (crG_cut h n).1 (by omega)]
        rfl
      · rcases (show n = 0 ∨ n = 1 by omega) with rfl | rfl
        · rfl
        · rw [List.take_succ_cons, endG, if_pos hc, (crG_cut h 0).2 (by omega)]
    · cases h
theorem lineG_cut : ∀ (l : List Int) (k : Nat) (s r : List Int), lineG l k = .ok (s, r) → ∀ n, (s.length + 2 ≤ n → lineG (l.take n) k = .ok (s, r.take (n - (s.length + 2)))) ∧ (n < s.length + 2 → lineG (l.take n) k = .bad 92) := by
  intro l
  induction l with
  | nil => intro k s r h; rw [lineG] at h; cases h
  | cons c t ih =>
    intro k s r h n
    rw [lineG] at h
    split at h
    · rename_i hc
      obtain ⟨rfl, h9⟩ := none1_ok h
      refine ⟨fun hn => ?_, fun hn => ?_⟩
      · simp only [List.length_nil] at hn ⊢
        obtain ⟨n, rfl⟩ : ∃ m, n = m + 1 := ⟨n - 1, by omega⟩
        rw [List.take_succ_cons, lineG, if_pos hc, (crG_cut h9 n).1 (by omega), none1]
        rfl
      · simp only [List.length_nil] at hn
        rcases (show n = 0 ∨ n = 1 by omega) with rfl | rfl
        · rfl
        · rw [List.take_succ_cons, lineG, if_pos hc, (crG_cut h9 0).2 (by omega), none1]
    · rename_i hc
      split at h
      · cases h
      · rename_i hd
        obtain ⟨s2, rfl, h9⟩ := cons1_ok h
        refine ⟨fun hn => ?_, fun hn => ?_⟩
        · simp only [List.length_cons] at hn ⊢
          obtain ⟨n, rfl⟩ : ∃ m, n = m + 1 := ⟨n - 1, by omega⟩
          rw [List.take_succ_cons, lineG, if_neg hc, if_neg hd, (ih _ _ _ h9 n).1 (by omega), cons1]
          congr 3
          omega
        · simp only [List.length_cons] at hn
          cases n with
          | zero => rfl
          | succ n => rw [List.take_succ_cons, lineG, if_neg hc, if_neg hd, (ih _ _ _ h9 n).2 (by omega), cons1]
theorem trailG_cut (P : List Int → Bool) : ∀ (f : Nat) (l : List Int) (k : Nat) (r : List Int), trailG P f l k = .ok r → ∀ n g, n < g → (l.length ≤ n + r.length → trailG P g (l.take n) k = .ok (r.take (n + r.length - l.length))) ∧ (n + r.length < l.length → trailG P g (l.take n) k = .bad 92) := by
  intro f
  induction f with
  | zero => intro l k r h; cases h
  | succ f ih =>
    intro l k r h n g hg
    obtain ⟨g, rfl⟩ : ∃ g', g = g' + 1 := ⟨g - 1, by omega⟩
    rw [trailG] at h
    cases e : lineG l 0 with
    | bad e2 => rw [e] at h; cases h
    | ok a =>
      obtain ⟨s, r2⟩ := a
      rw [e] at h
      dsimp only at h
      obtain ⟨h1, _, _⟩ := lineG_length _ _ _ _ e
      have hc := lineG_cut l 0 s r2 e n
      split at h
      · rename_i hs
        cases h
        subst hs
        simp only [List.length_nil] at hc h1
        refine ⟨fun hn => ?_, fun hn => ?_⟩
        · rw [trailG, hc.1 (by omega)]
          dsimp only
          rw [if_pos rfl]
          congr 2
          omega
        · rw [trailG, hc.2 (by omega)]
      · rename_i hs
        split at h
        · rename_i hP
          obtain ⟨m, hm1, hm2, hm3⟩ := trailG_length P f r2 (k + 1) r h
          have hrl : r.length = r2.length - m := by rw [hm3, List.length_drop]
          by_cases hn : s.length + 2 ≤ n
          · have h2 := ih r2 (k + 1) r h (n - (s.length + 2)) g (by omega)
            refine ⟨fun hn2 => ?_, fun hn2 => ?_⟩
            · rw [trailG, hc.1 hn]
              dsimp only
              rw [if_neg hs, if_pos hP, h2.1 (by omega)]
              congr 2
              omega
            · rw [trailG, hc.1 hn]
              dsimp only
              rw [if_neg hs, if_pos hP, h2.2 (by omega)]
          · refine ⟨fun hn2 => by omega, fun hn2 => ?_⟩
            rw [trailG, hc.2 (by omega)]
        · cases h
/-- A body that is read to its end isn't all there when it is cut off. -/
theorem bodyG_cut (T P : List Int → Bool) : ∀ (f : Nat) (l out o r : List Int), bodyG T P f l out = .ok (o, r) → ∀ n g, n < g → n + r.length < l.length → bodyG T P g (l.take n) out = .bad 92 := by
  intro f
  induction f with
  | zero => intro l out o r h; cases h
  | succ f ih =>
    intro l out o r h n g hg hn
    obtain ⟨g, rfl⟩ : ∃ g', g = g' + 1 := ⟨g - 1, by omega⟩
    rw [bodyG] at h
    cases e : lineG l 0 with
    | bad e2 => rw [e] at h; cases h
    | ok a =>
      obtain ⟨s, r2⟩ := a
      rw [e] at h
      dsimp only at h
      obtain ⟨h1, _, _⟩ := lineG_length _ _ _ _ e
      have hc := lineG_cut l 0 s r2 e n
      by_cases hns : s.length + 2 ≤ n
      · rw [bodyG, hc.1 hns]
        dsimp only
        cases e2 : lenG T s 0 0 with
        | none => rw [e2] at h; cases h
        | some m =>
          rw [e2] at h
          dsimp only at h ⊢
          obtain ⟨q, hq⟩ : ∃ q, n - (s.length + 2) = q := ⟨_, rfl⟩
          rw [hq]
          split at h
          · rename_i hm
            rw [if_pos hm]
            cases e3 : trailG P (r2.length + 1) r2 0 with
            | bad e4 => rw [e3] at h; cases h
            | ok r3 =>
              rw [e3] at h
              cases h
              rw [(trailG_cut P _ _ _ _ e3 q ((r2.take q).length + 1) (by rw [List.length_take]; omega)).2 (by omega)]
          · rename_i hm
            rw [if_neg hm]
            split at h
            · cases h
            · rename_i hlong
              rw [if_neg hlong]
              split at h
              · cases h
              · rename_i hsh
                by_cases hqm : (r2.take q).length < m
                · rw [if_pos hqm]
                · rw [if_neg hqm]
                  cases e3 : endG (r2.drop m) with
                  | bad e4 => rw [e3] at h; cases h
                  | ok r3 =>
                    rw [e3] at h
                    dsimp only at h
                    obtain ⟨h3, _⟩ := endG_length _ _ e3
                    rw [List.length_drop] at h3
                    rw [List.length_take] at hqm
                    have e5 : (r2.take q).drop m = (r2.drop m).take (q - m) := by rw [List.drop_take]
                    have e6 : (r2.take q).take m = r2.take m := by rw [List.take_take]; congr 1; omega
                    rw [e5, e6]
                    have hec := endG_cut e3 (q - m)
                    by_cases hq2 : 2 ≤ q - m
                    · rw [hec.1 hq2]
                      dsimp only
                      exact ih r3 _ o r h (q - m - 2) g (by omega) (by omega)
                    · rw [hec.2 (by omega)]
      · rw [bodyG, hc.2 (by omega)]
theorem openG_cut {l o : List Int} (h : openG l = .ok (o, [])) (n : Nat) (hn : n < l.length) : openG (l.take n) = .bad 92 := by
  unfold openG at h ⊢
  refine bodyG_cut textL fieldL _ l [] o [] h n _ ?_ (by simpa using hn)
  rw [List.length_take]
  omega
theorem textC_ne {c : Int} (h : textC c = true) : c ≠ 13 ∧ c ≠ 10 := by
  constructor <;> (rintro rfl; revert h; decide)
theorem tokC_ne {c : Int} (h : tokC c = true) : c ≠ 13 ∧ c ≠ 10 ∧ c ≠ 58 := by
  refine ⟨?_, ?_, ?_⟩ <;> (rintro rfl; revert h; decide +kernel)
theorem field_ok (nm vl : List Int) (hn : tokenL nm = true) (hv : valueL vl = true) (hr : ∀ c ∈ nm ++ 58 :: 32 :: vl, 0 ≤ c ∧ c ≤ 255) : fieldL (nm ++ 58 :: 32 :: vl) = true := by
  have hb := bytes_of_nums hr
  obtain ⟨s, hs⟩ : ∃ s, strOfNums (nm ++ 58 :: 32 :: vl) = s := ⟨_, rfl⟩
  rw [hs] at hb
  have hsz : s.size = nm.length + (vl.length + 2) := by rw [size_bytes, hb]; simp
  have htk : ∀ c ∈ nm, tokC c = true := by
    unfold tokenL at hn
    rw [Bool.and_eq_true] at hn
    exact List.all_eq_true.1 hn.1
  have hfi : colonN (bytesOf s) = nm.length := by
    rw [hb]
    unfold colonN
    rw [List.findIdx_append, List.findIdx_eq_length_of_false (fun c hc => by have := (tokC_ne (htk c hc)).2.2; simpa using this), List.findIdx_cons]
    simp
  have hco : colon s = (nm.length : Int) := by rw [colon_eq, hfi, if_pos (by omega)]
  have e1 : bytesOf (s.extract 0 (colon s).toNat) = nm := by rw [hco, Int.toNat_natCast, bytes_extract, hb, List.drop_zero, List.take_left]
  have e2 : bytesOf (s.extract ((colon s).toNat + 1) s.size) = 32 :: vl := by
    rw [hco, Int.toNat_natCast, bytes_extract, hb, List.take_of_length_le (by simp [hsz])]
    rw [show nm ++ 58 :: 32 :: vl = (nm ++ [58]) ++ 32 :: vl by simp]
    exact List.drop_left' (by simp)
  have e3 : trimL (32 :: vl) = vl := by
    rw [front_cons, if_pos (by decide)]
    unfold valueL at hv
    rw [Bool.and_eq_true] at hv
    exact eq_of_beq hv.2
  have hlp : (lineP s).isSome = true := by
    unfold lineP
    rw [if_pos ⟨by rw [hco]; omega, by rw [e1]; exact hn, by rw [bytes_trim, e2, e3]; exact hv⟩]
    rfl
  unfold fieldL parseL
  rw [if_neg (by simp), hs]
  unfold parseA
  cases e : lineP s with
  | none => rw [e] at hlp; cases hlp
  | some f => simp [parseA]
theorem tail_cuts (ext nm vl o : List Int) (f : Nat) (he : textL ext = true) (hel : ext.length ≤ 50) (hn : tokenL nm = true) (hnl : nm.length ≤ 50) (hv : valueL vl = true) (hvl : vl.length ≤ 50) (hr : ∀ c ∈ nm ++ 58 :: 32 :: vl, 0 ≤ c ∧ c ≤ 255) :
    bodyG textL fieldL (f + 1) ((48 :: 48 :: 59 :: ext) ++ (13 :: 10 :: ((nm ++ 58 :: 32 :: vl) ++ (13 :: 10 :: 13 :: 10 :: [])))) o = .ok (o, []) := by
  have htx : ∀ c ∈ ext, c ≠ 13 ∧ c ≠ 10 := fun c hc => textC_ne (List.all_eq_true.1 he c hc)
  have htk : ∀ c ∈ nm, tokC c = true := by
    unfold tokenL at hn
    rw [Bool.and_eq_true] at hn
    exact List.all_eq_true.1 hn.1
  have hvx : ∀ c ∈ vl, c ≠ 13 ∧ c ≠ 10 := fun c hc => by
    unfold valueL at hv
    rw [Bool.and_eq_true] at hv
    exact textC_ne (List.all_eq_true.1 hv.1 c hc)
  rw [bodyG, lineG_ok (48 :: 48 :: 59 :: ext) _ 0 (fun c hc => by
    simp only [List.mem_cons] at hc
    rcases hc with rfl | rfl | rfl | hc
    · decide
    · decide
    · decide
    · exact htx c hc) (by simp only [List.length_cons]; omega)]
  dsimp only
  have hlg : lenG textL (48 :: 48 :: 59 :: ext) 0 0 = some 0 := by
    rw [lenG, if_neg (by decide), if_neg (by decide), lenG, if_neg (by decide), if_neg (by decide), lenG, if_pos (by decide), if_pos ⟨by decide, rfl, he⟩]
    rfl
  rw [hlg]
  dsimp only
  rw [if_pos rfl, trailG, lineG_ok (nm ++ 58 :: 32 :: vl) _ 0 (fun c hc => by
    simp only [List.mem_append, List.mem_cons] at hc
    rcases hc with hc | rfl | rfl | hc
    · have := tokC_ne (htk c hc); exact ⟨this.1, this.2.1⟩
    · decide
    · decide
    · exact hvx c hc) (by simp only [List.length_append, List.length_cons]; omega)]
  dsimp only
  rw [if_neg (by simp), if_pos ⟨field_ok nm vl hn hv hr, by decide⟩]
  simp only [List.length_append, List.length_cons]
  rfl
end Go.Proofs.YtdhajdgcgjbdnaaDoor.Chunk
