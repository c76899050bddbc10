/- What parts say, one by one. -/
import Derived.Test.YtdgimhaghhjdcaaDoorCtrlQ
set_option linter.unusedVariables false
set_option linter.unusedSimpArgs false
namespace Go.Proofs.YtdgimhaghhjdcaaDoor.Ctrl
open Go.RowKit Go.Proofs.YtdgimhaghhjdcaaDoor.G Go.Proofs.YtdgimhaghhjdcaaDoorW.PrintWords Go.Proofs.YtdgimhaghhjdcaaDoorW.PrintMore Go.Proofs.YtdgimhaghhjdcaaDoor.Plain

theorem fold_snoc (k : Nat) (s : ByteArray) : ∀ (l : List ByteArray) (c : ctrl_Parse.Ct), ctrl_Parse.fold k c (l ++ [s]) = (ctrl_Parse.fold k c l).bind fun c' => ctrl_Parse.part k c' s
  | [], c => by
    simp only [List.nil_append, ctrl_Parse.fold, Option.bind_some]
    cases ctrl_Parse.part k c s <;> rfl
  | p :: l, c => by
    show (ctrl_Parse.part k c p).bind (fun c' => ctrl_Parse.fold k c' (l ++ [s])) = ((ctrl_Parse.part k c p).bind fun c' => ctrl_Parse.fold k c' l).bind _
    cases ctrl_Parse.part k c p with
    | none => rfl
    | some c' => exact fold_snoc k s l c'
theorem fold_word {l : List ByteArray} {c0 c1 c2 : ctrl_Parse.Ct} (h : Ev (fun k => ctrl_Parse.fold k c0 l) c1) (b : Bool) (s : ByteArray) (hp : b = true → ctrl_Parse.part 400 c1 s = some c2) (hn : b = false → c1 = c2) : Ev (fun k => ctrl_Parse.fold k c0 (addW b s l)) c2 := by
  unfold addW
  cases b with
  | false => rw [← hn rfl]; exact h
  | true =>
    refine Ev.congr (fun k => fold_snoc k s l c0) (ev_bind h ?_)
    exact Ev.of (fun k => ctrl_Parse.part_mono k c1 s) (hp rfl)
theorem index_at (a : List UInt8) (d : List UInt8) (n : Nat) (h : Lib.indexByte a 61 = (n : Int)) : Lib.indexByte (a ++ d) 61 = (n : Int) := by
  induction a generalizing n with
  | nil => rw [Lib.indexByte] at h; omega
  | cons x a ih =>
    rw [List.cons_append, Lib.indexByte]
    rw [Lib.indexByte] at h
    by_cases hx : (x == 61) = true
    · rw [if_pos hx] at h ⊢; exact h
    · rw [if_neg hx] at h ⊢
      by_cases h1 : (Lib.indexByte a 61 == -1) = true
      · rw [if_pos h1] at h; omega
      · rw [if_neg h1] at h
        have hg := Lib.indexByte_ge a 61
        have h1' : ¬ Lib.indexByte a 61 = -1 := fun e => h1 (beq_iff_eq.2 e)
        obtain ⟨m, hm⟩ : ∃ m : Nat, Lib.indexByte a 61 = (m : Int) := ⟨(Lib.indexByte a 61).toNat, by omega⟩
        rw [ih m hm, if_neg (fun e => by have := beq_iff_eq.1 e; omega)]
        omega
theorem cut_at (nm s d : ByteArray) (hs : bytesOf s = bytesOf nm ++ [61]) (hi : Lib.indexByte s.data.toList 61 = (nm.size : Int)) (hd : d.size ≤ 1000) (hsz : s.size ≤ 1000) : strings_Cut.f (s ++ d) ⟨#[61]⟩ = some (nm, d, true) := by
  have h1 : Lib.indexByte (s ++ d).data.toList 61 = (nm.size : Int) := by
    rw [ByteArray.data_append, Array.toList_append]
    exact index_at _ _ _ hi
  have hz := size_bytes nm
  have hz2 := size_bytes s
  have hz3 := size_bytes d
  rw [hs, List.length_append, List.length_singleton] at hz2
  show (if (s ++ d).size ≤ 140737488355328 then some (Leaf.cutAt (s ++ d) (Lib.indexByte (s ++ d).data.toList 61)) else none) = _
  rw [if_pos (by rw [ByteArray.size_append]; omega), h1]
  unfold Leaf.cutAt
  rw [if_pos (by omega), Int.toNat_natCast]
  have e1 : (s ++ d).extract 0 nm.size = nm := by
    refine bytes_inj ?_
    rw [bytes_extract, bytes_append, hs, List.append_assoc, List.drop_zero, hz, List.take_left']
    rfl
  have e2 : (s ++ d).extract (nm.size + 1) (s ++ d).size = d := by
    refine bytes_inj ?_
    rw [bytes_extract, List.take_of_length_le (by rw [← size_bytes]; exact Nat.le_refl _), bytes_append, hs, List.drop_left']
    rw [List.length_append, List.length_singleton, hz]
  rw [e1, e2]
theorem part_num (c : ctrl_Parse.Ct) (nm s : ByteArray) (bs : List Bool) (m : Nat) (hm : m ≤ 2147483647) (hs : bytesOf s = bytesOf nm ++ [61]) (hi : Lib.indexByte s.data.toList 61 = (nm.size : Int)) (hsz : s.size ≤ 1000) (ht : ctrl_Parse.tell 400 nm ctrl_Parse.lits = some bs) :
    Ev (fun k => ctrl_Parse.part k c (s ++ decB m)) (ctrl_Parse.say c (fun i => bs.getD i false) (ctrl_Parse.lst (m : Int)) true) := by
  have hd : (decB m).size ≤ 21 := dec_size m (by omega)
  refine Ev.congr (fun k => ctrl_Parse.part.eq_1 k c (s ++ decB m)) (ev_some (cut_at nm s (decB m) hs hi (by omega) hsz) ?_)
  exact ev_some (plain_dec m hm) (ev_bind (seconds_dec m hm) (ev_bind (Ev.of (fun k => ctrl_Parse.tell_mono k nm _) ht) (ev_ret rfl)))
theorem fold_num {l : List ByteArray} {c0 c1 c2 : ctrl_Parse.Ct} (h : Ev (fun k => ctrl_Parse.fold k c0 l) c1) (n : Int) (nm s : ByteArray) (bs : List Bool) (hn0 : -1 ≤ n) (hn1 : n ≤ 2147483647) (hs : bytesOf s = bytesOf nm ++ [61]) (hi : Lib.indexByte s.data.toList 61 = (nm.size : Int)) (hsz : s.size ≤ 1000) (ht : ctrl_Parse.tell 400 nm ctrl_Parse.lits = some bs)
    (hp : 0 ≤ n → ctrl_Parse.say c1 (fun i => bs.getD i false) (ctrl_Parse.lst n) true = c2) (hn : n = -1 → c1 = c2) : Ev (fun k => ctrl_Parse.fold k c0 (addN n s l)) c2 := by
  unfold addN
  by_cases h0 : 0 ≤ n
  · obtain ⟨m, rfl⟩ : ∃ m : Nat, n = (m : Int) := ⟨n.toNat, by omega⟩
    rw [if_pos h0]
    have e : (⟨(Lib.itoa (min (m : Int) 2147483647)).toArray⟩ : ByteArray) = decB m := by
      rw [show min (m : Int) 2147483647 = (m : Int) by omega, Lib.itoa_nonneg]
      rfl
    rw [e]
    refine Ev.congr (fun k => fold_snoc k (s ++ decB m) l c0) (ev_bind h ?_)
    rw [← hp h0]
    exact part_num c1 nm s bs m (by omega) hs hi hsz ht
  · rw [if_neg h0, ← hn (by omega)]
    exact h
theorem lst_new (n : Int) (h : 0 ≤ n) : ctrl_Parse.lst n (-1) = n := by
  unfold ctrl_Parse.lst mx
  rw [if_neg (by decide)]
  split <;> omega
theorem fold_all (b0 b1 b2 b3 b4 b5 b6 b7 : Bool) (n8 n9 n10 n11 : Int) (h8 : -1 ≤ n8 ∧ n8 ≤ 2147483647) (h9 : -1 ≤ n9 ∧ n9 ≤ 2147483647) (h10 : -1 ≤ n10 ∧ n10 ≤ 2147483647) (h11 : -1 ≤ n11 ∧ n11 ≤ 2147483647) :
    Ev (fun k => ctrl_Parse.fold k ctrl_Parse.none_ (textL ⟨b0, b1, b2, b3, b4, b5, b6, b7, n8, n9, n10, n11⟩)) ⟨b0, b1, b2, b3, b4, b5, b6, b7, n8, n9, n10, n11⟩ := by
  have f0 : Ev (fun k => ctrl_Parse.fold k ctrl_Parse.none_ []) ⟨false, false, false, false, false, false, false, false, -1, -1, -1, -1⟩ := Ev.now _
  have f1 := fold_word (c2 := ⟨b0, false, false, false, false, false, false, false, -1, -1, -1, -1⟩) f0 b0 ⟨#[110, 111, 45, 115, 116, 111, 114, 101]⟩ (fun h => by subst h; kernel_rfl) (fun h => by rw [h])
  have f2 := fold_word (c2 := ⟨b0, b1, false, false, false, false, false, false, -1, -1, -1, -1⟩) f1 b1 ⟨#[110, 111, 45, 99, 97, 99, 104, 101]⟩ (fun h => by subst h; kernel_rfl) (fun h => by rw [h])
  have f3 := fold_word (c2 := ⟨b0, b1, b2, false, false, false, false, false, -1, -1, -1, -1⟩) f2 b2 ⟨#[112, 114, 105, 118, 97, 116, 101]⟩ (fun h => by subst h; kernel_rfl) (fun h => by rw [h])
  have f4 := fold_word (c2 := ⟨b0, b1, b2, b3, false, false, false, false, -1, -1, -1, -1⟩) f3 b3 ⟨#[112, 117, 98, 108, 105, 99]⟩ (fun h => by subst h; kernel_rfl) (fun h => by rw [h])
  have f5 := fold_word (c2 := ⟨b0, b1, b2, b3, b4, false, false, false, -1, -1, -1, -1⟩) f4 b4 ⟨#[109, 117, 115, 116, 45, 114, 101, 118, 97, 108, 105, 100, 97, 116, 101]⟩ (fun h => by subst h; kernel_rfl) (fun h => by rw [h])
  have f6 := fold_word (c2 := ⟨b0, b1, b2, b3, b4, b5, false, false, -1, -1, -1, -1⟩) f5 b5 ⟨#[112, 114, 111, 120, 121, 45, 114, 101, 118, 97, 108, 105, 100, 97, 116, 101]⟩ (fun h => by subst h; kernel_rfl) (fun h => by rw [h])
  have f7 := fold_word (c2 := ⟨b0, b1, b2, b3, b4, b5, b6, false, -1, -1, -1, -1⟩) f6 b6 ⟨#[111, 110, 108, 121, 45, 105, 102, 45, 99, 97, 99, 104, 101, 100]⟩ (fun h => by subst h; kernel_rfl) (fun h => by rw [h])
  have f8 := fold_num (c2 := ⟨b0, b1, b2, b3, b4, b5, b6, false, n8, -1, -1, -1⟩) f7 n8 ⟨#[109, 97, 120, 45, 97, 103, 101]⟩ ⟨#[109, 97, 120, 45, 97, 103, 101, 61]⟩ [false, false, false, false, false, false, false, true, false, false, false] h8.1 h8.2 (by decide) (by decide) (by decide) (by kernel_rfl) (fun h => by show (⟨b0, b1, b2, b3, b4, b5, b6, false, ctrl_Parse.lst n8 (-1), -1, -1, -1⟩ : ctrl_Parse.Ct) = _; rw [lst_new _ h]) (fun h => by rw [h])
  have f9 := fold_num (c2 := ⟨b0, b1, b2, b3, b4, b5, b6, false, n8, n9, -1, -1⟩) f8 n9 ⟨#[115, 45, 109, 97, 120, 97, 103, 101]⟩ ⟨#[115, 45, 109, 97, 120, 97, 103, 101, 61]⟩ [false, false, false, false, false, false, false, false, true, false, false] h9.1 h9.2 (by decide) (by decide) (by decide) (by kernel_rfl) (fun h => by show (⟨b0, b1, b2, b3, b4, b5, b6, false, n8, ctrl_Parse.lst n9 (-1), -1, -1⟩ : ctrl_Parse.Ct) = _; rw [lst_new _ h]) (fun h => by rw [h])
  have f10 := fold_num (c2 := ⟨b0, b1, b2, b3, b4, b5, b6, false, n8, n9, n10, -1⟩) f9 n10 ⟨#[109, 105, 110, 45, 102, 114, 101, 115, 104]⟩ ⟨#[109, 105, 110, 45, 102, 114, 101, 115, 104, 61]⟩ [false, false, false, false, false, false, false, false, false, true, false] h10.1 h10.2 (by decide) (by decide) (by decide) (by kernel_rfl) (fun h => by show (⟨b0, b1, b2, b3, b4, b5, b6, false, n8, n9, ctrl_Parse.lst n10 (-1), -1⟩ : ctrl_Parse.Ct) = _; rw [lst_new _ h]) (fun h => by rw [h])
  have f11 := fold_word (c2 := ⟨b0, b1, b2, b3, b4, b5, b6, b7, n8, n9, n10, -1⟩) f10 b7 ⟨#[109, 97, 120, 45, 115, 116, 97, 108, 101]⟩ (fun h => by subst h; kernel_rfl) (fun h => by rw [h])
  have f12 := fold_num (c2 := ⟨b0, b1, b2, b3, b4, b5, b6, b7, n8, n9, n10, n11⟩) f11 n11 ⟨#[109, 97, 120, 45, 115, 116, 97, 108, 101]⟩ ⟨#[109, 97, 120, 45, 115, 116, 97, 108, 101, 61]⟩ [false, false, false, false, false, false, false, false, false, false, true] h11.1 h11.2 (by decide) (by decide) (by decide) (by kernel_rfl) (fun h => by show (⟨b0, b1, b2, b3, b4, b5, b6, b7, n8, n9, n10, ctrl_Parse.lst n11 (-1)⟩ : ctrl_Parse.Ct) = _; rw [lst_new _ h]) (fun h => by rw [h])
  exact f12
end Go.Proofs.YtdgimhaghhjdcaaDoor.Ctrl
