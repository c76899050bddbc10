/- How a bucket fills up, in plain Lean. -/
import Derived.Test.YtafpaomcmjccaaaDirQ
set_option linter.unusedVariables false
set_option linter.unusedSimpArgs false
namespace Go.Proofs.Ytafpaomcmjccaaa.Dir
open Go.RowKit Go.Proofs.Ytafpaomcmjccaaa.G Go.Proofs.YtafpaomcmjccaaaW.PrintWords Go.Proofs.YtafpaomcmjccaaaW.PrintMore Go.Proofs.Ytafpaomcmjccaaa.Foot

/-- After i tries to set an entry of one key. -/
structure FullD (S : Nat) (k1 k2 : Key) (i : Nat) (D : Di) : Prop where
  ok : D.Ok
  s : D.s = S
  ne : D.at_ k2 ≠ D.at_ k1
  one : (D.of k1).length = min i S
  fst : ∀ x, (D.of k1)[0]? = some x → x.f0 = k1.tag ∧ x.f1 = 0
  two : D.of k2 = []
  all : D.all.length = min i S
section
variable {S i : Nat} {k1 k2 : Key} {D : Di}
theorem FullD.step (h : FullD S k1 k2 i D) (hi : i < 4294967296) (hok : (D.ins k1 ⟨k1.tag, (i : Int), 1, 1⟩).2.Ok) :
    (D.ins k1 ⟨k1.tag, (i : Int), 1, 1⟩).1 = (if i < S then 0 else 50) ∧ FullD S k1 k2 (i + 1) (D.ins k1 ⟨k1.tag, (i : Int), 1, 1⟩).2 := by
  have h1 := h.one
  by_cases hlt : i < S
  · have e := ins_ok (D := D) (k := k1) (x := ⟨k1.tag, (i : Int), 1, 1⟩) (show (1 : Int) ≠ 0 by decide) (show (1 : Int) < 9223372036854775808 by decide) (by rw [h1, h.s]; omega)
    rw [e] at hok ⊢
    have hs := of_lay_same (h.ok.at_lt k1) (D.of k1 ++ [⟨k1.tag, (i : Int), 1, 1⟩]) k1 rfl
    refine ⟨by rw [if_pos hlt], hok, h.s, by rw [at_lay, at_lay]; exact h.ne, ?_, ?_, ?_, ?_⟩
    · rw [hs, List.length_append, h1]; show _ + 1 = _; omega
    · intro x hx
      rw [hs] at hx
      by_cases h0 : 0 < (D.of k1).length
      · rw [List.getElem?_append_left h0] at hx
        exact h.fst x hx
      · rw [List.getElem?_append_right (by omega), show 0 - (D.of k1).length = 0 by omega] at hx
        have h0i : i = 0 := by omega
        subst h0i
        cases hx
        exact ⟨rfl, rfl⟩
    · rw [of_lay_ne _ _ h.ne, h.two]
    · have := len_lay h.ok k1 (D.of k1 ++ [⟨k1.tag, (i : Int), 1, 1⟩])
      rw [List.length_append, List.length_singleton] at this
      have h2 := h.all
      show (layD D (D.at_ k1) (D.of k1 ++ [⟨k1.tag, (i : Int), 1, 1⟩])).all.length = _
      omega
  · have e := ins_full (D := D) (k := k1) (x := ⟨k1.tag, (i : Int), 1, 1⟩) (show (1 : Int) ≠ 0 by decide) (show (1 : Int) < 9223372036854775808 by decide) (by rw [h1, h.s]; omega)
    rw [e] at hok ⊢
    refine ⟨by rw [if_neg hlt], hok, h.s, h.ne, ?_, h.fst, h.two, ?_⟩
    · rw [h1]; omega
    · rw [h.all]; omega
/-- One more in another bucket. -/
structure FullE (S : Nat) (k1 : Key) (i : Nat) (D : Di) : Prop where
  ok : D.Ok
  s : D.s = S
  one : (D.of k1).length = min i S
  fst : ∀ x, (D.of k1)[0]? = some x → x.f0 = k1.tag ∧ x.f1 = 0
  all : D.all.length = min i S + 1
theorem FullD.other (h : FullD S k1 k2 i D) (hok : (D.ins k2 ⟨k2.tag, 99, 1, 1⟩).2.Ok) : (D.ins k2 ⟨k2.tag, 99, 1, 1⟩).1 = 0 ∧ FullE S k1 i (D.ins k2 ⟨k2.tag, 99, 1, 1⟩).2 := by
  have e := ins_ok (D := D) (k := k2) (x := ⟨k2.tag, 99, 1, 1⟩) (show (1 : Int) ≠ 0 by decide) (show (1 : Int) < 9223372036854775808 by decide) (by rw [h.two]; have := h.ok.s1; show 0 ≠ _; omega)
  rw [e] at hok ⊢
  have hs := of_lay_ne (D := D) (i := D.at_ k2) (D.of k2 ++ [⟨k2.tag, 99, 1, 1⟩]) k1 (fun e => h.ne e.symm)
  refine ⟨rfl, hok, h.s, by rw [hs]; exact h.one, by rw [hs]; exact h.fst, ?_⟩
  have := len_lay h.ok k2 (D.of k2 ++ [⟨k2.tag, 99, 1, 1⟩])
  rw [List.length_append, List.length_singleton] at this
  have h2 := h.all
  show (layD D (D.at_ k2) (D.of k2 ++ [⟨k2.tag, 99, 1, 1⟩])).all.length = _
  omega
theorem FullE.gone (h : FullE S k1 i D) (hi : S ≤ i) : ∃ D', D.del k1 0 = (true, D') ∧ (D'.Ok → (D'.ins k1 ⟨k1.tag, 77, 1, 1⟩).1 = 0 ∧ (D'.ins k1 ⟨k1.tag, 77, 1, 1⟩).2.all.length = S + 1) := by
  have hs1 := h.ok.s1
  have h1 := h.one
  have hS := h.s
  have hl : 0 < (D.of k1).length := by omega
  obtain ⟨x, hx⟩ : ∃ x, (D.of k1)[0]? = some x := ⟨_, List.getElem?_eq_getElem hl⟩
  obtain ⟨f0, f1⟩ := h.fst x hx
  have hrd : rd_T55 (D.of k1) ((0 : Nat) : Int) = x := by
    unfold rd_T55
    rw [Int.toNat_natCast, List.getD_eq_getElem?_getD, hx]
    rfl
  cases hd : delIdx k1.tag 0 (D.of k1) with
  | none =>
    unfold delIdx at hd
    rw [List.find?_eq_none] at hd
    refine absurd ?_ (hd 0 ?_)
    · rw [hrd]; unfold hit; rw [f0, f1]; simp
    · unfold downs
      exact List.mem_map.2 ⟨(D.of k1).length - 1, List.mem_range.2 (by omega), by omega⟩
  | some j =>
    have hj : j < (D.of k1).length := by
      have := List.mem_of_find?_eq_some hd
      unfold downs at this
      obtain ⟨y, hy, rfl⟩ := List.mem_map.1 this
      have := List.mem_range.1 hy
      omega
    refine ⟨layD D (D.at_ k1) ((D.of k1).eraseIdx j), by unfold Di.del; rw [hd], fun hok => ?_⟩
    have hs := of_lay_same (h.ok.at_lt k1) ((D.of k1).eraseIdx j) k1 rfl
    have hle := List.length_eraseIdx_of_lt hj
    have e := ins_ok (D := layD D (D.at_ k1) ((D.of k1).eraseIdx j)) (k := k1) (x := ⟨k1.tag, 77, 1, 1⟩) (show (1 : Int) ≠ 0 by decide) (show (1 : Int) < 9223372036854775808 by decide) (by rw [hs, hle]; show _ ≠ D.s; omega)
    rw [e]
    refine ⟨rfl, ?_⟩
    have a1 := len_lay h.ok k1 ((D.of k1).eraseIdx j)
    have a2 := len_lay hok k1 ((layD D (D.at_ k1) ((D.of k1).eraseIdx j)).of k1 ++ [⟨k1.tag, 77, 1, 1⟩])
    rw [List.length_append, List.length_singleton] at a2
    have a3 := h.all
    show (layD (layD D (D.at_ k1) ((D.of k1).eraseIdx j)) _ _).all.length = _
    omega
end
theorem clamp_seven : clamp 7 4096 = 7 := by decide
theorem seven (k : Int) (h0 : 0 ≤ k) (h1 : k < 65536) : ((k + 1) % 65536 % 7 % ((7 : Nat) : Int)).toNat ≠ (k % 7 % ((7 : Nat) : Int)).toNat := by
  rw [show ((7 : Nat) : Int) = 7 from rfl]
  by_cases h : k = 65535
  · subst h; decide
  · rw [Int.emod_eq_of_lt (show (0 : Int) ≤ k + 1 by omega) (show k + 1 < 65536 by omega)]
    omega
theorem full_new (S : Nat) (s : Int) (k : Int) (h0 : 0 ≤ k) (h1 : k < 65536) (hs : clamp s 16 = S) : FullD S (keyOf k) (keyOf ((k + 1) % 65536)) 0 (newD 7 s) := by
  refine ⟨newD_ok _ _, hs, ?_, by rw [newD_of]; show 0 = _; omega, fun x hx => (by rw [newD_of] at hx; cases hx), newD_of _ _ _, by rw [newD_all]; show 0 = _; omega⟩
  rw [newD_at, newD_at, keyOf_num, keyOf_num, clamp_seven]
  exact seven k h0 h1
end Go.Proofs.Ytafpaomcmjccaaa.Dir
