/- A number's text, read. -/
import Derived.Test.YtdgimhaghhjdcaaDoorCtrlP
set_option linter.unusedVariables false
set_option linter.unusedSimpArgs false
namespace Go.Proofs.YtdgimhaghhjdcaaDoor.Ctrl
open Go.RowKit Go.Proofs.YtdgimhaghhjdcaaDoor.G Go.Proofs.YtdgimhaghhjdcaaDoorW.PrintWords Go.Proofs.YtdgimhaghhjdcaaDoorW.PrintMore Go.Proofs.YtdgimhaghhjdcaaDoor.Plain

def decB (m : Nat) : ByteArray := ⟨(Lib.decDigits m).toArray⟩
theorem decB_eq (m : Nat) : decB m = ⟨(Lib.decDigits m).toArray⟩ := rfl
theorem digit_byte (d : Nat) (h : d < 10) : bytesOf ⟨[UInt8.ofNat (48 + d)].toArray⟩ = [((48 + d : Nat) : Int)] := by
  show [((UInt8.ofNat (48 + d)).toNat : Int)] = _
  rw [UInt8.toNat_ofNat']
  congr 2
  omega
theorem dec_bytes (m : Nat) : bytesOf (decB m) = if m < 10 then [((48 + m : Nat) : Int)] else bytesOf (decB (m / 10)) ++ [((48 + m % 10 : Nat) : Int)] := by
  unfold decB
  rw [Lib.decDigits]
  by_cases h : m < 10
  · rw [dif_pos h, if_pos h, digit_byte m h]
  · rw [dif_neg h, if_neg h, ← arr_append, bytes_append, digit_byte _ (by omega)]
theorem dec_range : ∀ (m : Nat), ∀ c ∈ bytesOf (decB m), 48 ≤ c ∧ c ≤ 57 := by
  intro m
  induction m using Nat.strongRecOn with
  | _ m ih =>
    intro c hc
    rw [dec_bytes] at hc
    split at hc
    · rw [List.mem_singleton.1 hc]; omega
    · rcases List.mem_append.1 hc with hc | hc
      · exact ih (m / 10) (by omega) c hc
      · rw [List.mem_singleton.1 hc]; omega
theorem dec_pos (m : Nat) : 1 ≤ (bytesOf (decB m)).length := by
  rw [dec_bytes]
  split
  · exact Nat.le_refl _
  · rw [List.length_append]; exact Nat.le_add_left _ _
theorem sec_step (x : ByteArray) (acc j d : Nat) (r : Int) (hj : j < x.size) (hs : x.size ≤ 1000) (hd : d < 10) (hv : 10 * acc + d ≤ 2147483647) (hb : (bytesOf x).getD j 0 = ((48 + d : Nat) : Int)) (h : Ev (fun k => ctrl_Seconds.l0 k x ((10 * acc + d : Nat) : Int) (x.size : Int) ((j + 1 : Nat) : Int)) r) : Ev (fun k => ctrl_Seconds.l0 k x (acc : Int) (x.size : Int) (j : Int)) r := by
  refine Ev.step (fun k => ctrl_Seconds.l0.eq_2 x (acc : Int) (x.size : Int) (j : Int) k) (ev_pos (by omega) (ev_pos (by omega) (ev_pos (by omega) ?_)))
  rw [bt_nat, hb]
  refine ev_neg (by omega) (ev_neg (by omega) ?_)
  rw [wrap_succ (by omega)]
  have e : mn (wrap64 ((wrap64 (10 * (acc : Int))) + (((48 + d : Nat) : Int) - 48) % 256)) 2147483647 = ((10 * acc + d : Nat) : Int) := by
    rw [wrap_nat (n := 10 * (acc : Int)) (by omega) (by omega), show (((48 + d : Nat) : Int) - 48) % 256 = (d : Int) by omega, wrap_nat (by omega) (by omega)]
    unfold mn
    split <;> omega
  rw [e]
  exact h
theorem getD_mid (pre post : List Int) (c : Int) : (pre ++ c :: post).getD pre.length 0 = c := by
  rw [List.getD_eq_getElem?_getD, List.getElem?_append_right (Nat.le_refl _), Nat.sub_self]
  rfl
theorem sec_run (x : ByteArray) (hs : x.size ≤ 1000) : ∀ (m : Nat), m ≤ 2147483647 → ∀ (pre post : List Int) (r : Int), bytesOf x = pre ++ bytesOf (decB m) ++ post →
    Ev (fun k => ctrl_Seconds.l0 k x (m : Int) (x.size : Int) ((pre.length + (bytesOf (decB m)).length : Nat) : Int)) r → Ev (fun k => ctrl_Seconds.l0 k x ((0 : Nat) : Int) (x.size : Int) (pre.length : Int)) r := by
  intro m
  induction m using Nat.strongRecOn with
  | _ m ih =>
    intro hm pre post r hx h
    have hz := size_bytes x
    rw [dec_bytes] at hx h
    by_cases h10 : m < 10
    · rw [if_pos h10] at hx h
      have hl : (bytesOf x).length = pre.length + 1 + post.length := by rw [hx]; simp only [List.length_append, List.length_cons, List.length_nil]
      refine sec_step x 0 pre.length m r (by omega) hs h10 (by omega) ?_ ?_
      · rw [hx, List.append_assoc]; exact getD_mid pre post _
      · rw [show 10 * 0 + m = m by omega]; exact h
    · rw [if_neg h10] at hx h
      have hl : (bytesOf x).length = pre.length + ((bytesOf (decB (m / 10))).length + 1) + post.length := by rw [hx]; simp only [List.length_append, List.length_cons, List.length_nil]
      refine ih (m / 10) (by omega) (by omega) pre ([((48 + m % 10 : Nat) : Int)] ++ post) r (by rw [hx]; simp only [List.append_assoc]) ?_
      refine sec_step x (m / 10) (pre.length + (bytesOf (decB (m / 10))).length) (m % 10) r (by omega) hs (by omega) (by omega) ?_ ?_
      · rw [hx]
        have := getD_mid (pre ++ bytesOf (decB (m / 10))) post ((48 + m % 10 : Nat) : Int)
        rw [List.length_append] at this
        simp only [List.append_assoc, List.singleton_append] at this ⊢
        exact this
      · rw [show 10 * (m / 10) + m % 10 = m by omega]
        rw [List.length_append] at h
        exact h
theorem seconds_dec (m : Nat) (hm : m ≤ 2147483647) : Ev (fun k => ctrl_Seconds.f k (decB m)) (m : Int) := by
  have hs : (decB m).size ≤ 21 := dec_size m (by omega)
  have hz := size_bytes (decB m)
  have hp := dec_pos m
  refine Ev.congr (fun k => ctrl_Seconds.f.eq_1 k (decB m)) ?_
  refine sec_run (decB m) (by omega) m hm [] [] _ (by simp) ?_
  rw [show (([] : List Int).length + (bytesOf (decB m)).length : Nat) = (decB m).size by rw [hz]; simp]
  refine Ev.step (fun k => ctrl_Seconds.l0.eq_2 (decB m) (m : Int) ((decB m).size : Int) ((decB m).size : Int) k) (ev_neg (by omega) (ev_neg ?_ (ev_ret rfl)))
  intro h
  have h2 : (decB m).data.toList = [] := by rw [← ByteArray.toList_eq]; exact h
  have := data_length (decB m)
  rw [h2] at this
  simp at this
  omega
theorem plain_dec (m : Nat) (hm : m ≤ 2147483647) : ctrl_plain.f (decB m) = some (decB m) := by
  have hs : (decB m).size ≤ 21 := dec_size m (by omega)
  unfold ctrl_plain.f ctrl_plain.text
  rw [if_pos (by omega)]
  refine congrArg some ?_
  refine (congrArg (fun l : List UInt8 => (⟨l.toArray⟩ : ByteArray)) (if_neg ?_)).trans rfl
  · rintro ⟨h2, h34, _⟩
    have hp := dec_pos m
    have h0 : (bytesOf (decB m)).getD 0 0 = 34 := by
      show (List.map (fun b : UInt8 => (b.toNat : Int)) (decB m).data.toList).getD 0 0 = 34
      cases hd : (decB m).data.toList with
      | nil => rw [hd] at h2; simp at h2
      | cons a t =>
        rw [hd] at h34
        have : a = 34 := h34
        subst this
        rfl
    have hr := dec_range m ((bytesOf (decB m)).getD 0 0) (by
      rw [List.getD_eq_getElem?_getD, List.getElem?_eq_getElem hp]
      exact List.getElem_mem _)
    omega
end Go.Proofs.YtdgimhaghhjdcaaDoor.Ctrl
