/- A control's text: the program's and the document's. -/
import Derived.Test.YtdgimhaghhjdcaaDoorCtrlT
import Derived.Test.YtdgimhaghhjdcaaDoorPlainA
import Derived.Test.YtdgimhaghhjdcaaDoorGx5
set_option linter.unusedVariables false
set_option linter.unusedSimpArgs false
namespace Go.Proofs.YtdgimhaghhjdcaaDoor.Ctrl
open Go.RowKit Go.Proofs.YtdgimhaghhjdcaaDoor.G Go.Proofs.YtdgimhaghhjdcaaDoorW.PrintWords Go.Proofs.YtdgimhaghhjdcaaDoorW.PrintMore Go.Proofs.YtdgimhaghhjdcaaDoor.Plain

def J (l : List ByteArray) : ByteArray := ⟨(strings_Join.text [44, 32] l).toArray⟩
theorem J_snoc (l : List ByteArray) (s : ByteArray) : J (l ++ [s]) = if l = [] then s else J l ++ ⟨#[44, 32]⟩ ++ s := by
  cases l with
  | nil =>
    rw [if_pos rfl]
    refine bytes_inj ?_
    show List.map _ (s.data.toList ++ []) = List.map _ s.data.toList
    rw [List.append_nil]
  | cons x r =>
    rw [if_neg (by simp)]
    refine bytes_inj ?_
    rw [bytes_append, bytes_append]
    show List.map _ (x.data.toList ++ (r ++ [s]).flatMap _) = List.map _ (x.data.toList ++ r.flatMap _) ++ List.map _ [44, 32] ++ List.map _ s.data.toList
    rw [List.flatMap_append]
    simp
def Full (l : List ByteArray) : Prop := ∀ x ∈ l, 0 < x.size
theorem Full.nil : Full [] := fun x h => by cases h
theorem Full.addW {l : List ByteArray} (h : Full l) (b : Bool) (s : ByteArray) (hs : 0 < s.size) : Full (addW b s l) := by
  intro x hx
  unfold Ctrl.addW at hx
  split at hx
  · rcases List.mem_append.1 hx with hx | hx
    · exact h x hx
    · rw [List.mem_singleton.1 hx]; exact hs
  · exact h x hx
theorem Full.addN {l : List ByteArray} (h : Full l) (n : Int) (s : ByteArray) (hs : 0 < s.size) : Full (addN n s l) := by
  rw [addN_eq]
  refine h.addW _ _ ?_
  rw [ByteArray.size_append]
  omega
theorem J_empty {l : List ByteArray} (h : Full l) : (J l).size = 0 ↔ l = [] := by
  constructor
  · intro h0
    cases l with
    | nil => rfl
    | cons x r =>
      have hx := h x List.mem_cons_self
      have : (J (x :: r)).size = (x.data.toList ++ r.flatMap (fun (y : ByteArray) => ([44, 32] : List UInt8) ++ y.data.toList)).length := rfl
      rw [List.length_append, data_length] at this
      omega
  · rintro rfl; rfl
theorem J_small {l : List ByteArray} {n : Nat} (h : Short l n) (hn : n ≤ 12) : (J l).size ≤ 2000 := by
  have h1 := h.1
  have h2 := sum_le l h.2
  rcases Nat.eq_zero_or_pos l.length with h0 | h0
  · rw [List.length_eq_zero_iff.1 h0]; exact Nat.zero_le _
  · have := strings_Join.text_len ⟨#[44, 32]⟩ l h0
    have hs : (⟨#[44, 32]⟩ : ByteArray).size = 2 := rfl
    rw [hs] at this
    show (strings_Join.text [44, 32] l).length ≤ _
    have e : (strings_Join.text [44, 32] l).length = (strings_Join.text (⟨#[44, 32]⟩ : ByteArray).data.toList l).length := rfl
    omega
theorem add_eq {l : List ByteArray} {n : Nat} (hS : Short l n) (hF : Full l) (hn : n ≤ 12) (b : Bool) (s : ByteArray) (hs : s.size ≤ 1000) : ambryref13_add.f (J l) b s = some (J (addW b s l)) := by
  have hj := J_small hS hn
  unfold ambryref13_add.f addW
  rw [if_pos (by omega)]
  cases b with
  | false => rfl
  | true =>
    rw [if_pos rfl, if_pos rfl, J_snoc]
    by_cases h : l = []
    · rw [if_pos ((J_empty hF).2 h), if_pos h]
    · rw [if_neg (fun h0 => h ((J_empty hF).1 h0)), if_neg h]
theorem arr_append (a b : List UInt8) : (⟨a.toArray⟩ : ByteArray) ++ ⟨b.toArray⟩ = ⟨(a ++ b).toArray⟩ := by
  refine bytes_inj ?_
  rw [bytes_append]
  show List.map _ a ++ List.map _ b = List.map _ (a ++ b)
  rw [List.map_append]
theorem digit_at : ∀ n, n < 10 → (⟨#[48, 49, 50, 51, 52, 53, 54, 55, 56, 57]⟩ : ByteArray).extract n (n + 1) = ⟨[UInt8.ofNat (48 + n)].toArray⟩ := by decide +kernel
theorem dec_size (n : Nat) (h : n ≤ 9223372036854775807) : (⟨(Lib.decDigits n).toArray⟩ : ByteArray).size ≤ 21 := by
  have := Lib.itoa_length_le (n : Int) (by omega) (by omega)
  rw [Lib.itoa_nonneg] at this
  exact this
theorem dec_ev : ∀ (n : Nat), n ≤ 2147483647 → Ev (fun k => ambryref10_Dec.f k (n : Int)) ⟨(Lib.decDigits n).toArray⟩ := by
  intro n
  induction n using Nat.strongRecOn with
  | _ n ih =>
    intro hn
    by_cases h : n < 10
    · refine Ev.step (fun k => ambryref10_Dec.f.eq_2 (n : Int) k) (ev_pos (by omega) (ev_pos (by omega) ?_))
      rw [wrap_succ (by omega)]
      refine ev_pos (by omega) (ev_pos (by omega) (ev_ret ?_))
      rw [Int.toNat_natCast, Int.toNat_natCast, digit_at n h, Lib.decDigits_one h]
    · refine Ev.step (fun k => ambryref10_Dec.f.eq_2 (n : Int) k) (ev_neg (by omega) ?_)
      have e1 : wrap64 (Int.tdiv (n : Int) 10) = ((n / 10 : Nat) : Int) := by
        rw [show Int.tdiv (n : Int) 10 = ((n / 10 : Nat) : Int) from rfl]
        exact wrap_nat (by omega) (by omega)
      have e2 : Int.tmod (n : Int) 10 = ((n % 10 : Nat) : Int) := rfl
      rw [e1, e2]
      have s1 := dec_size (n / 10) (by omega)
      have s2 := dec_size (n % 10) (by omega)
      refine ev_bind (ih (n / 10) (by omega) (by omega)) (ev_bind (ih (n % 10) (by omega) (by omega)) (ev_pos (by omega) (ev_ret ?_)))
      rw [arr_append, Lib.decDigits_one (i := n % 10) (by omega)]
      conv => rhs; rw [Lib.decDigits, dif_neg h]
theorem num_ev {l : List ByteArray} {j : Nat} (hS : Short l j) (hF : Full l) (hj : j ≤ 12) (n : Int) (s : ByteArray) (hs : s.size ≤ 50) : Ev (fun k => ambryref13_num.f k (J l) n s) (J (addN n s l)) := by
  obtain ⟨m, hm⟩ : ∃ m : Nat, mn (mx n 0) 2147483647 = (m : Int) := ⟨(mn (mx n 0) 2147483647).toNat, by unfold mn mx; split <;> split <;> omega⟩
  have hm2 : m ≤ 2147483647 := by unfold mn mx at hm; split at hm <;> split at hm <;> omega
  refine Ev.congr (fun k => ambryref13_num.f.eq_1 k (J l) n s) ?_
  rw [hm]
  have hd := dec_size m (by omega)
  refine ev_bind (dec_ev m hm2) (ev_pos (by omega) (ev_some (add_eq hS hF hj _ _ (by rw [ByteArray.size_append]; omega)) (ev_ret ?_)))
  rw [addN_eq]
  by_cases h : 0 ≤ n
  · have e : min n 2147483647 = (m : Int) := by unfold mn mx at hm; split at hm <;> split at hm <;> omega
    rw [e, Lib.itoa_nonneg]
  · have h1 : decide (0 ≤ n) = false := by simpa using h
    rw [h1]
    rfl
theorem text_ref (b0 b1 b2 b3 b4 b5 b6 b7 : Bool) (n8 n9 n10 n11 : Int) (h8 : -9223372036854775808 ≤ n8 ∧ n8 ≤ 9223372036854775807) (h9 : -9223372036854775808 ≤ n9 ∧ n9 ≤ 9223372036854775807) (h10 : -9223372036854775808 ≤ n10 ∧ n10 ≤ 9223372036854775807) (h11 : -9223372036854775808 ≤ n11 ∧ n11 ≤ 9223372036854775807) :
    Ev (fun k => ambryref13_ControlText.f k b0 b1 b2 b3 b4 b5 b6 b7 n8 n9 n10 n11) (textOf ⟨b0, b1, b2, b3, b4, b5, b6, b7, n8, n9, n10, n11⟩) ∧ Short (textL ⟨b0, b1, b2, b3, b4, b5, b6, b7, n8, n9, n10, n11⟩) 12 ∧ Full (textL ⟨b0, b1, b2, b3, b4, b5, b6, b7, n8, n9, n10, n11⟩) := by
  have S0 := Short.nil
  have F0 := Full.nil
  have S1 := S0.addW b0 ⟨#[110, 111, 45, 115, 116, 111, 114, 101]⟩ (by decide)
  have F1 := F0.addW b0 ⟨#[110, 111, 45, 115, 116, 111, 114, 101]⟩ (by decide)
  have S2 := S1.addW b1 ⟨#[110, 111, 45, 99, 97, 99, 104, 101]⟩ (by decide)
  have F2 := F1.addW b1 ⟨#[110, 111, 45, 99, 97, 99, 104, 101]⟩ (by decide)
  have S3 := S2.addW b2 ⟨#[112, 114, 105, 118, 97, 116, 101]⟩ (by decide)
  have F3 := F2.addW b2 ⟨#[112, 114, 105, 118, 97, 116, 101]⟩ (by decide)
  have S4 := S3.addW b3 ⟨#[112, 117, 98, 108, 105, 99]⟩ (by decide)
  have F4 := F3.addW b3 ⟨#[112, 117, 98, 108, 105, 99]⟩ (by decide)
  have S5 := S4.addW b4 ⟨#[109, 117, 115, 116, 45, 114, 101, 118, 97, 108, 105, 100, 97, 116, 101]⟩ (by decide)
  have F5 := F4.addW b4 ⟨#[109, 117, 115, 116, 45, 114, 101, 118, 97, 108, 105, 100, 97, 116, 101]⟩ (by decide)
  have S6 := S5.addW b5 ⟨#[112, 114, 111, 120, 121, 45, 114, 101, 118, 97, 108, 105, 100, 97, 116, 101]⟩ (by decide)
  have F6 := F5.addW b5 ⟨#[112, 114, 111, 120, 121, 45, 114, 101, 118, 97, 108, 105, 100, 97, 116, 101]⟩ (by decide)
  have S7 := S6.addW b6 ⟨#[111, 110, 108, 121, 45, 105, 102, 45, 99, 97, 99, 104, 101, 100]⟩ (by decide)
  have F7 := F6.addW b6 ⟨#[111, 110, 108, 121, 45, 105, 102, 45, 99, 97, 99, 104, 101, 100]⟩ (by decide)
  have S8 := S7.addN n8 ⟨#[109, 97, 120, 45, 97, 103, 101, 61]⟩ (by decide) h8.1 h8.2
  have F8 := F7.addN n8 ⟨#[109, 97, 120, 45, 97, 103, 101, 61]⟩ (by decide)
  have S9 := S8.addN n9 ⟨#[115, 45, 109, 97, 120, 97, 103, 101, 61]⟩ (by decide) h9.1 h9.2
  have F9 := F8.addN n9 ⟨#[115, 45, 109, 97, 120, 97, 103, 101, 61]⟩ (by decide)
  have S10 := S9.addN n10 ⟨#[109, 105, 110, 45, 102, 114, 101, 115, 104, 61]⟩ (by decide) h10.1 h10.2
  have F10 := F9.addN n10 ⟨#[109, 105, 110, 45, 102, 114, 101, 115, 104, 61]⟩ (by decide)
  have S11 := S10.addW b7 ⟨#[109, 97, 120, 45, 115, 116, 97, 108, 101]⟩ (by decide)
  have F11 := F10.addW b7 ⟨#[109, 97, 120, 45, 115, 116, 97, 108, 101]⟩ (by decide)
  have S12 := S11.addN n11 ⟨#[109, 97, 120, 45, 115, 116, 97, 108, 101, 61]⟩ (by decide) h11.1 h11.2
  have F12 := F11.addN n11 ⟨#[109, 97, 120, 45, 115, 116, 97, 108, 101, 61]⟩ (by decide)
  refine ⟨?_, S12, F12⟩
  refine Ev.congr (fun k => ambryref13_ControlText.f.eq_1 k b0 b1 b2 b3 b4 b5 b6 b7 n8 n9 n10 n11) ?_
  refine ev_some (add_eq S0 F0 (by decide) b0 ⟨#[110, 111, 45, 115, 116, 111, 114, 101]⟩ (by decide)) ?_
  refine ev_some (add_eq S1 F1 (by decide) b1 ⟨#[110, 111, 45, 99, 97, 99, 104, 101]⟩ (by decide)) ?_
  refine ev_some (add_eq S2 F2 (by decide) b2 ⟨#[112, 114, 105, 118, 97, 116, 101]⟩ (by decide)) ?_
  refine ev_some (add_eq S3 F3 (by decide) b3 ⟨#[112, 117, 98, 108, 105, 99]⟩ (by decide)) ?_
  refine ev_some (add_eq S4 F4 (by decide) b4 ⟨#[109, 117, 115, 116, 45, 114, 101, 118, 97, 108, 105, 100, 97, 116, 101]⟩ (by decide)) ?_
  refine ev_some (add_eq S5 F5 (by decide) b5 ⟨#[112, 114, 111, 120, 121, 45, 114, 101, 118, 97, 108, 105, 100, 97, 116, 101]⟩ (by decide)) ?_
  refine ev_some (add_eq S6 F6 (by decide) b6 ⟨#[111, 110, 108, 121, 45, 105, 102, 45, 99, 97, 99, 104, 101, 100]⟩ (by decide)) ?_
  refine ev_bind (num_ev S7 F7 (by decide) n8 ⟨#[109, 97, 120, 45, 97, 103, 101, 61]⟩ (by decide)) ?_
  refine ev_bind (num_ev S8 F8 (by decide) n9 ⟨#[115, 45, 109, 97, 120, 97, 103, 101, 61]⟩ (by decide)) ?_
  refine ev_bind (num_ev S9 F9 (by decide) n10 ⟨#[109, 105, 110, 45, 102, 114, 101, 115, 104, 61]⟩ (by decide)) ?_
  refine ev_some (add_eq S10 F10 (by decide) b7 ⟨#[109, 97, 120, 45, 115, 116, 97, 108, 101]⟩ (by decide)) ?_
  refine ev_bind (num_ev S11 F11 (by decide) n11 ⟨#[109, 97, 120, 45, 115, 116, 97, 108, 101, 61]⟩ (by decide)) ?_
  exact ev_ret rfl
end Go.Proofs.YtdgimhaghhjdcaaDoor.Ctrl
