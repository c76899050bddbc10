/- A control's text: the program's and the document's. A number's text, read. What parts say, one by one. -/
import Derived.Test.YtdgimhaghhjdcaaDoorCtrlT
import Derived.Test.YtdgimhaghhjdcaaDoorPlainA
import Derived.Test.YtdgimhaghhjdcaaDoorGx5
set_option linter.unusedVariables false
set_option linter.unusedSimpArgs false
namespace Go.Proofs.YtdgimhaghhjdcaaDoor.Ctrl
open Go.RowKit Go.Proofs.YtdgimhaghhjdcaaDoor.G Go.Proofs.YtdgimhaghhjdcaaDoorW.PrintWords Go.Proofs.YtdgimhaghhjdcaaDoorW.PrintMore Go.Proofs.YtdgimhaghhjdcaaDoor.Plain

def J (l : List ByteArray) : ByteArray := ⟨(strings_Join.text [44, 32] l).toArray⟩
theorem J_snoc (l : List ByteArray) (s : ByteArray) : J (l ++ [s]) = if l = [] then s else J l ++ ⟨#[44, 32]⟩ ++ s := by
  cases l with
  | nil =>
    rw [if_pos rfl]
    refine bytes_inj ?_
    show List.map _ (s.data.toList ++ []) = List.map _ s.data.toList
    rw [List.append_nil]
  | cons x r =>
    rw [if_neg (by simp)]
    refine bytes_inj ?_
    rw [bytes_append, bytes_append]
    show List.map _ (x.data.toList ++ (r ++ [s]).flatMap _) = List.map _ (x.data.toList ++ r.flatMap _) ++ List.map _ [44, 32] ++ List.map _ s.data.toList
    rw [List.flatMap_append]
    simp
def Full (l : List ByteArray) : Prop := ∀ x ∈ l, 0 < x.size
theorem Full.nil : Full [] := fun x h => by cases h
theorem Full.addW {l : List ByteArray} (h : Full l) (b : Bool) (s : ByteArray) (hs : 0 < s.size) : Full (addW b s l) := by
  intro x hx
  unfold Ctrl.addW at hx
  split at hx
  · rcases List.mem_append.1 hx with hx | hx
    · exact h x hx
    · rw [List.mem_singleton.1 hx]; exact hs
  · exact h x hx
theorem Full.addN {l : List ByteArray} (h : Full l) (n : Int) (s : ByteArray) (hs : 0 < s.size) : Full (addN n s l) := by
  rw [addN_eq]
  refine h.addW _ _ ?_
  rw [ByteArray.size_append]
  omega
theorem J_empty {l : List ByteArray} (h : Full l) : (J l).size = 0 ↔ l = [] := by
  constructor
  · intro h0
    cases l with
    | nil => rfl
    | cons x r =>
      have hx := h x List.mem_cons_self
      have : (J (x :: r)).size = (x.data.toList ++ r.flatMap (fun (y : ByteArray) => ([44, 32] : List UInt8) ++ y.data.toList)).length := rfl
      rw [List.length_append, data_length] at this
      omega
  · rintro rfl; rfl
theorem J_small {l : List ByteArray} {n : Nat} (h : Short l n) (hn : n ≤ 12) : (J l).size ≤ 2000 := by
  have h1 := h.1
  have h2 := sum_le l h.2
  rcases Nat.eq_zero_or_pos l.length with h0 | h0
  · rw [List.length_eq_zero_iff.1 h0]; exact Nat.zero_le _
  · have := strings_Join.text_len ⟨#[44, 32]⟩ l h0
    have hs : (⟨#[44, 32]⟩ : ByteArray).size = 2 := rfl
    rw [hs] at this
    show (strings_Join.text [44, 32] l).length ≤ _
    have e : (strings_Join.text [44, 32] l).length = (strings_Join.text (⟨#[44, 32]⟩ : ByteArray).data.toList l).length := rfl
    omega
theorem add_eq {l : List ByteArray} {n : Nat} (hS : Short l n) (hF : Full l) (hn : n ≤ 12) (b : Bool) (s : ByteArray) (hs : s.size ≤ 1000) : ambryref13_add.f (J l) b s = some (J (addW b s l)) := by
  have hj := J_small hS hn
  unfold ambryref13_add.f addW
  rw [if_pos (by omega)]
  cases b with
  | false => rfl
  | true =>
    rw [if_pos rfl, if_pos rfl, J_snoc]
    by_cases h : l = []
    · rw [if_pos ((J_empty hF).2 h), if_pos h]
    · rw [if_neg (fun h0 => h ((J_empty hF).1 h0)), if_neg h]
theorem arr_append (a b : List UInt8) : (⟨a.toArray⟩ : ByteArray) ++ ⟨b.toArray⟩ = ⟨(a ++ b).toArray⟩ := by
  refine bytes_inj ?_
  rw [bytes_append]
  show List.map _ a ++ List.map _ b = List.map _ (a ++ b)
  rw [List.map_append]
theorem digit_at : ∀ n, n < 10 → (⟨#[48, 49, 50, 51, 52, 53, 54, 55, 56, 57]⟩ : ByteArray).extract n (n + 1) = ⟨[UInt8.ofNat (48 + n)].toArray⟩ := by decide +kernel
theorem dec_size (n : Nat) (h : n ≤ 9223372036854775807) : (⟨(Lib.decDigits n).toArray⟩ : ByteArray).size ≤ 21 := by
  have := Lib.itoa_length_le (n : Int) (by omega) (by omega)
  rw [Lib.itoa_nonneg] at this
  exact this
theorem dec_ev : ∀ (n : Nat), n ≤ 2147483647 → Ev (fun k => ambryref10_Dec.f k (n : Int)) ⟨(Lib.decDigits n).toArray⟩ := by
  intro n
  induction n using Nat.strongRecOn with
  | _ n ih =>
    intro hn
    by_cases h : n < 10
    · refine Ev.step (fun k => ambryref10_Dec.f.eq_2 (n : Int) k) (ev_pos (by omega) (ev_pos (by omega) ?_))
      rw [wrap_succ (by omega)]
      refine ev_pos (by omega) (ev_pos (by omega) (ev_ret ?_))
      rw [Int.toNat_natCast, Int.toNat_natCast, digit_at n h, Lib.decDigits_one h]
    · refine Ev.step (fun k => ambryref10_Dec.f.eq_2 (n : Int) k) (ev_neg (by omega) ?_)
      have e1 : wrap64 (Int.tdiv (n : Int) 10) = ((n / 10 : Nat) : Int) := by
        rw [show Int.tdiv (n : Int) 10 = ((n / 10 : Nat) : Int) from rfl]
        exact wrap_nat (by omega) (by omega)
      have e2 : Int.tmod (n : Int) 10 = ((n % 10 : Nat) : Int) := rfl
      rw [e1, e2]
      have s1 := dec_size (n / 10) (by omega)
      have s2 := dec_size (n % 10) (by omega)
      refine ev_bind (ih (n / 10) (by omega) (by omega)) (ev_bind (ih (n % 10) (by omega) (by omega)) (ev_pos (by omega) (ev_ret ?_)))
      rw [arr_append, Lib.decDigits_one (i := n % 10) (by omega)]
      conv => rhs; rw [Lib.decDigits, dif_neg h]
theorem num_ev {l : List ByteArray} {j : Nat} (hS : Short l j) (hF : Full l) (hj : j ≤ 12) (n : Int) (s : ByteArray) (hs : s.size ≤ 50) : Ev (fun k => ambryref13_num.f k (J l) n s) (J (addN n s l)) := by
  obtain ⟨m, hm⟩ : ∃ m : Nat, mn (mx n 0) 2147483647 = (m : Int) := ⟨(mn (mx n 0) 2147483647).toNat, by unfold mn mx; split <;> split <;> omega⟩
  have hm2 : m ≤ 2147483647 := by unfold mn mx at hm; split at hm <;> split at hm <;> omega
  refine Ev.congr (fun k => ambryref13_num.f.eq_1 k (J l) n s) ?_
  rw [hm]
  have hd := dec_size m (by omega)
  refine ev_bind (dec_ev m hm2) (ev_pos (by omega) (ev_some (add_eq hS hF hj _ _ (by rw [ByteArray.size_append]; omega)) (ev_ret ?_)))
  rw [addN_eq]
  by_cases h : 0 ≤ n
  · have e : min n 2147483647 = (m : Int) := by unfold mn mx at hm; split at hm <;> split at hm <;> omega
    rw [e, Lib.itoa_nonneg]
  · have h1 : decide (0 ≤ n) = false := by simpa using h
    rw [h1]
    rfl
theorem text_ref (b0 b1 b2 b3 b4 b5 b6 b7 : Bool) (n8 n9 n10 n11 : Int) (h8 : -9223372036854775808 ≤ n8 ∧ n8 ≤ 9223372036854775807) (h9 : -9223372036854775808 ≤ n9 ∧ n9 ≤ 9223372036854775807) (h10 : -9223372036854775808 ≤ n10 ∧ n10 ≤ 9223372036854775807) (h11 : -9223372036854775808 ≤ n11 ∧ n11 ≤ 9223372036854775807) :
    Ev (fun k => ambryref13_ControlText.f k b0 b1 b2 b3 b4 b5 b6 b7 n8 n9 n10 n11) (textOf ⟨b0, b1, b2, b3, b4, b5, b6, b7, n8, n9, n10, n11⟩) ∧ Short (textL ⟨b0, b1, b2, b3, b4, b5, b6, b7, n8, n9, n10, n11⟩) 12 ∧ Full (textL ⟨b0, b1, b2, b3, b4, b5, b6, b7, n8, n9, n10, n11⟩) := by
  have S0 := Short.nil
  have F0 := Full.nil
  have S1 := S0.addW b0 ⟨#[110, 111, 45, 115, 116, 111, 114, 101]⟩ (by decide)
  have F1 := F0.addW b0 ⟨#[110, 111, 45, 115, 116, 111, 114, 101]⟩ (by decide)
  have S2 := S1.addW b1 ⟨#[110, 111, 45, 99, 97, 99, 104, 101]⟩ (by decide)
  have F2 := F1.addW b1 ⟨#[110, 111, 45, 99, 97, 99, 104, 101]⟩ (by decide)
  have S3 := S2.addW b2 ⟨#[112, 114, 105, 118, 97, 116, 101]⟩ (by decide)
  have F3 := F2.addW b2 ⟨#[112, 114, 105, 118, 97, 116, 101]⟩ (by decide)
  have S4 := S3.addW b3 ⟨#[112, 117, 98, 108, 105, 99]⟩ (by decide)
  have F4 := F3.addW b3 ⟨#[112, 117, 98, 108, 105, 99]⟩ (by decide)
  have S5 := S4.addW b4 ⟨#[109, 117, 115, 116, 45, 114, 101, 118, 97, 108, 105, 100, 97, 116, 101]⟩ (by decide)
  have F5 := F4.addW b4 ⟨#[109, 117, 115, 116, 45, 114, 101, 118, 97, 108, 105, 100, 97, 116, 101]⟩ (by decide)
  have S6 := S5.addW b5 ⟨#[112, 114, 111, 120, 121, 45, 114, 101, 118, 97, 108, 105, 100, 97, 116, 101]⟩ (by decide)
  have F6 := F5.addW b5 ⟨#[112, 114, 111, 120, 121, 45, 114, 101, 118, 97, 108, 105, 100, 97, 116, 101]⟩ (by decide)
  have S7 := S6.addW b6 ⟨#[111, 110, 108, 121, 45, 105, 102, 45, 99, 97, 99, 104, 101, 100]⟩ (by decide)
  have F7 := F6.addW b6 ⟨#[111, 110, 108, 121, 45, 105, 102, 45, 99, 97, 99, 104, 101, 100]⟩ (by decide)
  have S8 := S7.addN n8 ⟨#[109, 97, 120, 45, 97, 103, 101, 61]⟩ (by decide) h8.1 h8.2
  have F8 := F7.addN n8 ⟨#[109, 97, 120, 45, 97, 103, 101, 61]⟩ (by decide)
  have S9 := S8.addN n9 ⟨#[115, 45, 109, 97, 120, 97, 103, 101, 61]⟩ (by decide) h9.1 h9.2
  have F9 := F8.addN n9 ⟨#[115, 45, 109, 97, 120, 97, 103, 101, 61]⟩ (by decide)
  have S10 := S9.addN n10 ⟨#[109, 105, 110, 45, 102, 114, 101, 115, 104, 61]⟩ (by decide) h10.1 h10.2
  have F10 := F9.addN n10 ⟨#[109, 105, 110, 45, 102, 114, 101, 115, 104, 61]⟩ (by decide)
  have S11 := S10.addW b7 ⟨#[109, 97, 120, 45, 115, 116, 97, 108, 101]⟩ (by decide)
  have F11 := F10.addW b7 ⟨#[109, 97, 120, 45, 115, 116, 97, 108, 101]⟩ (by decide)
  have S12 := S11.addN n11 ⟨#[109, 97, 120, 45, 115, 116, 97, 108, 101, 61]⟩ (by decide) h11.1 h11.2
  have F12 := F11.addN n11 ⟨#[109, 97, 120, 45, 115, 116, 97, 108, 101, 61]⟩ (by decide)
  refine ⟨?_, S12, F12⟩
  refine Ev.congr (fun k => ambryref13_ControlText.f.eq_1 k b0 b1 b2 b3 b4 b5 b6 b7 n8 n9 n10 n11) ?_
  refine ev_some (add_eq S0 F0 (by decide) b0 ⟨#[110, 111, 45, 115, 116, 111, 114, 101]⟩ (by decide)) ?_
  refine ev_some (add_eq S1 F1 (by decide) b1 ⟨#[110, 111, 45, 99, 97, 99, 104, 101]⟩ (by decide)) ?_
  refine ev_some (add_eq S2 F2 (by decide) b2 ⟨#[112, 114, 105, 118, 97, 116, 101]⟩ (by decide)) ?_
  refine ev_some (add_eq S3 F3 (by decide) b3 ⟨#[112, 117, 98, 108, 105, 99]⟩ (by decide)) ?_
  refine ev_some (add_eq S4 F4 (by decide) b4 ⟨#[109, 117, 115, 116, 45, 114, 101, 118, 97, 108, 105, 100, 97, 116, 101]⟩ (by decide)) ?_
  refine ev_some (add_eq S5 F5 (by decide) b5 ⟨#[112, 114, 111, 120, 121, 45, 114, 101, 118, 97, 108, 105, 100, 97, 116, 101]⟩ (by decide)) ?_
  refine ev_some (add_eq S6 F6 (by decide) b6 ⟨#[111, 110, 108, 121, 45, 105, 102, 45, 99, 97, 99, 104, 101, 100]⟩ (by decide)) ?_
  refine ev_bind (num_ev S7 F7 (by decide) n8 ⟨#[109, 97, 120, 45, 97, 103, 101, 61]⟩ (by decide)) ?_
  refine ev_bind (num_ev S8 F8 (by decide) n9 ⟨#[115, 45, 109, 97, 120, 97, 103, 101, 61]⟩ (by decide)) ?_
  refine ev_bind (num_ev S9 F9 (by decide) n10 ⟨#[109, 105, 110, 45, 102, 114, 101, 115, 104, 61]⟩ (by decide)) ?_
  refine ev_some (add_eq S10 F10 (by decide) b7 ⟨#[109, 97, 120, 45, 115, 116, 97, 108, 101]⟩ (by decide)) ?_
  refine ev_bind (num_ev S11 F11 (by decide) n11 ⟨#[109, 97, 120, 45, 115, 116, 97, 108, 101, 61]⟩ (by decide)) ?_
  exact ev_ret rfl
end Go.Proofs.YtdgimhaghhjdcaaDoor.Ctrl

namespace Go.Proofs.YtdgimhaghhjdcaaDoor.Ctrl
open Go.RowKit Go.Proofs.YtdgimhaghhjdcaaDoor.G Go.Proofs.YtdgimhaghhjdcaaDoorW.PrintWords Go.Proofs.YtdgimhaghhjdcaaDoorW.PrintMore Go.Proofs.YtdgimhaghhjdcaaDoor.Plain

def decB (m : Nat) : ByteArray := ⟨(Lib.decDigits m).toArray⟩
theorem decB_eq (m : Nat) : decB m = ⟨(Lib.decDigits m).toArray⟩ := rfl
theorem digit_byte (d : Nat) (h : d < 10) : bytesOf ⟨[UInt8.ofNat (48 + d)].toArray⟩ = [((48 + d : Nat) : Int)] := by
  show [((UInt8.ofNat (48 + d)).toNat : Int)] = _
  rw [UInt8.toNat_ofNat']
  congr 2
  omega
theorem dec_bytes (m : Nat) : bytesOf (decB m) = if m < 10 then [((48 + m : Nat) : Int)] else bytesOf (decB (m / 10)) ++ [((48 + m % 10 : Nat) : Int)] := by
  unfold decB
  rw [Lib.decDigits]
  by_cases h : m < 10
  · rw [dif_pos h, if_pos h, digit_byte m h]
  · rw [dif_neg h, if_neg h, ← arr_append, bytes_append, digit_byte _ (by omega)]
theorem dec_range : ∀ (m : Nat), ∀ c ∈ bytesOf (decB m), 48 ≤ c ∧ c ≤ 57 := by
  intro m
  induction m using Nat.strongRecOn with
  | _ m ih =>
    intro c hc
    rw [dec_bytes] at hc
    split at hc
    · rw [List.mem_singleton.1 hc]; omega
    · rcases List.mem_append.1 hc with hc | hc
      · exact ih (m / 10) (by omega) c hc
      · rw [List.mem_singleton.1 hc]; omega
theorem dec_pos (m : Nat) : 1 ≤ (bytesOf (decB m)).length := by
  rw [dec_bytes]
  split
  · exact Nat.le_refl _
  · rw [List.length_append]; exact Nat.le_add_left _ _
theorem sec_step (x : ByteArray) (acc j d : Nat) (r : Int) (hj : j < x.size) (hs : x.size ≤ 1000) (hd : d < 10) (hv : 10 * acc + d ≤ 2147483647) (hb : (bytesOf x).getD j 0 = ((48 + d : Nat) : Int)) (h : Ev (fun k => ctrl_Seconds.l0 k x ((10 * acc + d : Nat) : Int) (x.size : Int) ((j + 1 : Nat) : Int)) r) : Ev (fun k => ctrl_Seconds.l0 k x (acc : Int) (x.size : Int) (j : Int)) r := by
  refine Ev.step (fun k => ctrl_Seconds.l0.eq_2 x (acc : Int) (x.size : Int) (j : Int) k) (ev_pos (by omega) (ev_pos (by omega) (ev_pos (by omega) ?_)))
  rw [bt_nat, hb]
  refine ev_neg (by omega) (ev_neg (by omega) ?_)
  rw [wrap_succ (by omega)]
  have e : mn (wrap64 ((wrap64 (10 * (acc : Int))) + (((48 + d : Nat) : Int) - 48) % 256)) 2147483647 = ((10 * acc + d : Nat) : Int) := by
    rw [wrap_nat (n := 10 * (acc : Int)) (by omega) (by omega), show (((48 + d : Nat) : Int) - 48) % 256 = (d : Int) by omega, wrap_nat (by omega) (by omega)]
    unfold mn
    split <;> omega
  rw [e]
  exact h
theorem getD_mid (pre post : List Int) (c : Int) : (pre ++ c :: post).getD pre.length 0 = c := by
  rw [List.getD_eq_getElem?_getD, List.getElem?_append_right (Nat.le_refl _), Nat.sub_self]
  rfl
theorem sec_run (x : ByteArray) (hs : x.size ≤ 1000) : ∀ (m : Nat), m ≤ 2147483647 → ∀ (pre post : List Int) (r : Int), bytesOf x = pre ++ bytesOf (decB m) ++ post →
    Ev (fun k => ctrl_Seconds.l0 k x (m : Int) (x.size : Int) ((pre.length + (bytesOf (decB m)).length : Nat) : Int)) r → Ev (fun k => ctrl_Seconds.l0 k x ((0 : Nat) : Int) (x.size : Int) (pre.length : Int)) r := by
  intro m
  induction m using Nat.strongRecOn with
  | _ m ih =>
    intro hm pre post r hx h
    have hz := size_bytes x
    rw [dec_bytes] at hx h
    by_cases h10 : m < 10
    · rw [if_pos h10] at hx h
      have hl : (bytesOf x).length = pre.length + 1 + post.length := by rw [hx]; simp only [List.length_append, List.length_cons, List.length_nil]
      refine sec_step x 0 pre.length m r (by omega) hs h10 (by omega) ?_ ?_
      · rw [hx, List.append_assoc]; exact getD_mid pre post _
      · rw [show 10 * 0 + m = m by omega]; exact h
    · rw [if_neg h10] at hx h
      have hl : (bytesOf x).length = pre.length + ((bytesOf (decB (m / 10))).length + 1) + post.length := by rw [hx]; simp only [List.length_append, List.length_cons, List.length_nil]
      refine ih (m / 10) (by omega) (by omega) pre ([((48 + m % 10 : Nat) : Int)] ++ post) r (by rw [hx]; simp only [List.append_assoc]) ?_
      refine sec_step x (m / 10) (pre.length + (bytesOf (decB (m / 10))).length) (m % 10) r (by omega) hs (by omega) (by omega) ?_ ?_
      · rw [hx]
        have := getD_mid (pre ++ bytesOf (decB (m / 10))) post ((48 + m % 10 : Nat) : Int)
        rw [List.length_append] at this
        simp only [List.append_assoc, List.singleton_append] at this ⊢
        exact this
      · rw [show 10 * (m / 10) + m % 10 = m by omega]
        rw [List.length_append] at h
        exact h
theorem seconds_dec (m : Nat) (hm : m ≤ 2147483647) : Ev (fun k => ctrl_Seconds.f k (decB m)) (m : Int) := by
  have hs : (decB m).size ≤ 21 := dec_size m (by omega)
  have hz := size_bytes (decB m)
  have hp := dec_pos m
  refine Ev.congr (fun k => ctrl_Seconds.f.eq_1 k (decB m)) ?_
  refine sec_run (decB m) (by omega) m hm [] [] _ (by simp) ?_
  rw [show (([] : List Int).length + (bytesOf (decB m)).length : Nat) = (decB m).size by rw [hz]; simp]
  refine Ev.step (fun k => ctrl_Seconds.l0.eq_2 (decB m) (m : Int) ((decB m).size : Int) ((decB m).size : Int) k) (ev_neg (by omega) (ev_neg ?_ (ev_ret rfl)))
  intro h
  have h2 : (decB m).data.toList = [] := by rw [← ByteArray.toList_eq]; exact h
  have := data_length (decB m)
  rw [h2] at this
  simp at this
  omega
theorem plain_dec (m : Nat) (hm : m ≤ 2147483647) : ctrl_plain.f (decB m) = some (decB m) := by
  have hs : (decB m).size ≤ 21 := dec_size m (by omega)
  unfold ctrl_plain.f ctrl_plain.text
  rw [if_pos (by omega)]
  refine congrArg some ?_
  refine (congrArg (fun l : List UInt8 => (⟨l.toArray⟩ : ByteArray)) (if_neg ?_)).trans rfl
  · rintro ⟨h2, h34, _⟩
    have hp := dec_pos m
    have h0 : (bytesOf (decB m)).getD 0 0 = 34 := by
      show (List.map (fun b : UInt8 => (b.toNat : Int)) (decB m).data.toList).getD 0 0 = 34
      cases hd : (decB m).data.toList with
      | nil => rw [hd] at h2; simp at h2
      | cons a t =>
        rw [hd] at h34
        have : a = 34 := h34
        subst this
        rfl
    have hr := dec_range m ((bytesOf (decB m)).getD 0 0) (by
      rw [List.getD_eq_getElem?_getD, List.getElem?_eq_getElem hp]
      exact List.getElem_mem _)
    omega
end Go.Proofs.YtdgimhaghhjdcaaDoor.Ctrl

namespace Go.Proofs.YtdgimhaghhjdcaaDoor.Ctrl
open Go.RowKit Go.Proofs.YtdgimhaghhjdcaaDoor.G Go.Proofs.YtdgimhaghhjdcaaDoorW.PrintWords Go.Proofs.YtdgimhaghhjdcaaDoorW.PrintMore Go.Proofs.YtdgimhaghhjdcaaDoor.Plain

theorem fold_snoc (k : Nat) (s : ByteArray) : ∀ (l : List ByteArray) (c : ctrl_Parse.Ct), ctrl_Parse.fold k c (l ++ [s]) = (ctrl_Parse.fold k c l).bind fun c' => ctrl_Parse.part k c' s
  | [], c => by
    simp only [List.nil_append, ctrl_Parse.fold, Option.bind_some]
    cases ctrl_Parse.part k c s <;> rfl
  | p :: l, c => by
    show (ctrl_Parse.part k c p).bind (fun c' => ctrl_Parse.fold k c' (l ++ [s])) = ((ctrl_Parse.part k c p).bind fun c' => ctrl_Parse.fold k c' l).bind _
    cases ctrl_Parse.part k c p with
    | none => rfl
    | some c' => exact fold_snoc k s l c'
theorem fold_word {l : List ByteArray} {c0 c1 c2 : ctrl_Parse.Ct} (h : Ev (fun k => ctrl_Parse.fold k c0 l) c1) (b : Bool) (s : ByteArray) (hp : b = true → ctrl_Parse.part 400 c1 s = some c2) (hn : b = false → c1 = c2) : Ev (fun k => ctrl_Parse.fold k c0 (addW b s l)) c2 := by
  unfold addW
  cases b with
  | false => rw [← hn rfl]; exact h
  | true =>
    refine Ev.congr (fun k => fold_snoc k s l c0) (ev_bind h ?_)
    exact Ev.of (fun k => ctrl_Parse.part_mono k c1 s) (hp rfl)
theorem index_at (a : List UInt8) (d : List UInt8) (n : Nat) (h : Lib.indexByte a 61 = (n : Int)) : Lib.indexByte (a ++ d) 61 = (n : Int) := by
  induction a generalizing n with
  | nil => rw [Lib.indexByte] at h; omega
  | cons x a ih =>
    rw [List.cons_append, Lib.indexByte]
    rw [Lib.indexByte] at h
    by_cases hx : (x == 61) = true
    · rw [if_pos hx] at h ⊢; exact h
    · rw [if_neg hx] at h ⊢
      by_cases h1 : (Lib.indexByte a 61 == -1) = true
      · rw [if_pos h1] at h; omega
      · rw [if_neg h1] at h
        have hg := Lib.indexByte_ge a 61
        have h1' : ¬ Lib.indexByte a 61 = -1 := fun e => h1 (beq_iff_eq.2 e)
        obtain ⟨m, hm⟩ : ∃ m : Nat, Lib.indexByte a 61 = (m : Int) := ⟨(Lib.indexByte a 61).toNat, by omega⟩
        rw [ih m hm, if_neg (fun e => by have := beq_iff_eq.1 e; omega)]
        omega
theorem cut_at (nm s d : ByteArray) (hs : bytesOf s = bytesOf nm ++ [61]) (hi : Lib.indexByte s.data.toList 61 = (nm.size : Int)) (hd : d.size ≤ 1000) (hsz : s.size ≤ 1000) : strings_Cut.f (s ++ d) ⟨#[61]⟩ = some (nm, d, true) := by
  have h1 : Lib.indexByte (s ++ d).data.toList 61 = (nm.size : Int) := by
    rw [ByteArray.data_append, Array.toList_append]
    exact index_at _ _ _ hi
  have hz := size_bytes nm
  have hz2 := size_bytes s
  have hz3 := size_bytes d
  rw [hs, List.length_append, List.length_singleton] at hz2
  show (if (s ++ d).size ≤ 140737488355328 then some (Leaf.cutAt (s ++ d) (Lib.indexByte (s ++ d).data.toList 61)) else none) = _
  rw [if_pos (by rw [ByteArray.size_append]; omega), h1]
  unfold Leaf.cutAt
  rw [if_pos (by omega), Int.toNat_natCast]
  have e1 : (s ++ d).extract 0 nm.size = nm := by
    refine bytes_inj ?_
    rw [bytes_extract, bytes_append, hs, List.append_assoc, List.drop_zero, hz, List.take_left']
    rfl
  have e2 : (s ++ d).extract (nm.size + 1) (s ++ d).size = d := by
    refine bytes_inj ?_
    rw [bytes_extract, List.take_of_length_le (by rw [← size_bytes]; exact Nat.le_refl _), bytes_append, hs, List.drop_left']
    rw [List.length_append, List.length_singleton, hz]
  rw [e1, e2]
theorem part_num (c : ctrl_Parse.Ct) (nm s : ByteArray) (bs : List Bool) (m : Nat) (hm : m ≤ 2147483647) (hs : bytesOf s = bytesOf nm ++ [61]) (hi : Lib.indexByte s.data.toList 61 = (nm.size : Int)) (hsz : s.size ≤ 1000) (ht : ctrl_Parse.tell 400 nm ctrl_Parse.lits = some bs) :
    Ev (fun k => ctrl_Parse.part k c (s ++ decB m)) (ctrl_Parse.say c (fun i => bs.getD i false) (ctrl_Parse.lst (m : Int)) true) := by
  have hd : (decB m).size ≤ 21 := dec_size m (by omega)
  refine Ev.congr (fun k => ctrl_Parse.part.eq_1 k c (s ++ decB m)) (ev_some (cut_at nm s (decB m) hs hi (by omega) hsz) ?_)
  exact ev_some (plain_dec m hm) (ev_bind (seconds_dec m hm) (ev_bind (Ev.of (fun k => ctrl_Parse.tell_mono k nm _) ht) (ev_ret rfl)))
theorem fold_num {l : List ByteArray} {c0 c1 c2 : ctrl_Parse.Ct} (h : Ev (fun k => ctrl_Parse.fold k c0 l) c1) (n : Int) (nm s : ByteArray) (bs : List Bool) (hn0 : -1 ≤ n) (hn1 : n ≤ 2147483647) (hs : bytesOf s = bytesOf nm ++ [61]) (hi : Lib.indexByte s.data.toList 61 = (nm.size : Int)) (hsz : s.size ≤ 1000) (ht : ctrl_Parse.tell 400 nm ctrl_Parse.lits = some bs)
    (hp : 0 ≤ n → ctrl_Parse.say c1 (fun i => bs.getD i false) (ctrl_Parse.lst n) true = c2) (hn : n = -1 → c1 = c2) : Ev (fun k => ctrl_Parse.fold k c0 (addN n s l)) c2 := by
  unfold addN
  by_cases h0 : 0 ≤ n
  · obtain ⟨m, rfl⟩ : ∃ m : Nat, n = (m : Int) := ⟨n.toNat, by omega⟩
    rw [if_pos h0]
    have e : (⟨(Lib.itoa (min (m : Int) 2147483647)).toArray⟩ : ByteArray) = decB m := by
      rw [show min (m : Int) 2147483647 = (m : Int) by omega, Lib.itoa_nonneg]
      rfl
    rw [e]
    refine Ev.congr (fun k => fold_snoc k (s ++ decB m) l c0) (ev_bind h ?_)
    rw [← hp h0]
    exact part_num c1 nm s bs m (by omega) hs hi hsz ht
  · rw [if_neg h0, ← hn (by omega)]
    exact h
theorem lst_new (n : Int) (h : 0 ≤ n) : ctrl_Parse.lst n (-1) = n := by
  unfold ctrl_Parse.lst mx
  rw [if_neg (by decide)]
  split <;> omega
theorem fold_all (b0 b1 b2 b3 b4 b5 b6 b7 : Bool) (n8 n9 n10 n11 : Int) (h8 : -1 ≤ n8 ∧ n8 ≤ 2147483647) (h9 : -1 ≤ n9 ∧ n9 ≤ 2147483647) (h10 : -1 ≤ n10 ∧ n10 ≤ 2147483647) (h11 : -1 ≤ n11 ∧ n11 ≤ 2147483647) :
    Ev (fun k => ctrl_Parse.fold k ctrl_Parse.none_ (textL ⟨b0, b1, b2, b3, b4, b5, b6, b7, n8, n9, n10, n11⟩)) ⟨b0, b1, b2, b3, b4, b5, b6, b7, n8, n9, n10, n11⟩ := by
  have f0 : Ev (fun k => ctrl_Parse.fold k ctrl_Parse.none_ []) ⟨false, false, false, false, false, false, false, false, -1, -1, -1, -1⟩ := Ev.now _
  have f1 := fold_word (c2 := ⟨b0, false, false, false, false, false, false, false, -1, -1, -1, -1⟩) f0 b0 ⟨#[110, 111, 45, 115, 116, 111, 114, 101]⟩ (fun h => by subst h; kernel_rfl) (fun h => by rw [h])
  have f2 := fold_word (c2 := ⟨b0, b1, false, false, false, false, false, false, -1, -1, -1, -1⟩) f1 b1 ⟨#[110, 111, 45, 99, 97, 99, 104, 101]⟩ (fun h => by subst h; kernel_rfl) (fun h => by rw [h])
  have f3 := fold_word (c2 := ⟨b0, b1, b2, false, false, false, false, false, -1, -1, -1, -1⟩) f2 b2 ⟨#[112, 114, 105, 118, 97, 116, 101]⟩ (fun h => by subst h; kernel_rfl) (fun h => by rw [h])
  have f4 := fold_word (c2 := ⟨b0, b1, b2, b3, false, false, false, false, -1, -1, -1, -1⟩) f3 b3 ⟨#[112, 117, 98, 108, 105, 99]⟩ (fun h => by subst h; kernel_rfl) (fun h => by rw [h])
  have f5 := fold_word (c2 := ⟨b0, b1, b2, b3, b4, false, false, false, -1, -1, -1, -1⟩) f4 b4 ⟨#[109, 117, 115, 116, 45, 114, 101, 118, 97, 108, 105, 100, 97, 116, 101]⟩ (fun h => by subst h; kernel_rfl) (fun h => by rw [h])
  have f6 := fold_word (c2 := ⟨b0, b1, b2, b3, b4, b5, false, false, -1, -1, -1, -1⟩) f5 b5 ⟨#[112, 114, 111, 120, 121, 45, 114, 101, 118, 97, 108, 105, 100, 97, 116, 101]⟩ (fun h => by subst h; kernel_rfl) (fun h => by rw [h])
  have f7 := fold_word (c2 := ⟨b0, b1, b2, b3, b4, b5, b6, false, -1, -1, -1, -1⟩) f6 b6 ⟨#[111, 110, 108, 121, 45, 105, 102, 45, 99, 97, 99, 104, 101, 100]⟩ (fun h => by subst h; kernel_rfl) (fun h => by rw [h])
  have f8 := fold_num (c2 := ⟨b0, b1, b2, b3, b4, b5, b6, false, n8, -1, -1, -1⟩) f7 n8 ⟨#[109, 97, 120, 45, 97, 103, 101]⟩ ⟨#[109, 97, 120, 45, 97, 103, 101, 61]⟩ [false, false, false, false, false, false, false, true, false, false, false] h8.1 h8.2 (by decide) (by decide) (by decide) (by kernel_rfl) (fun h => by show (⟨b0, b1, b2, b3, b4, b5, b6, false, ctrl_Parse.lst n8 (-1), -1, -1, -1⟩ : ctrl_Parse.Ct) = _; rw [lst_new _ h]) (fun h => by rw [h])
  have f9 := fold_num (c2 := ⟨b0, b1, b2, b3, b4, b5, b6, false, n8, n9, -1, -1⟩) f8 n9 ⟨#[115, 45, 109, 97, 120, 97, 103, 101]⟩ ⟨#[115, 45, 109, 97, 120, 97, 103, 101, 61]⟩ [false, false, false, false, false, false, false, false, true, false, false] h9.1 h9.2 (by decide) (by decide) (by decide) (by kernel_rfl) (fun h => by show (⟨b0, b1, b2, b3, b4, b5, b6, false, n8, ctrl_Parse.lst n9 (-1), -1, -1⟩ : ctrl_Parse.Ct) = _; rw [lst_new _ h]) (fun h => by rw [h])
  have f10 := fold_num (c2 := ⟨b0, b1, b2, b3, b4, b5, b6, false, n8, n9, n10, -1⟩) f9 n10 ⟨#[109, 105, 110, 45, 102, 114, 101, 115, 104]⟩ ⟨#[109, 105, 110, 45, 102, 114, 101, 115, 104, 61]⟩ [false, false, false, false, false, false, false, false, false, true, false] h10.1 h10.2 (by decide) (by decide) (by decide) (by kernel_rfl) (fun h => by show (⟨b0, b1, b2, b3, b4, b5, b6, false, n8, n9, ctrl_Parse.lst n10 (-1), -1⟩ : ctrl_Parse.Ct) = _; rw [lst_new _ h]) (fun h => by rw [h])
  have f11 := fold_word (c2 := ⟨b0, b1, b2, b3, b4, b5, b6, b7, n8, n9, n10, -1⟩) f10 b7 ⟨#[109, 97, 120, 45, 115, 116, 97, 108, 101]⟩ (fun h => by subst h; kernel_rfl) (fun h => by rw [h])
  have f12 := fold_num (c2 := ⟨b0, b1, b2, b3, b4, b5, b6, b7, n8, n9, n10, n11⟩) f11 n11 ⟨#[109, 97, 120, 45, 115, 116, 97, 108, 101]⟩ ⟨#[109, 97, 120, 45, 115, 116, 97, 108, 101, 61]⟩ [false, false, false, false, false, false, false, false, false, false, true] h11.1 h11.2 (by decide) (by decide) (by decide) (by kernel_rfl) (fun h => by show (⟨b0, b1, b2, b3, b4, b5, b6, b7, n8, n9, n10, ctrl_Parse.lst n11 (-1)⟩ : ctrl_Parse.Ct) = _; rw [lst_new _ h]) (fun h => by rw [h])
  exact f12
end Go.Proofs.YtdgimhaghhjdcaaDoor.Ctrl
