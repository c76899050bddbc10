/- A number's text: the library's and the document's. -/
import Derived.Test.YteebckekahnjiaaDoorShelf
import Derived.Test.YteebckekahnjiaaDoorPlainA
import Derived.Test.YteebckekahnjiaaDoorGx1
import Derived.Shelf.Unicode.PredsPay
import Derived.Lib.AppendIntMem
import Derived.Lib.ItoaLen
set_option linter.unusedVariables false
set_option linter.unusedSimpArgs false
namespace Go.Proofs.YteebckekahnjiaaDoor.Itoa
open Go.RowKit Go.Proofs.YteebckekahnjiaaDoor.G Go.Proofs.YteebckekahnjiaaDoorW.PrintWords Go.Proofs.YteebckekahnjiaaDoorW.PrintMore Go.Proofs.YteebckekahnjiaaDoor.Plain

theorem tab_below {w w' : World} (h : Lib.TabIs Tryd.prog w "internal/strconv.uint64pow10" .u64 Lib.pow10Tab) (hb : Below w.heap.size w w') : Lib.TabIs Tryd.prog w' "internal/strconv.uint64pow10" .u64 Lib.pow10Tab := by
    cases hg : Tryd.prog.globalNamed "internal/strconv.uint64pow10" with
    | none =>
      unfold Lib.TabIs World.var? at h
      rw [hg] at h
      cases h
    | some g => exact TabIs_below hg h hb
theorem fmt (n : Int) (h0 : -9223372036854775808 ≤ n) (h1 : n ≤ 9223372036854775807) (w : World) (htab : Lib.TabIs Tryd.prog w "internal/strconv.uint64pow10" .u64 Lib.pow10Tab) :
    Calls Tryd.prog 27 #[.int .i64 n, .int .i64 10] w fun e w' => e = .returned (.string ⟨(Lib.itoa n).toArray⟩) ∧ Below w.heap.size w w' := by
  have HT := Lib.hid htab
  clear htab
  go_enter Tryd.func27, Tryd.ntmps27
  go_wp2_with fail
  refine (Tryd.internal_strconv_FormatInt_10 n h0 h1 _ HT.out).mono ?_
  rintro e w' ⟨rfl, k, os, rfl⟩
  go_wp2
  go_ret
  exact ⟨rfl, Lib.below_grow _ _ (Nat.le_refl _) k os⟩
theorem arr_append (a b : List UInt8) : (⟨a.toArray⟩ : ByteArray) ++ ⟨b.toArray⟩ = ⟨(a ++ b).toArray⟩ := by
  refine bytes_inj ?_
  rw [bytes_append]
  show List.map _ a ++ List.map _ b = List.map _ (a ++ b)
  rw [List.map_append]
theorem digit_at : ∀ n, n < 10 → (⟨#[48, 49, 50, 51, 52, 53, 54, 55, 56, 57]⟩ : ByteArray).extract n (n + 1) = ⟨[UInt8.ofNat (48 + n)].toArray⟩ := by decide +kernel
theorem dec_size (n : Nat) (h : n ≤ 9223372036854775807) : (⟨(Lib.decDigits n).toArray⟩ : ByteArray).size ≤ 21 := by
  have := Lib.itoa_length_le (n : Int) (by omega) (by omega)
  rw [Lib.itoa_nonneg] at this
  exact this
theorem dec_ev : ∀ (n : Nat), n ≤ 9223372036854775800 → Ev (fun k => ambryref10_Dec.f k (n : Int)) ⟨(Lib.decDigits n).toArray⟩ := by
  intro n
  induction n using Nat.strongRecOn with
  | _ n ih =>
    intro hn
    by_cases h : n < 10
    · refine Ev.step (fun k => ambryref10_Dec.f.eq_2 (n : Int) k) (ev_pos (by omega) (ev_pos (by omega) ?_))
      rw [wrap_succ (by omega)]
      refine ev_pos (by omega) (ev_pos (by omega) (ev_ret ?_))
      rw [Int.toNat_natCast, Int.toNat_natCast, digit_at n h, Lib.decDigits_one h]
    · refine Ev.step (fun k => ambryref10_Dec.f.eq_2 (n : Int) k) (ev_neg (by omega) ?_)
      have e1 : wrap64 (Int.tdiv (n : Int) 10) = ((n / 10 : Nat) : Int) := by
        rw [show Int.tdiv (n : Int) 10 = ((n / 10 : Nat) : Int) from rfl]
        exact wrap_nat (by omega) (by omega)
      have e2 : Int.tmod (n : Int) 10 = ((n % 10 : Nat) : Int) := rfl
      rw [e1, e2]
      have s1 := dec_size (n / 10) (by omega)
      have s2 := dec_size (n % 10) (by omega)
      refine ev_bind (ih (n / 10) (by omega) (by omega)) (ev_bind (ih (n % 10) (by omega) (by omega)) (ev_pos (by omega) (ev_ret ?_)))
      rw [arr_append, Lib.decDigits_one (i := n % 10) (by omega)]
      conv => rhs; rw [Lib.decDigits, dif_neg h]
theorem dec (n : Int) (h0 : 0 ≤ n) (h1 : n ≤ 9223372036854775800) (w : World) :
    Calls Tryd.prog 33 #[.int .i64 n] w fun e w' => e = .returned (.string ⟨(Lib.itoa n).toArray⟩) ∧ ∃ k, w' = w.drewN k := by
  obtain ⟨m, rfl⟩ : ∃ m : Nat, n = (m : Int) := ⟨n.toNat, by omega⟩
  obtain ⟨k, hk⟩ := (dec_ev m (by omega)).rounds
  refine (ambryref10_Dec.calls k (m : Int) _ w hk).mono ?_
  rintro e w' ⟨rfl, hd⟩
  exact ⟨by rw [Lib.itoa_nonneg], hd.out⟩
theorem size_of (l : List UInt8) : (⟨l.toArray⟩ : ByteArray).size = l.length := rfl
theorem itoa_size (n : Int) (h0 : -9223372036854775808 ≤ n) (h1 : n ≤ 9223372036854775807) : (⟨(Lib.itoa n).toArray⟩ : ByteArray).size ≤ 21 := Lib.itoa_length_le n h0 h1
end Go.Proofs.YteebckekahnjiaaDoor.Itoa
