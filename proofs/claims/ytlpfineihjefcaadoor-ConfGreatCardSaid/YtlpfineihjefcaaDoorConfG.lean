/- A text of one sign alone is a note. -/
import Derived.Test.YtlpfineihjefcaaDoorConfK
set_option linter.unusedVariables false
set_option linter.unusedSimpArgs false
namespace Go.Proofs.YtlpfineihjefcaaDoor.Conf
open Go.RowKit Go.Proofs.YtlpfineihjefcaaDoor.G Go.Proofs.YtlpfineihjefcaaDoorW.PrintWords Go.Proofs.YtlpfineihjefcaaDoorW.PrintMore Go.Proofs.YtlpfineihjefcaaDoor.Plain Go.Proofs.YtlpfineihjefcaaDoor.Foot
def hash (n : Nat) : ByteArray := strOfNums (List.replicate n 35)
theorem hash_bytes (n : Nat) : bytesOf (hash n) = List.replicate n 35 := bytes_of_nums (fun c hc => by rw [(List.mem_replicate.1 hc).2]; decide)
theorem hash_size (n : Nat) : (hash n).size = n := by rw [size_bytes, hash_bytes, List.length_replicate]
theorem hash_words {n : Nat} (h : 0 < n) (h2 : n ≤ 4000000000) : acl_Words.f (hash n) = some [hash n] := by
  have hw : acl_Words.f (hash n) = some (wordsOf (hash n)) := if_pos (by rw [hash_size]; omega)
  rw [hw]
  refine congrArg some (map_bytes_inj ?_)
  rw [wordsOf, words_bytes, hash_bytes, words_last (fun e => by have := congrArg List.length e; simp at this; omega) (fun c hc => by rw [(List.mem_replicate.1 hc).2]; decide)]
  rw [List.map_cons, hash_bytes]; rfl
theorem hash_at {n : Nat} (i : Nat) (h : i < n) : bt (hash n) (i : Int) = 35 := by
  rw [bt_nat, hash_bytes, List.getD_eq_getElem?_getD, List.getElem?_replicate, if_pos h]; rfl
theorem hash_data (n : Nat) : ∀ b ∈ (hash n).data.toList, b = 35 := by
  intro b hb
  have h : ((b.toNat : Nat) : Int) ∈ bytesOf (hash n) := List.mem_map_of_mem hb
  rw [hash_bytes] at h
  have := (List.mem_replicate.1 h).2
  exact UInt8.toNat_inj.1 (by show b.toNat = 35; omega)
theorem hash_lines (n : Nat) : linesOf (hash n) = [hash n] := by
  have hc : Lib.countB (hash n) ⟨#[10]⟩ = 0 := by
    show Lib.count (hash n).data.toList [10] = 0
    rw [Lib.count_one, List.count_eq_zero]
    intro h
    have := hash_data n _ h
    exact absurd this (by decide)
  rw [linesOf, hc]; rfl
theorem hash_trim {n : Nat} (h : 0 < n) (h2 : n ≤ 4000000000) : strings_TrimSuffix.f (hash n) ⟨#[13]⟩ = some (hash n) := by
  have hz := hash_size n
  have e1 : ((⟨#[13]⟩ : ByteArray).size : Int) = 1 := rfl
  have hw : wrap64 (((hash n).size : Int) - 1) = ((n - 1 : Nat) : Int) := by rw [hz, wrap_nat (by omega) (by omega)]; omega
  have hs : stringslite_HasSuffix.f (hash n) ⟨#[13]⟩ = some false := by
    unfold stringslite_HasSuffix.f
    rw [e1, if_pos (by rw [hz]; omega), hw, if_pos (by omega), if_pos (by rw [hz]; omega)]
    refine congrArg some ?_
    rw [list_beq, bytes_extract, hash_bytes, hz, Int.toNat_natCast]
    refine beq_eq_false_iff_ne.2 fun e => ?_
    have h1 : (((List.replicate n (35 : Int)).take n).drop (n - 1)).getD 0 0 = 35 := by
      rw [List.getD_eq_getElem?_getD, List.getElem?_drop, List.getElem?_take_of_lt (by omega), List.getElem?_replicate, if_pos (by omega)]; rfl
    rw [e] at h1
    exact absurd h1 (by decide)
  unfold strings_TrimSuffix.f stringslite_TrimSuffix.f
  rw [hs]
  rfl
theorem hash_run {n : Nat} (h : 0 < n) (h2 : n ≤ 4000000000) : Run (linesOf (hash n)) 0 cfD (some cfD) 0 := by
  rw [hash_lines]
  refine .good (hash_trim h h2) (good_note _ (hash n) [] _ (hash_words h h2) (by rw [hash_size]; exact h) (hash_at 0 h) (by decide)) ?_
  exact .done _ _
end Go.Proofs.YtlpfineihjefcaaDoor.Conf
