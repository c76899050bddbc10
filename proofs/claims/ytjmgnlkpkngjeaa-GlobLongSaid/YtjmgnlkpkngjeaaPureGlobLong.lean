/- Patterns of 198 to 202 bytes 'a': just those of at most 200 bytes are valid, and match themselves. No condition. -/
import Derived.Test.YtjmgnlkpkngjeaaGx7
import Derived.Test.YtjmgnlkpkngjeaaGlobKnown
set_option linter.unusedVariables false
set_option linter.unusedSimpArgs false
namespace Go.Proofs.Ytjmgnlkpkngjeaa.Pure
open Go.RowKit Go.Proofs.Ytjmgnlkpkngjeaa.G Go.Proofs.YtjmgnlkpkngjeaaW.PrintWords Go.Proofs.YtjmgnlkpkngjeaaW.PrintLast Go.Proofs.Ytjmgnlkpkngjeaa.Plain

theorem parse_as : ∀ n : Nat, parse (List.replicate n 97) = some (List.replicate n (own 97))
  | 0 => rfl
  | n + 1 => by rw [List.replicate_succ, parse_own 97 (by omega), parse_as n]; rfl
theorem loopA (n : Nat) (hn : n ≤ 300) : ∀ (d i : Nat) (xs : List Int), n - i = d → i ≤ n → xs = List.replicate i 97 ++ List.replicate (n - i) 0 → Ev (fun k => ambrylaw24_GlobLong.l0 k (n : Int) xs (i : Int)) true := by
  intro d
  induction d with
  | zero =>
    intro i xs hd hi hx
    obtain rfl : i = n := by omega
    rw [Nat.sub_self, List.replicate_zero, List.append_nil] at hx
    subst hx
    have hb : bytesOf (strOfNums (List.replicate i 97)) = List.replicate i 97 := bytes_of_nums (fun c hc => by rw [List.eq_of_mem_replicate hc]; omega)
    have hs : (strOfNums (List.replicate i 97)).size = i := by rw [strOfNums_size, List.length_replicate]
    refine Ev.step (fun k => ambrylaw24_GlobLong.l0.eq_2 _ _ _ _) (ev_neg (by omega) ?_)
    generalize strOfNums (List.replicate i 97) = t at hb hs ⊢
    refine ev_bind (valid_ev t) ?_
    by_cases h : i ≤ 200
    · have hp : pparse t = some (List.replicate i (own 97)) := by rw [pparse, if_pos (by omega), hb, parse_as]
      rw [hp]
      have hd : decide ((i : Int) ≤ 200) = true := decide_eq_true (by omega)
      rw [hd]
      refine ev_pos rfl (ev_bind (match_ev t t (by omega)) (ev_ret ?_))
      have e : List.replicate i (own 97) = (List.replicate i (97 : Int)).map own := by rw [List.map_replicate]
      rw [mtc, hp]
      simp only
      rw [hb, e, Mm_own]; simp
    · have hp : pparse t = none := by rw [pparse, if_neg (by omega)]
      rw [hp]
      have hd : decide ((i : Int) ≤ 200) = false := decide_eq_false (by omega)
      rw [hd]
      refine ev_pos rfl (ev_bind (match_ev t t (by omega)) (ev_ret ?_))
      rw [mtc, hp]; rfl
  | succ d ih =>
    intro i xs hd hi hx
    have hl : xs.length = n := by rw [hx]; simp; omega
    refine Ev.step (fun k => ambrylaw24_GlobLong.l0.eq_2 _ _ _ _) (ev_pos (by omega) (ev_pos (by omega) (ev_pos (by omega) ?_)))
    rw [wrap_succ (by omega)]
    refine ih (i + 1) _ (by omega) (by omega) ?_
    have e0 : ((i : Nat) : Int).toNat = i := rfl
    obtain ⟨m, hm⟩ : ∃ m, n - i = m + 1 := ⟨n - i - 1, by omega⟩
    have hm2 : n - (i + 1) = m := by omega
    rw [hx, e0, hm, hm2, List.set_append_right _ _ (by simp), List.length_replicate, Nat.sub_self, List.replicate_succ, List.set_cons_zero, List.replicate_succ', List.append_assoc]
    rfl
theorem and3 (n : Int) : Go.bits .and .i64 n 3 = n % 4 := by
  have h127 : (BitVec.ofInt 64 3).toNat = 2 ^ 2 - 1 := by decide
  have key : (BitVec.ofInt 64 n &&& BitVec.ofInt 64 3).toNat = (n % ((2 ^ 64 : Nat) : Int)).toNat % 2 ^ 2 := by
    rw [BitVec.toNat_and, BitVec.toNat_ofInt, h127, Nat.and_two_pow_sub_one_eq_mod]
  show IntKind.i64.wrap ((BitVec.ofInt 64 n &&& BitVec.ofInt 64 3).toNat : Nat) = n % 4
  rw [key, IntKind.wrap_i64]
  omega
theorem and1 (n : Int) : Go.bits .and .i64 n 1 = n % 2 := by
  have h127 : (BitVec.ofInt 64 1).toNat = 2 ^ 1 - 1 := by decide
  have key : (BitVec.ofInt 64 n &&& BitVec.ofInt 64 1).toNat = (n % ((2 ^ 64 : Nat) : Int)).toNat % 2 ^ 1 := by
    rw [BitVec.toNat_and, BitVec.toNat_ofInt, h127, Nat.and_two_pow_sub_one_eq_mod]
  show IntKind.i64.wrap ((BitVec.ofInt 64 n &&& BitVec.ofInt 64 1).toNat : Nat) = n % 2
  rw [key, IntKind.wrap_i64]
  omega
theorem GlobLong : ambrylaw24_GlobLong.Pure := by
  intro n _
  refine Ev.rounds (g := fun k => ambrylaw24_GlobLong.f k n) ?_
  refine Ev.congr (fun k => ambrylaw24_GlobLong.f.eq_1 k n) ?_
  refine ev_bind known_ev (ev_pos rfl ?_)
  rw [and3, and1]
  obtain ⟨m, hm⟩ : ∃ m : Nat, wrap64 (198 + wrap64 (n % 4 + n / 4 % 2)) = (m : Int) := ⟨(wrap64 (198 + wrap64 (n % 4 + n / 4 % 2))).toNat, by unfold wrap64; omega⟩
  have hm2 : m ≤ 300 := by unfold wrap64 at hm; omega
  rw [hm]
  have e0 : ((m : Nat) : Int).toNat = m := rfl
  rw [e0]
  exact ev_pos (by omega) (ev_pos (by omega) (loopA m hm2 _ 0 _ rfl (by omega) (by simp)))
end Go.Proofs.Ytjmgnlkpkngjeaa.Pure
