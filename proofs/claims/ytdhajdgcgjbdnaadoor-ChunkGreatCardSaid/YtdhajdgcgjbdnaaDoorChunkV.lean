/- The document's text of a number. -/
import Derived.Test.YtdhajdgcgjbdnaaDoorChunkF
import Derived.Test.YtdhajdgcgjbdnaaDoorMarks
import Derived.Test.YtdhajdgcgjbdnaaDoorGx3
set_option linter.unusedVariables false
set_option linter.unusedSimpArgs false
namespace Go.Proofs.YtdhajdgcgjbdnaaDoor.Chunk
open Go.RowKit Go.Proofs.YtdhajdgcgjbdnaaDoor.G Go.Proofs.YtdhajdgcgjbdnaaDoorW.PrintWords Go.Proofs.YtdhajdgcgjbdnaaDoorW.PrintMore Go.Proofs.YtdhajdgcgjbdnaaDoor.Foot Go.Proofs.YtdhajdgcgjbdnaaDoor.Plain Go.Proofs.YtdhajdgcgjbdnaaDoor.Marks

theorem digit_ref : ∀ D : Fin 16, bytesOf ((⟨#[48, 49, 50, 51, 52, 53, 54, 55, 56, 57, 97, 98, 99, 100, 101, 102]⟩ : ByteArray).extract D.val (D.val + 1)) = [hexC D.val] := by decide +kernel
theorem hex_ref : ∀ (f u : Nat), f ≤ 15 → u < 16 ^ (f + 1) → ∃ r, ambryref10_hexText.f (f + 1) (u : Int) = some r ∧ bytesOf r = hexT f u
  | 0, u, _, h => by
    have hu : u < 16 := by simpa using h
    refine ⟨_, ?_, digit_ref ⟨u, hu⟩⟩
    rw [ambryref10_hexText.f, if_pos (by omega), if_pos (by omega), w64 _ (by omega) (by omega), if_pos (by omega), if_pos (by omega)]
    rw [show ((u : Int) + 1).toNat = u + 1 by omega, Int.toNat_natCast]
  | f + 1, u, hf, h => by
    by_cases hu : u < 16
    · refine ⟨_, ?_, by rw [hexT, if_pos hu]; exact digit_ref ⟨u, hu⟩⟩
      rw [ambryref10_hexText.f, if_pos (by omega), if_pos (by omega), w64 _ (by omega) (by omega), if_pos (by omega), if_pos (by omega)]
      rw [show ((u : Int) + 1).toNat = u + 1 by omega, Int.toNat_natCast]
    · have h16 : (16 : Nat) ^ (f + 1 + 1) ≤ 16 ^ 16 := Nat.pow_le_pow_right (by omega) (by omega)
      have hub : u < 18446744073709551616 := Nat.lt_of_lt_of_le h (Nat.le_trans h16 (by decide))
      have hd : u / 16 < 16 ^ (f + 1) := by
        rw [Nat.pow_succ] at h
        omega
      obtain ⟨r, hr, hb⟩ := hex_ref f (u / 16) (by omega) hd
      have htd : Int.tdiv (u : Int) 16 = ((u / 16 : Nat) : Int) := rfl
      have htm : Int.tmod (u : Int) 16 = ((u % 16 : Nat) : Int) := rfl
      have hm : u % 16 < 16 := Nat.mod_lt _ (by omega)
      have hrs : r.size ≤ 16 := by
        rw [size_bytes, hb]
        have := (hexT_length f (u / 16)).1
        omega
      refine ⟨r ++ (⟨#[48, 49, 50, 51, 52, 53, 54, 55, 56, 57, 97, 98, 99, 100, 101, 102]⟩ : ByteArray).extract (u % 16) (u % 16 + 1), ?_, ?_⟩
      · rw [ambryref10_hexText.f, if_neg (by omega), htd, htm, w64 ((u / 16 : Nat) : Int) (by omega) (by omega), hr, Option.bind_some, if_pos (by omega), w64 (((u % 16 : Nat) : Int) + 1) (by omega) (by omega), if_pos (by omega), if_pos (by omega)]
        rw [show (((u % 16 : Nat) : Int) + 1).toNat = u % 16 + 1 by omega, Int.toNat_natCast]
        rw [if_pos (by rw [ByteArray.size_extract]; omega)]
      · rw [bytes_append, hb, digit_ref ⟨u % 16, hm⟩]
        conv => rhs; rw [hexT, if_neg hu]
theorem pow15' {n : Nat} (h : n ≤ 1000000000000) : n < 16 ^ (15 + 1) := Nat.lt_of_le_of_lt h (by decide)
theorem C_takeN {w : World} {A : Option Addr} {n : Nat} {xs : List Int} (h : Kd.C (Kd.int .u8) w A n xs) (m : Nat) (hm : m ≤ xs.length) : Kd.C (Kd.int .u8) w A m (xs.take m) := by
  obtain ⟨h1, h2, h3⟩ := h
  have hl : (xs.take m).length = m := by rw [List.length_take]; omega
  refine ⟨hl, by omega, fun h0 => ?_⟩
  obtain ⟨ad, ha, hr⟩ := h3 (by omega)
  refine ⟨ad, ha, fun j x hj => hr j x ?_⟩
  rw [List.getElem?_take] at hj
  split at hj
  · exact hj
  · cases hj
/-- A number's pieces are as many as they must be. -/
theorem pieces_one {n z k j : Nat} (hz : 1 ≤ z) (hk1 : n ≤ k * z) (hk2 : k = 0 ∨ (k - 1) * z < n) (hj1 : n ≤ j * z) (hj2 : j = 0 ∨ (j - 1) * z < n) : k = j := by
  rcases Nat.lt_trichotomy k j with h | h | h
  · rcases hj2 with h2 | h2
    · omega
    · have := Nat.mul_le_mul_right z (show k ≤ j - 1 by omega)
      omega
  · exact h
  · rcases hk2 with h2 | h2
    · omega
    · have := Nat.mul_le_mul_right z (show j ≤ k - 1 by omega)
      omega
end Go.Proofs.YtdhajdgcgjbdnaaDoor.Chunk
