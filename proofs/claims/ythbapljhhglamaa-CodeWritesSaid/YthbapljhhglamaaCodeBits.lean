/- Bits of numbers and of their bytes. -/
import Derived.Laws.BitsAllLaws
import Derived.Laws.Bits64
set_option linter.unusedVariables false
namespace Go.Proofs.Ythbapljhhglamaa.CodeL
open Go
theorem mod256_or (n : Nat) : n % 256 ||| 128 = n % 128 + 128 := by
  have key : ∀ b : Fin 256, b.val ||| 128 = b.val % 128 + 128 := by decide +kernel
  have := key ⟨n % 256, Nat.mod_lt _ (by decide)⟩
  simp only at this
  rw [this]
  omega
theorem byte_more (n : Nat) : bits .or .u8 ((n : Int) % 256) 128 = ((n % 128 + 128 : Nat) : Int) := by
  have e : ((n : Int) % 256) = ((n % 256 : Nat) : Int) := by omega
  rw [e, show (128 : Int) = ((128 : Nat) : Int) from rfl, u8_or_nat _ _ (Nat.mod_lt _ (by decide)) (by decide), mod256_or]
theorem byte_low (x : Nat) (h : x < 256) : bits .andNot .u8 (x : Int) 128 = ((x % 128 : Nat) : Int) := by
  have key : ∀ b : Fin 256, b.val &&& 127 = b.val % 128 := by decide +kernel
  rw [show (128 : Int) = ((128 : Nat) : Int) from rfl, u8_andNot_nat _ _ h (by decide)]
  have := key ⟨x, h⟩
  simp only at this
  rw [show 255 - 128 = 127 from rfl, this]
theorem byte_low' (x : Nat) (h : x < 256) : bits .and .u8 (x : Int) 127 = ((x % 128 : Nat) : Int) := by
  have key : ∀ b : Fin 256, b.val &&& 127 = b.val % 128 := by decide +kernel
  rw [show (127 : Int) = ((127 : Nat) : Int) from rfl, u8_and_nat _ _ h (by decide)]
  have := key ⟨x, h⟩
  simp only at this
  rw [this]
theorem byte_top (x : Nat) (h : x < 256) : bits .and .u8 (x : Int) 128 = if x < 128 then 0 else 128 := by
  have key : ∀ b : Fin 256, b.val &&& 128 = if b.val < 128 then 0 else 128 := by decide +kernel
  rw [show (128 : Int) = ((128 : Nat) : Int) from rfl, u8_and_nat _ _ h (by decide)]
  have := key ⟨x, h⟩
  simp only at this
  rw [this]
  split <;> rfl
theorem or_shift (n v i : Nat) (hn : n < 2 ^ i) (h : n + v * 2 ^ i < 18446744073709551616) : bits .or .u64 (n : Int) ((v * 2 ^ i : Nat) : Int) = ((n + v * 2 ^ i : Nat) : Int) := by
  rw [u64_or_nat _ _ (by omega) (by omega), Nat.or_comm, nat_join i _ _ (Nat.mul_mod_left _ _) hn, Nat.add_comm]
end Go.Proofs.Ythbapljhhglamaa.CodeL
