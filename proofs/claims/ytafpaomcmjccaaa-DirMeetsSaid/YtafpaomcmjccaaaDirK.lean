/- Keys: a key's tag, and its bucket. -/
import Derived.Test.YtafpaomcmjccaaaDirL
import Derived.Laws.Rows
import Derived.Deep.MidRow
import Derived.Laws.BitsAllLaws
import Derived.Laws.Bits64
import Derived.Outline
import Derived.Test.YtafpaomcmjccaaaPlainA
set_option linter.unusedVariables false
set_option linter.unusedSimpArgs false
namespace Go.Proofs.Ytafpaomcmjccaaa.Dir
open Go.RowKit Go.Proofs.Ytafpaomcmjccaaa.G Go.Proofs.YtafpaomcmjccaaaW.PrintWords Go.Proofs.YtafpaomcmjccaaaW.PrintMore Go.Proofs.Ytafpaomcmjccaaa.Foot

/-- Thirty-two bytes. -/
structure Key where
  c : List Int
  len : c.length = 32
  rng : ∀ x ∈ c, 0 ≤ x ∧ x ≤ 255
def Key.cells (k : Key) : Array Value := (k.c.map (Value.int .u8)).toArray
def Key.nth (k : Key) (i : Nat) : Int := k.c.getD i 0
theorem Key.nth_rng (k : Key) (i : Nat) : 0 ≤ k.nth i ∧ k.nth i ≤ 255 := by
  unfold Key.nth
  rw [List.getD_eq_getElem?_getD]
  cases h : k.c[i]? with
  | none => simp
  | some x => exact k.rng x (List.mem_of_getElem? h)
theorem Key.cell (k : Key) (i : Nat) (h : i < 32) : k.cells[i]? = some (.int .u8 (k.nth i)) := by
  unfold Key.cells Key.nth
  rw [List.getElem?_toArray, List.getElem?_map, List.getD_eq_getElem?_getD, List.getElem?_eq_getElem (by rw [k.len]; exact h)]
  rfl
theorem Key.size (k : Key) : k.cells.size = 32 := by
  unfold Key.cells
  rw [List.size_toArray, List.length_map, k.len]
theorem Key.one (k : Key) : k.cells.all (·.oneCell') = true := by
  rw [Array.all_eq_true_iff_forall_mem]
  intro v hv
  unfold Key.cells at hv
  rw [List.mem_toArray, List.mem_map] at hv
  obtain ⟨x, _, rfl⟩ := hv
  rfl
def Key.tag (k : Key) : Int := (k.nth 4 * 256 + k.nth 5) % 4096
def Key.num (k : Key) : Int := k.nth 0 * 16777216 + k.nth 1 * 65536 + k.nth 2 * 256 + k.nth 3
theorem Key.tag_rng (k : Key) : 0 ≤ k.tag ∧ k.tag ≤ 4095 := by unfold Key.tag; omega
theorem Key.num_rng (k : Key) : 0 ≤ k.num ∧ k.num < 4294967296 := by
  have h0 := k.nth_rng 0; have h1 := k.nth_rng 1; have h2 := k.nth_rng 2; have h3 := k.nth_rng 3
  unfold Key.num; omega
theorem load_key (k : Key) (w : World) (g : Nat) (h : w.heap[g]? = some (.cells k.cells 23 (0, 0))) : (Instr.loadAt 23 (.pointer (some ⟨g, 0, none⟩))).run Try.prog w = .ok (.agg k.cells) w := by
  have := run_loadAt_mid (P := Try.prog) w g 0 23 k.cells.toList _ (fun j v hv => by
    rw [Nat.zero_add, blk_cell h j, ← Array.getElem?_toList, hv]) Try.underlying23 rfl (by rw [Array.length_toList, k.size]; kernel_rfl)
  rwa [Array.toArray_toList] at this
theorem or16 (a b : Int) (h0 : 0 ≤ a) (h1 : a ≤ 255) (h2 : 0 ≤ b) (h3 : b ≤ 255) : bits .or .u16 (a * 256) b = a * 256 + b := by
  obtain ⟨A, rfl⟩ := Int.eq_ofNat_of_zero_le h0
  obtain ⟨B, rfl⟩ := Int.eq_ofNat_of_zero_le h2
  rw [show (A : Int) * 256 = ((A * 256 : Nat) : Int) by omega, u16_or_nat _ _ (by omega) (by omega), nat_join 8 _ _ (by omega) (by omega)]
  omega
theorem and4095 (a : Int) (h0 : 0 ≤ a) (h1 : a < 65536) : bits .and .u16 a 4095 = a % 4096 := by
  obtain ⟨A, rfl⟩ := Int.eq_ofNat_of_zero_le h0
  rw [show (4095 : Int) = ((4095 : Nat) : Int) from rfl, u16_and_nat _ _ (by omega) (by omega), show (4095 : Nat) = 2 ^ 12 - 1 from rfl, Nat.and_two_pow_sub_one_eq_mod]
  omega
theorem or32 (i : Nat) (x b : Int) (h0 : 0 ≤ x) (h1 : x < 4294967296) (hx : x % (2 ^ i : Nat) = 0) (h2 : 0 ≤ b) (h3 : b < (2 ^ i : Nat)) (hb : b < 4294967296) : bits .or .u32 x b = x + b := by
  obtain ⟨A, rfl⟩ := Int.eq_ofNat_of_zero_le h0
  obtain ⟨B, rfl⟩ := Int.eq_ofNat_of_zero_le h2
  rw [u32_or _ _ (by omega) (by omega) (by omega) (by omega), Int.toNat_natCast, Int.toNat_natCast, nat_join i _ _ (by omega) (by omega)]
  omega
set_option maxHeartbeats 1000000 in
theorem Tag_calls (k : Key) (w : World) : Calls Try.prog 11 #[.agg k.cells] w fun e w' => e = .returned (.int .u16 k.tag) ∧ Below w.heap.size w w' := by
  have h4 := k.cell 4 (by omega)
  have h5 := k.cell 5 (by omega)
  obtain ⟨r4, q4⟩ := k.nth_rng 4
  obtain ⟨r5, q5⟩ := k.nth_rng 5
  unfold Key.tag
  generalize k.nth 4 = a at *
  generalize k.nth 5 = b at *
  generalize k.cells = cs at *
  go_enter Try.func11, Try.ntmps11
  go_wp2
  rw [or16 a b r4 q4 r5 q5, and4095 _ (by omega) (by omega)]
  go_ret
  exact ⟨rfl, below_alloc (Below.refl _ _) _⟩
set_option maxHeartbeats 1000000 in
theorem Bucket_calls (k : Key) (w : World) (p B : Nat) (R : Option Addr) (c : Nat) (hp : w.cell? ⟨p, 2, none⟩ = some (.slice R B c)) (hB : 1 ≤ B) (hB2 : B ≤ 4096) :
    Calls Try.prog 14 #[.pointer (some ⟨p, 0, none⟩), .agg k.cells] w fun e w' => e = .returned (.int .i64 (k.num % B)) ∧ Below w.heap.size w w' := by
  have h0 := k.cell 0 (by omega)
  have h1 := k.cell 1 (by omega)
  have h2 := k.cell 2 (by omega)
  have h3 := k.cell 3 (by omega)
  obtain ⟨r0, q0⟩ := k.nth_rng 0
  obtain ⟨r1, q1⟩ := k.nth_rng 1
  obtain ⟨r2, q2⟩ := k.nth_rng 2
  obtain ⟨r3, q3⟩ := k.nth_rng 3
  have e1 := or32 24 (k.nth 0 * 16777216) (k.nth 1 * 65536) (by omega) (by omega) (by omega) (by omega) (by omega) (by omega)
  have e2 := or32 16 (k.nth 0 * 16777216 + k.nth 1 * 65536) (k.nth 2 * 256) (by omega) (by omega) (by omega) (by omega) (by omega) (by omega)
  have e3 := or32 8 (k.nth 0 * 16777216 + k.nth 1 * 65536 + k.nth 2 * 256) (k.nth 3) (by omega) (by omega) (by omega) (by omega) (by omega) (by omega)
  have hn := k.num_rng
  have hN : k.num = k.nth 0 * 16777216 + k.nth 1 * 65536 + k.nth 2 * 256 + k.nth 3 := rfl
  have hp' : ∀ cs, (w.alloc (.cells cs 23)).cell? ⟨p, 2, none⟩ = some (.slice R B c) := fun cs => pw_cell_below (below_alloc (Below.refl _ _) _) hp
  generalize k.nth 0 = a0 at *
  generalize k.nth 1 = a1 at *
  generalize k.nth 2 = a2 at *
  generalize k.nth 3 = a3 at *
  generalize k.cells = cs at *
  go_enter Try.func14, Try.ntmps14
  go_wp2
  rw [show wrap64 ((a0 * 16777216 + a1 * 65536 + a2 * 256 + a3) % (B : Int)) = (a0 * 16777216 + a1 * 65536 + a2 * 256 + a3) % (B : Int) by
    have := Int.emod_nonneg (a0 * 16777216 + a1 * 65536 + a2 * 256 + a3) (show (B : Int) ≠ 0 by omega)
    have := Int.emod_lt_of_pos (a0 * 16777216 + a1 * 65536 + a2 * 256 + a3) (show (0 : Int) < (B : Int) by omega)
    generalize (a0 * 16777216 + a1 * 65536 + a2 * 256 + a3) % (B : Int) = x at *
    unfold wrap64; omega]
  go_ret
  rw [hN]
  exact ⟨rfl, below_alloc (Below.refl _ _) _⟩
end Go.Proofs.Ytafpaomcmjccaaa.Dir
