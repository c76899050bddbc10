/- A directory is made. -/
import Derived.Test.YtafpaomcmjccaaaDirN
import Derived.Laws.MakeOwn
set_option linter.unusedVariables false
set_option linter.unusedSimpArgs false
namespace Go.Proofs.Ytafpaomcmjccaaa.Dir
open Go.RowKit Go.Proofs.Ytafpaomcmjccaaa.G Go.Proofs.YtafpaomcmjccaaaW.PrintWords Go.Proofs.YtafpaomcmjccaaaW.PrintMore Go.Proofs.Ytafpaomcmjccaaa.Foot
attribute [local go_sem] max2_int min2_int max_two min_two

def DirH (p : Nat) (D : Di) : HP := fun w F => ∃ q r M, (F = fun k => k = p ∨ k = q ∨ k = r) ∧ DirAt w p q r D M
instance {p : Nat} {D : Di} : Firm (DirH p D) := inferInstanceAs (Firm (fun w F => ∃ q r M, (F = fun k => k = p ∨ k = q ∨ k = r) ∧ DirAt w p q r D M))
def clamp (x : Int) (m : Nat) : Nat := if m < x then m else if x < 1 then 1 else x.toNat
theorem clamp_rng (x : Int) (m : Nat) (hm : 1 ≤ m) : 1 ≤ clamp x m ∧ clamp x m ≤ m := by
  unfold clamp
  split
  · omega
  · split <;> omega
theorem clamp_eq (x : Int) (m : Nat) (hm : 1 ≤ m) : (if (m : Int) < (if x < 1 then 1 else x) then (m : Int) else (if x < 1 then 1 else x)) = (clamp x m : Int) := by
  unfold clamp
  by_cases h1 : x < 1
  · rw [if_pos h1, if_neg (by omega), if_neg (by omega), if_pos h1]; rfl
  · rw [if_neg h1, if_neg h1]
    by_cases h2 : (m : Int) < x
    · rw [if_pos h2, if_pos h2]
    · rw [if_neg h2, if_neg h2]; omega
def newD (b s : Int) : Di := ⟨clamp s 16, List.replicate (clamp b 4096) []⟩
theorem newD_ok (b s : Int) : (newD b s).Ok := by
  have h1 := clamp_rng s 16 (by decide)
  have h2 := clamp_rng b 4096 (by decide)
  refine ⟨h1.1, h1.2, by show 1 ≤ (List.replicate _ _).length; rw [List.length_replicate]; exact h2.1, by show (List.replicate _ _).length ≤ _; rw [List.length_replicate]; exact h2.2, fun x hx => ?_, fun x hx => ?_⟩
  · rw [List.eq_of_mem_replicate hx]; exact Nat.zero_le _
  · rw [List.eq_of_mem_replicate hx]; intro y hy; cases hy
def zE : S55 := ⟨0, 0, 0, 0⟩
theorem flat_zeros (n : Nat) : madeCells #[.int .u16 0, .int .u32 0, .int .u16 0, .int .u64 0] (n * 4) = (flat (List.replicate n zE)).toArray := by
  apply Array.ext'
  apply List.ext_getElem?
  intro j
  by_cases h : j < n * 4
  · have hx : (List.replicate n zE)[j / 4]? = some zE := List.getElem?_replicate_of_lt (by omega)
    have hf := flat_get (List.replicate n zE) (j / 4) (j % 4) zE hx (Nat.mod_lt _ (by omega))
    rw [show j / 4 * 4 + j % 4 = j by omega] at hf
    rw [List.toList_toArray, hf]
    have hl : (madeCells #[Value.int .u16 0, .int .u32 0, .int .u16 0, .int .u64 0] (n * 4)).toList[j]? = some ((#[Value.int .u16 0, .int .u32 0, .int .u16 0, .int .u64 0])[j % 4]!) := by
      unfold madeCells
      rw [Array.getElem?_toList, Array.getElem?_map, Array.getElem?_range, if_pos h]
      rfl
    rw [hl]
    have hj : j % 4 = 0 ∨ j % 4 = 1 ∨ j % 4 = 2 ∨ j % 4 = 3 := by omega
    rcases hj with e | e | e | e <;> rw [e] <;> rfl
  · rw [List.getElem?_eq_none (by rw [Array.length_toList, size_madeCells]; omega), List.getElem?_eq_none (by rw [List.toList_toArray, flat_length, List.length_replicate]; omega)]
/-- Rows of zeros. -/
def eZ (m : Nat) : Array Value := (flat (List.replicate m zE)).toArray
def nZ (m : Nat) : Array Value := ((List.replicate m ([] : List S55)).map fun b => Value.int .i64 b.length).toArray
theorem make_e (m : Nat) (hm : m ≤ 1000000) (W : World) : (Instr.makeSlice 45 (.int .i64 (m : Int)) (.int .i64 (m : Int))).run Try.prog W = .ok (.slice (some ⟨W.heap.size, 0, none⟩) m m) (W.alloc (.cells (eZ m) 55)) := by
  have hz : (Try.prog.info? 55).map (fun i => (i.zero, i.size, i.bytes)) = some (some (.agg #[.int .u16 0, .int .u32 0, .int .u16 0, .int .u64 0]), 4, 24) := by kernel_rfl
  obtain ⟨i0, hi0, hh⟩ := Option.map_eq_some_iff.1 hz
  simp only [Prod.mk.injEq] at hh
  obtain ⟨h1, h2, h3⟩ := hh
  have := run_make (P := Try.prog) W 45 55 i0 _ Try.underlying45 hi0 h1 .i64 .i64 (m : Int) (m : Int) (by omega) (by omega) (by rw [h3]; omega) (by omega)
  rw [this, h2, Int.toNat_natCast]
  show Result.ok _ (W.alloc (.cells (madeCells #[.int .u16 0, .int .u32 0, .int .u16 0, .int .u64 0] (m * 4)) _)) = _
  rw [flat_zeros]
  rfl
theorem make_n (m : Nat) (hm : m ≤ 1000000) (W : World) : (Instr.makeSlice 67 (.int .i64 (m : Int)) (.int .i64 (m : Int))).run Try.prog W = .ok (.slice (some ⟨W.heap.size, 0, none⟩) m m) (W.alloc (.cells (nZ m) 3)) := by
  have hz : (Try.prog.info? 3).map (fun i => (i.zero, i.size, i.bytes)) = some (some (.int .i64 0), 1, 8) := by kernel_rfl
  have := print_make (P := Try.prog) 67 3 .i64 8 Try.underlying67 hz (by decide) m (by omega) W
  rw [this]
  have e : (madeCells #[Value.int .i64 0] m) = ((List.replicate m ([] : List S55)).map fun b => Value.int .i64 b.length).toArray := by
    apply Array.ext'
    rw [toList_madeCells_one, List.toList_toArray, List.map_replicate]
    rfl
  rw [e]
  rfl
theorem newD_parts (b s : Int) (n : Nat) : ∀ i c, (newD b s).L[i]? = some c → ((List.replicate n zE).drop (i * (newD b s).s)).take c.length = c := by
  intro i c hc
  have := List.eq_of_mem_replicate (List.mem_of_getElem? hc)
  subst this
  rfl
theorem new_at (b s : Int) (B S Z p q r : Nat) (W : World) (h : (newD b s).s = S ∧ (newD b s).L = List.replicate B [] ∧ B * S = Z) (hp : W.heap[p]? = some (.cells #[.int .i64 S, .slice (some ⟨q, 0, none⟩) Z Z, .slice (some ⟨r, 0, none⟩) B B] 69 (0, 0)))
    (hq : W.heap[q]? = some (.cells (eZ Z) 55 (0, 0))) (hr : W.heap[r]? = some (.cells (nZ B) 3 (0, 0))) (hpq : p ≠ q) (hpr : p ≠ r) (hqr : q ≠ r) : DirAt W p q r (newD b s) (List.replicate Z zE) := by
  obtain ⟨h1, h2, h3⟩ := h
  exact {
    box := by unfold boxO; rw [h1, h2, List.length_replicate, h3]; exact hp
    ents := hq
    nums := by unfold numsO; rw [h2]; exact hr
    pq := hpq, pr := hpr, qr := hqr
    len := by rw [h1, h2, List.length_replicate, List.length_replicate, h3]
    parts := newD_parts b s Z
    ok := newD_ok b s }
def NewPost (b s : Int) (w : World) (e : Ending) (w' : World) : Prop := ∃ p, e = .returned (.pointer (some ⟨p, 0, none⟩)) ∧ ∃ F, DirH p (newD b s) w' F ∧ (∀ k, F k → w.heap.size ≤ k) ∧ Below w.heap.size w w'
theorem three {w : World} (A B C : Obj) : (((w.alloc A).alloc B).alloc C).drew.heap[w.heap.size]? = some A ∧ (((w.alloc A).alloc B).alloc C).drew.heap[w.heap.size + 1]? = some B ∧ (((w.alloc A).alloc B).alloc C).drew.heap[w.heap.size + 1 + 1]? = some C ∧ Below w.heap.size w (((w.alloc A).alloc B).alloc C).drew := by
  refine ⟨blk_alloc (blk_alloc (blk_new w A) B) C, ?_, ?_, below_drew (below_alloc (below_alloc (below_alloc (Below.refl _ _) A) B) C)⟩
  · have := blk_alloc (blk_new (w.alloc A) B) C
    rwa [World.size_alloc] at this
  · have := blk_new ((w.alloc A).alloc B) C
    rwa [World.size_alloc, World.size_alloc] at this
theorem new_qr (b s : Int) (B S Z : Nat) (w : World) (h : (newD b s).s = S ∧ (newD b s).L = List.replicate B [] ∧ B * S = Z) :
    NewPost b s w (.returned (.pointer (some ⟨w.heap.size + 1 + 1, 0, none⟩))) (((w.alloc (.cells (eZ Z) 55)).alloc (.cells (nZ B) 3)).alloc (.cells #[.int .i64 S, .slice (some ⟨w.heap.size, 0, none⟩) Z Z, .slice (some ⟨w.heap.size + 1, 0, none⟩) B B] 69)).drew := by
  obtain ⟨h1, h2, h3, hb⟩ := three (w := w) (.cells (eZ Z) 55) (.cells (nZ B) 3) (.cells #[.int .i64 S, .slice (some ⟨w.heap.size, 0, none⟩) Z Z, .slice (some ⟨w.heap.size + 1, 0, none⟩) B B] 69)
  exact ⟨_, rfl, _, ⟨_, _, _, rfl, new_at b s B S Z _ _ _ _ h h3 h1 h2 (by omega) (by omega) (by omega)⟩, fun k hk => by rcases hk with rfl | rfl | rfl <;> omega, hb⟩
theorem new_rq (b s : Int) (B S Z : Nat) (w : World) (h : (newD b s).s = S ∧ (newD b s).L = List.replicate B [] ∧ B * S = Z) :
    NewPost b s w (.returned (.pointer (some ⟨w.heap.size + 1 + 1, 0, none⟩))) (((w.alloc (.cells (nZ B) 3)).alloc (.cells (eZ Z) 55)).alloc (.cells #[.int .i64 S, .slice (some ⟨w.heap.size + 1, 0, none⟩) Z Z, .slice (some ⟨w.heap.size, 0, none⟩) B B] 69)).drew := by
  obtain ⟨h1, h2, h3, hb⟩ := three (w := w) (.cells (nZ B) 3) (.cells (eZ Z) 55) (.cells #[.int .i64 S, .slice (some ⟨w.heap.size + 1, 0, none⟩) Z Z, .slice (some ⟨w.heap.size, 0, none⟩) B B] 69)
  exact ⟨_, rfl, _, ⟨_, _, _, rfl, new_at b s B S Z _ _ _ _ h h3 h2 h1 (by omega) (by omega) (by omega)⟩, fun k hk => by rcases hk with rfl | rfl | rfl <;> omega, hb⟩
set_option maxHeartbeats 2000000 in
theorem New_calls (b s : Int) (w : World) :
    Calls Try.prog 13 #[.int .i64 b, .int .i64 s] w (NewPost b s w) := by
  have hB := clamp_rng b 4096 (by decide)
  have hS := clamp_rng s 16 (by decide)
  have eB : (if (4096 : Int) < (if b < 1 then 1 else b) then (4096 : Int) else (if b < 1 then 1 else b)) = (clamp b 4096 : Int) := clamp_eq b 4096 (by decide)
  have eS : (if (16 : Int) < (if s < 1 then 1 else s) then (16 : Int) else (if s < 1 then 1 else s)) = (clamp s 16 : Int) := clamp_eq s 16 (by decide)
  generalize hBB : clamp b 4096 = B at *
  generalize hSS : clamp s 16 = S at *
  obtain ⟨Z, hZ⟩ : ∃ Z, B * S = Z := ⟨_, rfl⟩
  have hm : (B : Int) * (S : Int) = (Z : Int) := by rw [← hZ]; omega
  have hZ1 : Z ≤ 65536 := by rw [← hZ]; exact Nat.le_trans (Nat.mul_le_mul hB.2 hS.2) (by decide)
  obtain ⟨hB1, hB2⟩ := hB
  obtain ⟨hS1, hS2⟩ := hS
  have m1 := make_e Z (by omega)
  have m2 := make_n B (by omega)
  have hwz : IntKind.i64.wrap (Z : Int) = (Z : Int) := by rw [IntKind.wrap_i64]; omega
  have HD := Lib.hid (show (newD b s).s = S ∧ (newD b s).L = List.replicate B [] ∧ B * S = Z from ⟨hSS, by show List.replicate (clamp b 4096) [] = _; rw [hBB], hZ⟩)
  clear hBB hSS hZ
  go_enter Try.func13, Try.ntmps13
  go_wp2_with fail
  all_goals go_region_held3 (fun _ => True) (exact trivial) (fail)
  all_goals
    go_wp2
    go_ret
    first
      | exact new_qr b s B S Z w HD.out
      | exact new_rq b s B S Z w HD.out
end Go.Proofs.Ytafpaomcmjccaaa.Dir
