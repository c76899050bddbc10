/- What stops a reading, and what catches it. -/
import Derived.Test.YthbapljhhglamaaDrawn
import Derived.Test.YthbapljhhglamaaGx0
import Derived.Tactics
import Derived.Tactics2
import Derived.Defers
import Derived.Recover
import Derived.WalkLawsBesides
import Derived.Laws.Pointers
import Derived.Outline
set_option linter.unusedVariables false
set_option linter.unusedSimpArgs false
namespace Go.Proofs.Ythbapljhhglamaa.Code
open Go.RowKit Go.Proofs.Ythbapljhhglamaa.G Go.Proofs.YthbapljhhglamaaW.PrintWords Go.Proofs.YthbapljhhglamaaW.PrintMore

/-- The panic of a reading that stops. -/
def stop : PanicEntry := { v := .iface 70 (.agg #[]), recovered := false }
theorem must_yes (W : World) : Calls Try.prog 38 #[.bool true] W fun e w' => e = .returned (.tuple #[]) ∧ w' = W := by
  go_enter Try.func38, Try.ntmps38
  go_wp2
  go_end0
  exact ⟨rfl, rfl⟩
theorem must_no (W : World) : Calls Try.prog 38 #[.bool false] W fun e w' => e = .panicked [stop] ∧ w' = W := by
  go_enter Try.func38, Try.ntmps38
  go_wp2
  simp [bodyPost, stop]
/-- A reader in a block: what is left of its bytes, whether it failed. -/
def Rdr (W : World) (p : Nat) (xs : List Int) (fl : Bool) : Prop :=
  ∃ A c, W.heap[p]? = some (.cells #[.slice A xs.length c, .bool fl] 63 (0, 0)) ∧ Kd.C (Kd.int .u8) W A xs.length xs ∧ xs.length ≤ c
/-- What a reader's calls turn: its own block, and new ones. -/
theorem catch_idle (a b : Addr) (w : World) :
    CallsD Try.prog 40 #[.pointer (some a), .pointer (some b)] .returning w fun e u' w' => e = .returned (.tuple #[]) ∧ u' = .returning ∧ w' = w := by
  refine callsD_of_wpS Try.func40 rfl fun c₀ cs hu => ?_
  apply wpS_seq
  apply wpS_region
  simp [wpOpsS, go_sem, recoverD, hu, Try.ntmps40, Exit.thenS]
  apply wpS_seq
  apply wpS_region
  simp [wpOpsS, go_sem, Exit.thenS]
  refine wpS_cond (t := false) (by simp [Act.eval, Array.replicate]) ?_
  simp only [Bool.false_eq_true, if_false]
  refine wpS_of_wp (wp_skip ?_)
  cases c₀
  simp_all [bodyPostS, results, Try.results40]
theorem assert_stop (w : World) : (Instr.typeAssert (.iface 70 (.agg #[])) 20 70 true).run Try.prog w = .ok (.tuple #[.agg #[], .bool true]) w := by kernel_rfl
theorem catch_stop (a b : Addr) (p : Nat) (w : World) (ha : w.cell? a = some (.pointer (some ⟨p, 0, none⟩))) (xs : List Int) (hR : Rdr w p xs false) (hb : (w.cell? b).isSome = true) (hz : w.frozen? b = false) (hbp : b.block ≠ p) :
    CallsD Try.prog 40 #[.pointer (some a), .pointer (some b)] (.panicking [stop]) w fun e u' w' =>
      e = .returned (.tuple #[]) ∧ u' = .panicking [{ stop with recovered := true }] ∧ w' = (((w.alloc (.cells #[] 70))).setCell ⟨p, 1, none⟩ (.bool true)).setCell b (.bool false) := by
  obtain ⟨A, c, hb1, hC, hc⟩ := hR
  obtain ⟨vb, hvb⟩ := Option.isSome_iff_exists.1 hb
  have lb := World.block_lt_of_cell? w b hvb
  have ha2 := (World.cell?_alloc_lt w (.cells #[] 70) a (World.block_lt_of_cell? w a ha)).trans ha
  have hb2 := (World.cell?_alloc_lt w (.cells #[] 70) b lb).trans hvb
  have hp2 : (w.alloc (.cells #[] 70)).heap[p]? = some (.cells #[.slice A xs.length c, .bool false] 63 (0, 0)) := blk_alloc hb1 _
  have hp3 := blk_cell hp2 1
  have hp4 := blk_frozen hp2 1
  have hta := assert_stop w
  refine callsD_of_wpS Try.func40 rfl fun c₀ cs hu => ?_
  apply wpS_seq
  apply wpS_region
  simp [wpOpsS, go_sem, recoverD, hu, Try.ntmps40, Exit.thenS, stop]
  apply wpS_seq
  apply wpS_region
  simp [wpOpsS, go_sem, Exit.thenS]
  refine wpS_cond (t := true) (by simp [Act.eval, Array.replicate]) ?_
  simp only [if_true]
  apply wpS_seq
  apply wpS_seq
  apply wpS_region
  simp [wpOpsS, go_sem, Exit.thenS, hta]
  apply wpS_seq
  apply wpS_region
  simp [wpOpsS, go_sem, Exit.thenS]
  refine wpS_cond (t := false) (by simp [Act.eval, Array.replicate]) ?_
  simp only [Bool.false_eq_true, if_false]
  refine wpS_of_wp (wp_skip ?_)
  simp only [Exit.thenS]
  apply wpS_region
  have hz2 : (w.alloc (.cells #[] 70)).frozen? b = false := by rw [← hz]; exact World.frozen?_of_block (Below.heap_alloc w _ _ lb)
  have hb3 : ((w.alloc (.cells #[] 70)).setCell ⟨p, 1, none⟩ (.bool true)).cell? b = some vb := by rw [← hb2]; exact World.cell?_of_block (Below.heap_setCell _ _ _ _ hbp)
  have hz3 : ((w.alloc (.cells #[] 70)).setCell ⟨p, 1, none⟩ (.bool true)).frozen? b = false := by rw [← hz2]; exact World.frozen?_of_block (Below.heap_setCell _ _ _ _ hbp)
  have hp3 : (w.alloc (.cells #[] 70)).cell? ⟨p, 1, none⟩ = some (.bool false) := hp3
  simp [wpOpsS, go_sem, ha2, hp3, hp4, hb3, hz3, bodyPostS, results, Try.results40]
/-- The world in which 'try' calls what it was given. -/
def tryW (W : World) (p : Nat) : World := (W.alloc (.cells #[.pointer (some ⟨p, 0, none⟩)] 32)).alloc (.cells #[.bool false] 4)
theorem try_failed (W : World) (p : Nat) (xs : List Int) (f : Value) (hR : Rdr W p xs true) :
    Calls Try.prog 32 #[.pointer (some ⟨p, 0, none⟩), f] W fun e w' => e = .returned (.bool false) ∧ Below W.heap.size W w' := by
  obtain ⟨A, c, hb1, hC, hc⟩ := hR
  have hq := blk_cell (blk_alloc (blk_alloc hb1 (.cells #[.pointer (some ⟨p, 0, none⟩)] 32)) (.cells #[.bool false] 4)) 1
  clear hC hb1
  go_enter_defers Try.func32, Try.ntmps32
  go_wp2
  have hc0 := blk_cell (blk_new (W.alloc (.cells #[.pointer (some ⟨p, 0, none⟩)] 32)) (.cells #[.bool false] 4)) 0
  have hc0 : ((W.alloc (.cells #[.pointer (some ⟨p, 0, none⟩)] 32)).alloc (.cells #[.bool false] 4)).cell? ⟨W.heap.size + 1, 0, none⟩ = some (.bool false) := by simp
  have hB : Below W.heap.size W ((W.alloc (.cells #[.pointer (some ⟨p, 0, none⟩)] 32)).alloc (.cells #[.bool false] 4)) := below_alloc (below_alloc (Below.refl _ _) _) _
  simp [bodyPostD, Leaves, settle, results, Try.results32, go_sem, hc0, hB]
theorem try_runs (W : World) (p : Nat) (xs : List Int) (g : Nat) (cb : Array Value) (eg : ∀ args w, (callFunc g args).run Try.prog w = .ok (.enter g args) w) (hR : Rdr W p xs false) (A B : World → Prop)
    (hc : Calls Try.prog g cb (tryW W p) fun e w' => (e = .returned (.tuple #[]) ∧ A w') ∨ (e = .panicked [stop] ∧ B w'))
    (hA : ∀ w', A w' → w'.heap[W.heap.size + 1]? = some (.cells #[.bool false] 4 (0, 0)))
    (hB : ∀ w', B w' → w'.heap[W.heap.size + 1]? = some (.cells #[.bool false] 4 (0, 0)) ∧ w'.heap[W.heap.size]? = some (.cells #[.pointer (some ⟨p, 0, none⟩)] 32 (0, 0)) ∧ ∃ ys, Rdr w' p ys false) :
    Calls Try.prog 32 #[.pointer (some ⟨p, 0, none⟩), .func (.func g) #[] cb] W fun e w' =>
      (e = .returned (.bool true) ∧ ∃ w1, A w1 ∧ w' = w1.setCell ⟨W.heap.size + 1, 0, none⟩ (.bool true)) ∨
      (e = .returned (.bool false) ∧ ∃ w1, B w1 ∧ w' = ((w1.alloc (.cells #[] 70)).setCell ⟨p, 1, none⟩ (.bool true)).setCell ⟨W.heap.size + 1, 0, none⟩ (.bool false)) := by
  have hmf : ∀ (fn : Fn) (first cap : Array Value) (w : World), (Instr.makeFunc fn first cap).run Try.prog w = .ok (.func fn first cap) w := fun _ _ _ _ => rfl
  obtain ⟨AA, c, hb1, hC, hcc⟩ := hR
  have hq := blk_cell (blk_alloc (blk_alloc hb1 (.cells #[.pointer (some ⟨p, 0, none⟩)] 32)) (.cells #[.bool false] 4)) 1
  have HC := Lib.hid hc
  have HA := Lib.hid hA
  have HB := Lib.hid hB
  have hpl := blk_lt hb1
  clear hC hb1 hc hA hB
  go_enter_defers Try.func32, Try.ntmps32
  go_wp2_with fail
  refine HC.out.mono ?_
  rintro e w1 (⟨rfl, hA1⟩ | ⟨rfl, hB1⟩)
  · have hk := HA.out _ hA1
    have hk0 := blk_cell hk 0
    have hkz := blk_frozen hk 0
    have hk1 := blk_cell (blk_set hk 0 (.bool true)) 0
    have HA1 := Lib.hid hA1
    clear hk hA1
    go_wp2
    refine leaves_cons (f := 40) (args := #[.pointer (some ⟨W.heap.size, 0, none⟩), .pointer (some ⟨W.heap.size + 1, 0, none⟩)]) (by simp) (by simp [go_sem]) ?_
    refine (catch_idle _ _ _).mono ?_
    rintro e u' w'' ⟨rfl, rfl, rfl⟩
    have hk1 : (w1.setCell ⟨W.heap.size + 1, 0, none⟩ (.bool true)).cell? ⟨W.heap.size + 1, 0, none⟩ = some (.bool true) := hk1
    simp [Leaves, settle, results, Try.results32, go_sem, hk1]
    exact ⟨w1, HA1.out, rfl⟩
  · obtain ⟨hk, hr, ys, hR⟩ := HB.out _ hB1
    have hk0 := blk_cell hk 0
    have hkz := blk_frozen hk 0
    have hr0 := blk_cell hr 0
    refine leaves_cons (f := 40) (args := #[.pointer (some ⟨W.heap.size, 0, none⟩), .pointer (some ⟨W.heap.size + 1, 0, none⟩)]) (by simp) (by simp [go_sem]) ?_
    refine (catch_stop ⟨W.heap.size, 0, none⟩ ⟨W.heap.size + 1, 0, none⟩ p w1 hr0 ys hR (by rw [hk0]; rfl) hkz (by show W.heap.size + 1 ≠ p; omega)).mono ?_
    rintro e u' w'' ⟨rfl, rfl, rfl⟩
    have hk1 : (((w1.alloc (.cells #[] 70)).setCell ⟨p, 1, none⟩ (.bool true)).setCell ⟨W.heap.size + 1, 0, none⟩ (.bool false)).cell? ⟨W.heap.size + 1, 0, none⟩ = some (.bool false) :=
      blk_cell (blk_set (blk_far (blk_alloc hk _) (by show W.heap.size + 1 ≠ p; omega) _) 0 (.bool false)) 0
    simp [Leaves, settle, results, Try.results32, go_sem, hk1]
    exact ⟨w1, hB1, rfl⟩
end Go.Proofs.Ythbapljhhglamaa.Code
