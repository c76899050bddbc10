/- The document's directory beside other things; a new one. -/
import Derived.Test.YtafpaomcmjccaaaDirR
import Derived.Test.YtafpaomcmjccaaaFoot2
set_option linter.unusedVariables false
set_option linter.unusedSimpArgs false
set_option linter.unusedSectionVars false
namespace Go.Proofs.Ytafpaomcmjccaaa.Dir
open Go.RowKit Go.Proofs.Ytafpaomcmjccaaa.G Go.Proofs.YtafpaomcmjccaaaW.PrintWords Go.Proofs.YtafpaomcmjccaaaW.PrintMore Go.Proofs.Ytafpaomcmjccaaa.Foot
attribute [local go_sem] max2_int min2_int max_two min_two

/-- A row that may be grown: its block may reach behind it. -/
def RowU (w : World) (v : Value) (xs : List S55) : Prop :=
  (v = .slice none 0 0 ∧ xs = []) ∨ ∃ g cap cur, v = .slice (some ⟨g, 0, none⟩) xs.length cap ∧ xs.length ≤ cap ∧ cap ≤ 9223372036854775807 ∧ w.heap[g]? = some (.cells cur 55 (0, 0)) ∧ cap * 4 ≤ cur.size ∧ cur.toList.take (xs.length * 4) = dE.flat xs
theorem RowU.move {w w' : World} {v : Value} {xs : List S55} (h : RowU w v xs) (hm : ∀ k, v.ownBlock = some k → w'.heap[k]? = w.heap[k]?) : RowU w' v xs := by
  rcases h with h | ⟨g, cap, cur, rfl, h1, h2, h3, h4, h5⟩
  · exact .inl h
  · exact .inr ⟨g, cap, cur, rfl, h1, h2, (hm g rfl).trans h3, h4, h5⟩
theorem RowU.lt {w : World} {v : Value} {xs : List S55} (h : RowU w v xs) (k : Nat) (hk : v.ownBlock = some k) : k < w.heap.size := by
  rcases h with ⟨rfl, _⟩ | ⟨g, cap, cur, rfl, h1, h2, h3, h4, h5⟩
  · cases hk
  · cases hk
    exact blk_lt h3
theorem RowU.of_R {w : World} {base : Nat} {v : Value} {xs : List S55} (h : dE.R 55 w base v xs) : RowU w v xs := by
  obtain ⟨h0, h1⟩ := h
  rcases h1 with ⟨rfl, h1⟩ | ⟨g, cap, cur, rfl, hg, hb, hn, hc, hs, ht⟩
  · exact .inl ⟨rfl, List.eq_nil_of_length_eq_zero h1⟩
  · exact .inr ⟨g, cap, cur, rfl, hn, by simpa [maxLen] using hc, hb, Nat.le_of_eq hs.symm, ht⟩
theorem RowU.reads {w : World} {v : Value} {xs : List S55} (h : RowU w v xs) : ∃ A c, v = .slice A xs.length c ∧ xs.length ≤ c ∧ c ≤ 9223372036854775807 ∧ dE.C w A xs := by
  rcases h with ⟨rfl, rfl⟩ | ⟨g, cap, cur, rfl, h1, h2, h3, h4, h5⟩
  · exact ⟨none, 0, rfl, Nat.le_refl _, by omega, Fl.C_nil⟩
  · refine ⟨_, cap, rfl, h1, h2, fun _ => ⟨_, rfl, fun j u hu => ?_⟩⟩
    rw [Addr.add_lit, blk_cell h3, Nat.zero_add, ← Array.getElem?_toList]
    rw [← h5, List.getElem?_take] at hu
    split at hu
    · exact hu
    · cases hu
/-- What a document's directory is, with its blocks. -/
structure RefW (w : World) (p q : Nat) (vs : List Value) (D : Di) : Prop where
  at_ : RefAt w p q vs D
  pq : p ≠ q
  rows : ∀ (i : Nat) v b, vs[i]? = some v → D.L[i]? = some b → RowU w v b
  far : ∀ v ∈ vs, v.ownBlock ≠ some p ∧ v.ownBlock ≠ some q
  alone : ∀ (i j : Nat) v v' g, i ≠ j → vs[i]? = some v → vs[j]? = some v' → v.ownBlock = some g → v'.ownBlock ≠ some g
def blks (p q : Nat) (vs : List Value) : Nat → Prop := fun j => j = p ∨ j = q ∨ ∃ v ∈ vs, v.ownBlock = some j
def RefH (p : Nat) (D : Di) : HP := fun w F => ∃ q vs, F = blks p q vs ∧ RefW w p q vs D
theorem RefW.move {w w' : World} {p q : Nat} {vs : List Value} {D : Di} (h : RefW w p q vs D) (hm : ∀ k, blks p q vs k → w'.heap[k]? = w.heap[k]?) : RefW w' p q vs D :=
  { h with
    at_ := { h.at_ with box := (hm p (.inl rfl)).trans h.at_.box, row := (hm q (.inr (.inl rfl))).trans h.at_.row }
    rows := fun i v b hv hb => (h.rows i v b hv hb).move fun k hk => hm k (.inr (.inr ⟨v, List.mem_of_getElem? hv, hk⟩)) }
instance {p : Nat} {D : Di} : Firm (RefH p D) where
  move := by
    rintro w w' F ⟨q, vs, rfl, h⟩ hm
    exact ⟨q, vs, rfl, h.move hm⟩
  lt := by
    rintro w F ⟨q, vs, rfl, h⟩ k hk
    rcases hk with rfl | rfl | ⟨v, hv, hk⟩
    · exact blk_lt h.at_.box
    · exact blk_lt h.at_.row
    · obtain ⟨i, hi⟩ := List.getElem?_of_mem hv
      have hl := (List.getElem?_eq_some_iff.1 hi).1
      rw [h.at_.len] at hl
      exact (h.rows i v _ hi (List.getElem?_eq_getElem hl)).lt k hk
/-- Empty rows. -/
def rZ (B : Nat) : List Value := List.replicate B (.slice none 0 0)
theorem make_r (m : Nat) (hm : m ≤ 1000000) (W : World) : (Instr.makeSlice 70 (.int .i64 (m : Int)) (.int .i64 (m : Int))).run Try.prog W = .ok (.slice (some ⟨W.heap.size, 0, none⟩) m m) (W.alloc (.cells (rZ m).toArray 45)) := by
  have hz : (Try.prog.info? 45).map (fun i => (i.zero, i.size, i.bytes)) = some (some (.slice none 0 0), 1, 24) := by kernel_rfl
  obtain ⟨i0, hi0, hh⟩ := Option.map_eq_some_iff.1 hz
  simp only [Prod.mk.injEq] at hh
  obtain ⟨h1, h2, h3⟩ := hh
  have := run_make (P := Try.prog) W 70 45 i0 _ Try.underlying70 hi0 h1 .i64 .i64 (m : Int) (m : Int) (by omega) (by omega) (by rw [h3]; omega) (by omega)
  rw [this, h2, Int.toNat_natCast, Nat.mul_one]
  have e : (madeCells #[Value.slice none 0 0] m) = (rZ m).toArray := by
    apply Array.ext'
    rw [toList_madeCells_one, List.toList_toArray]
    rfl
  show Result.ok _ (W.alloc (.cells (madeCells #[Value.slice none 0 0] m) _)) = _
  rw [e]
theorem rnew (b s : Int) (B S : Nat) (w : World) (h : (newD b s).s = S ∧ (newD b s).L = List.replicate B []) :
    RefW ((w.alloc (.cells (rZ B).toArray 45)).alloc (.cells #[.slice (some ⟨w.heap.size, 0, none⟩) B B, .int .i64 S] 72)) (w.heap.size + 1) w.heap.size (rZ B) (newD b s) where
  at_ := {
    box := by
      have := blk_new (w.alloc (.cells (rZ B).toArray 45)) (.cells #[.slice (some ⟨w.heap.size, 0, none⟩) B B, .int .i64 S] 72)
      rw [World.size_alloc] at this
      rw [this, h.1]
      unfold rZ
      rw [List.length_replicate]
    row := blk_alloc (blk_new w _) _
    len := by rw [h.2]; unfold rZ; rw [List.length_replicate, List.length_replicate]
    ok := newD_ok b s }
  pq := by omega
  rows := fun i v b hv hb => by
    have h1 := List.eq_of_mem_replicate (List.mem_of_getElem? hv)
    rw [h.2] at hb
    have h2 := List.eq_of_mem_replicate (List.mem_of_getElem? hb)
    exact .inl ⟨h1, h2⟩
  far := fun v hv => by
    have h1 := List.eq_of_mem_replicate hv
    subst h1
    exact ⟨(by intro e; cases e), (by intro e; cases e)⟩
  alone := fun i j v v' g _ hv _ hg => by
    have h1 := List.eq_of_mem_replicate (List.mem_of_getElem? hv)
    subst h1
    cases hg
set_option maxHeartbeats 2000000 in
theorem rNew_calls (b s : Int) (w : World) :
    Calls Try.prog 15 #[.int .i64 b, .int .i64 s] w fun e w' => ∃ p, e = .returned (.pointer (some ⟨p, 0, none⟩)) ∧ ∃ F, RefH p (newD b s) w' F ∧ (∀ k, F k → w.heap.size ≤ k) ∧ Below w.heap.size w w' := by
  have hB := clamp_rng b 4096 (by decide)
  have hS := clamp_rng s 16 (by decide)
  have eB : (if (4096 : Int) < (if b < 1 then 1 else b) then (4096 : Int) else (if b < 1 then 1 else b)) = (clamp b 4096 : Int) := clamp_eq b 4096 (by decide)
  have eS : (if (16 : Int) < (if s < 1 then 1 else s) then (16 : Int) else (if s < 1 then 1 else s)) = (clamp s 16 : Int) := clamp_eq s 16 (by decide)
  generalize hBB : clamp b 4096 = B at *
  generalize hSS : clamp s 16 = S at *
  obtain ⟨hB1, hB2⟩ := hB
  obtain ⟨hS1, hS2⟩ := hS
  have m1 := make_r B (by omega)
  have HD := Lib.hid (rnew b s B S w ⟨hSS, by show List.replicate (clamp b 4096) [] = _; rw [hBB]⟩)
  clear hBB hSS
  go_enter Try.func15, Try.ntmps15
  go_wp2_with fail
  all_goals
    go_ret
    refine ⟨_, rfl, _, ⟨_, _, rfl, HD.out⟩, fun k hk => ?_, below_alloc (below_alloc (Below.refl _ _) _) _⟩
    rcases hk with rfl | rfl | ⟨v, hv, hk⟩
    · omega
    · omega
    · have h1 := List.eq_of_mem_replicate hv
      subst h1
      cases hk
theorem refH_ok {W w : World} {p : Nat} {D : Di} {R : HP} (h : Foot.Own W w (star (RefH p D) R)) : D.Ok := h.look fun F hF _ => by obtain ⟨_, _, _, hd⟩ := hF; exact hd.at_.ok
section
variable {W w : World} {R : HP} [Firm R] {p : Nat} {D : Di} {k : Key}
theorem rNew_own (h : Foot.Own W w R) (b s : Int) : Calls Try.prog 15 #[.int .i64 b, .int .i64 s] w fun e w' => ∃ p, e = .returned (.pointer (some ⟨p, 0, none⟩)) ∧ Foot.Own W w' (star (RefH p (newD b s)) R) :=
  (rNew_calls b s w).mono fun e w' ⟨p, he, F, hD, hF, hB⟩ => ⟨p, he, h.add hB hD hF⟩
theorem rBucket_own (h : Foot.Own W w (star (RefH p D) R)) : Calls Try.prog 16 #[.pointer (some ⟨p, 0, none⟩), .agg k.cells] w fun e w' => e = .returned (.int .i64 (D.at_ k)) ∧ Foot.Own W w' (star (RefH p D) R) := by
  obtain ⟨q, vs, hd⟩ := h.look (X := ∃ q vs, RefAt w p q vs D) fun F hF _ => by obtain ⟨q, vs, _, hd⟩ := hF; exact ⟨q, vs, hd.at_⟩
  rw [← hd.ok.at_eq k]
  have hc := blk_cell hd.box 0
  rw [hd.len] at hc
  exact (rBucket_calls k w p _ D.L.length _ hc hd.ok.b1 hd.ok.b2).mono fun e w' ⟨he, hb⟩ => ⟨he, h.step hb⟩
theorem rTag_own {P : HP} [Firm P] (h : Foot.Own W w P) : Calls Try.prog 12 #[.agg k.cells] w fun e w' => e = .returned (.int .u16 k.tag) ∧ Foot.Own W w' P :=
  (rTag_calls k w).mono fun e w' ⟨he, hb⟩ => ⟨he, h.step hb⟩
end
end Go.Proofs.Ytafpaomcmjccaaa.Dir
