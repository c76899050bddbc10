/- Rows of the call's own beside other things: appended to, written to. -/
import Derived.Test.YtafpaomcmjccaaaFoot
set_option linter.unusedVariables false
namespace Go.Proofs.Ytafpaomcmjccaaa.Foot
open Go.RowKit Go.Proofs.YtafpaomcmjccaaaW.PrintWords

section
variable {α : Type} {d : Kd α} {e : Nat} {W w : World} {v : Value} {xs : List α} {R : HP}
/-- A row, opened for a law that appends to it, and the way back. -/
theorem Own.open_row [Firm R] (h : Own W w (star (Foot.row d e v xs) R)) : ∃ ok : Nat → Prop, d.R e w 0 ok v xs ∧ (∀ k, w.heap.size ≤ k → ok k) ∧ ∀ (v1 : Value) (ys : List α) (w1 : World), d.R e w1 0 ok v1 ys → w.grownBy w1 v.ownBlock → Own W w1 (star (Foot.row d e v1 ys) R) := by
  obtain ⟨_, ⟨F1, F2, rfl, ⟨hR, hl⟩, h2, hd⟩, hF, hB⟩ := h
  refine ⟨fun k => F1 k ∨ w.heap.size ≤ k, Kd.R_mono hR (fun k hk => .inl hk), fun k hk => .inr hk, fun v1 ys w1 hR1 hg => ?_⟩
  have hr : ∀ k, v.ownBlock = some k → F1 k := hR.1
  refine ⟨_, ⟨fun k => (F1 k ∨ w.heap.size ≤ k) ∧ k < w1.heap.size, F2, rfl, ⟨Kd.R_mono (Kd.R_bound hR1) (fun k hk => ⟨hk.1, hk.2.2.1⟩), fun k hk => hk.2⟩, Firm.move h2 (fun k hk => hg.block k (Firm.lt h2 k hk) (fun e => hd k (hr k e.symm) hk)), fun k a b => ?_⟩, ?_, ?_⟩
  · rcases a.1 with a | a
    · exact hd k a b
    · have := Firm.lt h2 k b
      omega
  · rintro k (⟨a | a, _⟩ | a)
    · exact hF k (.inl a)
    · exact Nat.le_trans hB.size a
    · exact hF k (.inr a)
  · exact hB.grown hg hB.size (fun k e => hF k (.inl (hr k e)))
/-- What a row that holds something looks like. -/
theorem Own.form (h : Own W w (star (Foot.row d e v xs) R)) (hp : 0 < xs.length) : ∃ g cap, v = .slice (some ⟨g, 0, none⟩) xs.length cap ∧ xs.length ≤ cap := by
  obtain ⟨_, ⟨F1, F2, rfl, ⟨hR, hl⟩, h2, hd⟩, hF, hB⟩ := h
  obtain ⟨g, cap, rfl, _⟩ := Kd.R_form hR hp
  obtain ⟨A, c, he, hlc, _⟩ := Kd.R_reads hR
  injection he with h1 h2 h3
  subst h3
  exact ⟨g, cap, rfl, hlc⟩
end
section
variable {k : IntKind} {e : Nat} {W w : World} {xs : List Int} {R : HP}
theorem Own.at_ {g n c : Nat} (h : Own W w (star (Foot.row (Kd.int k) e (.slice (some ⟨g, 0, none⟩) n c) xs) R)) (i : Nat) (hi : i < n) :
    w.cell? ⟨g, i, none⟩ = some (.int k (xs.getD i 0)) ∧ w.frozen? ⟨g, i, none⟩ = false := by
  obtain ⟨_, ⟨F1, F2, rfl, ⟨hR, hl⟩, h2, hd⟩, hF, hB⟩ := h
  obtain ⟨rfl, _⟩ := Kd.R_reads' hR
  have := own_at_of (d := (0 : Int)) (Kd.own_of_R hR) (i : Int) (by omega) (by omega)
  rw [Int.toNat_natCast] at this
  exact this
theorem Own.put [Firm R] {g n c : Nat} (h : Own W w (star (Foot.row (Kd.int k) e (.slice (some ⟨g, 0, none⟩) n c) xs) R)) (i : Nat) (x : Int) :
    Own W (w.setCell ⟨g, i, none⟩ (.int k x)) (star (Foot.row (Kd.int k) e (.slice (some ⟨g, 0, none⟩) n c) (xs.set i x)) R) := by
  obtain ⟨ok, hR, _, hback⟩ := h.open_row
  have := Kd.R_putg hR (i : Int) x
  rw [Int.toNat_natCast] at this
  exact hback _ _ _ this.1 this.2
end
end Go.Proofs.Ytafpaomcmjccaaa.Foot
