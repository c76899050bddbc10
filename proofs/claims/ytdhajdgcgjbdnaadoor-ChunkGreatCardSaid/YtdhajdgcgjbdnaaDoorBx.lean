/- A box that holds a slice of the call's own; a block that stays as it is. -/
import Derived.Test.YtdhajdgcgjbdnaaDoorFoot
set_option linter.unusedVariables false
namespace Go.Proofs.YtdhajdgcgjbdnaaDoor.Foot
open Go.RowKit Go.Proofs.YtdhajdgcgjbdnaaDoorW.PrintWords

/-- A block that holds just this. -/
def Ob (h : Nat) (o : Obj) : HP := fun w F => (F = fun k => k = h) ∧ w.heap[h]? = some o
instance {h : Nat} {o : Obj} : Firm (Ob h o) where
  move := by
    rintro w w' F ⟨rfl, hb⟩ hm
    exact ⟨rfl, (hm h rfl).trans hb⟩
  lt := by
    rintro w F ⟨rfl, hb⟩ k rfl
    exact blk_lt hb
/-- A box, whose slice is the call's own. -/
def Bx {α : Type} (d : Kd α) (st e p : Nat) (l : List α) : HP := fun w F => F p ∧ (∀ k, F k → k < w.heap.size) ∧ ∃ v, w.heap[p]? = some (.cells #[v] st (0, 0)) ∧ d.R e w 0 (fun k => F k ∧ k ≠ p) v l
section
variable {α : Type} {d : Kd α} {st e p : Nat} {l l' : List α} {w wr w3 : World} {F : Nat → Prop} {v v' : Value}
instance : Firm (Bx d st e p l) where
  move := by
    rintro w w' F ⟨hp, hl, v, hb, hR⟩ hm
    exact ⟨hp, fun k hk => lt_of_same (hm k hk) (hl k hk), v, (hm p hp).trans hb, Kd.R_move hR (fun k hk => hm k hk.1)⟩
  lt := fun h => h.2.1
/-- The same, in the middle of a call. -/
def BxI (d : Kd α) (st e p : Nat) (l : List α) (w : World) (F : Nat → Prop) (wr : World) : Prop := Keeps F w wr ∧ F p ∧ ∃ v, wr.heap[p]? = some (.cells #[v] st (0, 0)) ∧ d.R e wr 0 (fun k => (F k ∨ w.heap.size ≤ k) ∧ k ≠ p) v l
theorem Bx.begin (h : Bx d st e p l w F) : BxI d st e p l w F w ∧ p < w.heap.size := by
  obtain ⟨hp, hl, v, hb, hR⟩ := h
  exact ⟨⟨Keeps.refl F w, hp, v, hb, Kd.R_mono hR (fun k hk => ⟨.inl hk.1, hk.2⟩)⟩, hl p hp⟩
def BxE (d : Kd α) (st e p : Nat) (l : List α) (w : World) (F : Nat → Prop) (w' : World) : Prop := ∃ F', Bx d st e p l w' F' ∧ (∀ k, F' k → F k ∨ w.heap.size ≤ k) ∧ Keeps F w w'
theorem BxI.done (h : BxI d st e p l w F wr) : BxE d st e p l w F wr := by
  obtain ⟨hk, hp, v, hb, hR⟩ := h
  refine ⟨fun k => (F k ∨ w.heap.size ≤ k) ∧ k < wr.heap.size, ⟨⟨.inl hp, blk_lt hb⟩, fun k hk => hk.2, v, hb, Kd.R_mono (Kd.R_bound hR) (fun k hk => ⟨⟨hk.1.1, hk.2.2.1⟩, hk.1.2⟩)⟩, fun k hk => hk.1, hk⟩
theorem BxE.again {w' : World} (h : BxE d st e p l w F w') (hp : F p) : BxI d st e p l w F w' := by
  obtain ⟨F', ⟨hp', hl, v, hb, hR⟩, hF, hk⟩ := h
  exact ⟨hk, hp, v, hb, Kd.R_mono hR (fun k hk => ⟨hF k hk.1, hk.2⟩)⟩
theorem BxE.blk {w' : World} {h : Nat} {o : Obj} (hE : BxE d st e p l w F w') (hb : w.heap[h]? = some o) (hF : ¬ F h) : w'.heap[h]? = some o := by
  obtain ⟨F', _, _, hk⟩ := hE
  exact hk.blk hb hF
theorem BxE.after {w1 w' : World} (hE : BxE d st e p l w1 F w') (hb : Below w.heap.size w w1) : BxE d st e p l w F w' := by
  obtain ⟨F', hx, hF, hk⟩ := hE
  exact ⟨F', hx, fun k h => (hF k h).imp id (Nat.le_trans hb.size), (Keeps.of_below hb).trans hk (fun k h => .inl h)⟩
theorem BxI.put (hk : Keeps F w wr) (hp : F p) (hb : wr.heap[p]? = some (.cells #[v] st (0, 0)))
    (hR : d.R e wr 0 (fun k => (F k ∨ w.heap.size ≤ k) ∧ k ≠ p) v l) (hg : wr.grownBy w3 v.ownBlock) (hR3 : d.R e w3 0 (fun k => (F k ∨ w.heap.size ≤ k) ∧ k ≠ p) v' l') :
    w3.cell? ⟨p, 0, none⟩ = some v ∧ w3.frozen? ⟨p, 0, none⟩ = false ∧ BxI d st e p l' w F (w3.setCell ⟨p, 0, none⟩ v') := by
  have hb3 : w3.heap[p]? = some (.cells #[v] st (0, 0)) := blk_grown hb hg (fun e => (hR.1 p e.symm).2 rfl)
  exact ⟨blk_cell hb3 0, blk_frozen hb3 0, (hk.grown hg (fun k e => (hR.1 k e).1)).setCell (.inl hp) _, hp, v', blk_put hb3 0 _ rfl, Kd.R_far hR3 (p := ⟨p, 0, none⟩) (fun k hk => hk.2) _⟩
end
theorem Own.ob {W w : World} {h : Nat} {o : Obj} {R : HP} (hO : Own W w (star (Ob h o) R)) : w.heap[h]? = some o := hO.look fun F hp hF => hp.2
/-- A call that leaves all as it was, but for new memory. -/
theorem Own.idle {W w : World} {P : HP} [Firm P] (hO : Own W w P) {Pg : Program} {f : Nat} {args : Array Value} {v : Value} (h : Calls Pg f args w fun e w' => e = .returned v ∧ Below w.heap.size w w') :
    Calls Pg f args w fun e w' => e = .returned v ∧ Own W w' P := h.mono fun e w' ⟨he, hb⟩ => ⟨he, hO.step hb⟩
theorem Own.set_ob {W w : World} {h : Nat} {o o' : Obj} {R : HP} [Firm R] (hO : Own W w (star (Ob h o) R)) (i : Nat) (u : Value) (hb : (w.setCell ⟨h, i, none⟩ u).heap[h]? = some o') : Own W (w.setCell ⟨h, i, none⟩ u) (star (Ob h o') R) := by
  obtain ⟨_, ⟨F1, F2, rfl, ⟨rfl, h1⟩, h2, hd⟩, hF, hB⟩ := hO
  exact ⟨_, ⟨_, F2, rfl, ⟨rfl, hb⟩, Firm.move h2 (fun k hk => Below.heap_setCell _ _ _ _ (fun e => hd k e hk)), hd⟩, hF, hB.setCell (hF h (.inl rfl)) _⟩
/-- A block that is made. -/
theorem Own.new_ob {W w : World} {R : HP} [Firm R] (hO : Own W w R) (o : Obj) : Own W (w.alloc o) (star (Ob w.heap.size o) R) :=
  hO.add (below_alloc (Below.refl _ _) _) (G := fun k => k = w.heap.size) ⟨rfl, blk_new w o⟩ (fun k hk => by omega)
theorem Own.new_bx {α : Type} {W w : World} {R : HP} [Firm R] (hO : Own W w R) (d : Kd α) (st e : Nat) : Own W (w.alloc (.cells #[.slice none 0 0] st)) (star (Bx d st e w.heap.size []) R) :=
  hO.add (below_alloc (Below.refl _ _) _) (G := fun k => k = w.heap.size) ⟨rfl, fun k hk => by subst hk; simp, _, blk_new w _, Kd.R_nil _ _ _ _ _⟩ (fun k hk => by omega)
end Go.Proofs.YtdhajdgcgjbdnaaDoor.Foot
