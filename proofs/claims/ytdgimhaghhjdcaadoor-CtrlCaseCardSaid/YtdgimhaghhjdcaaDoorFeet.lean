/- Footprints: what a call may write, what it leaves; things that lie apart from one another. A box that holds a slice of the call's own; a block that stays as it is. Rows of the call's own beside other things: appended to, written to. A block of bytes of the call's own, beside other things: read, written. -/
import Derived.Test.YtdgimhaghhjdcaaDoorWWords
import Derived.Test.YtdgimhaghhjdcaaDoorDrawn
set_option linter.unusedVariables false
namespace Go.Proofs.YtdgimhaghhjdcaaDoor.Foot
open Go.RowKit Go.Proofs.YtdgimhaghhjdcaaDoorW.PrintWords

/-- Outside F, what was there is as it was. -/
structure Keeps (F : Nat → Prop) (w w' : World) : Prop where
  os : w'.os = w.os
  tape : w'.tape = w.tape
  output : w'.output = w.output
  size : w.heap.size ≤ w'.heap.size
  block : ∀ k, k < w.heap.size → ¬ F k → w'.heap[k]? = w.heap[k]?
theorem Keeps.refl (F : Nat → Prop) (w : World) : Keeps F w w := ⟨rfl, rfl, rfl, Nat.le_refl _, fun _ _ _ => rfl⟩
theorem Keeps.trans {F G : Nat → Prop} {a b c : World} (h : Keeps F a b) (k : Keeps G b c) (hG : ∀ i, G i → F i ∨ a.heap.size ≤ i) : Keeps F a c :=
  ⟨k.os.trans h.os, k.tape.trans h.tape, k.output.trans h.output, Nat.le_trans h.size k.size, fun i hi hF =>
    (k.block i (Nat.lt_of_lt_of_le hi h.size) (fun hg => (hG i hg).elim hF (fun h => by omega))).trans (h.block i hi hF)⟩
theorem Keeps.of_below {F : Nat → Prop} {w w' : World} (h : Below w.heap.size w w') : Keeps F w w' := ⟨h.os, h.tape, h.output, h.size, fun k hk _ => h.block k hk⟩
theorem Keeps.then_below {F : Nat → Prop} {a b c : World} (h : Keeps F a b) (k : Below b.heap.size b c) : Keeps F a c := h.trans (G := fun _ => False) (.of_below k) (fun _ h => h.elim)
theorem Keeps.alloc {F : Nat → Prop} {a b : World} (h : Keeps F a b) (o : Obj) : Keeps F a (b.alloc o) := h.then_below (below_alloc (Below.refl _ _) o)
theorem Keeps.drew {F : Nat → Prop} {a b : World} (h : Keeps F a b) : Keeps F a b.drew := h.then_below (below_drew (Below.refl _ _))
theorem Keeps.drewN {F : Nat → Prop} {a b : World} (h : Keeps F a b) (n : Nat) : Keeps F a (b.drewN n) := h.then_below (pw_below_drewN (Below.refl _ _) n)
theorem Keeps.drawn {F : Nat → Prop} {a b c : World} (h : Keeps F a b) (k : Drawn0 b c) : Keeps F a c := by obtain ⟨n, rfl⟩ := k.out; exact h.drewN n
theorem Keeps.grown {F : Nat → Prop} {a b c : World} {row : Option Nat} (h : Keeps F a b) (k : b.grownBy c row) (hr : ∀ i, row = some i → F i ∨ a.heap.size ≤ i) : Keeps F a c :=
  h.trans (G := fun i => some i = row) ⟨k.os, k.tape, k.output, k.size, fun i hi hn => k.block i hi hn⟩ (fun i hi => hr i hi.symm)
theorem Keeps.setCell {F : Nat → Prop} {a b : World} (h : Keeps F a b) {p : Addr} (hp : F p.block ∨ a.heap.size ≤ p.block) (u : Value) : Keeps F a (b.setCell p u) :=
  h.trans (G := fun i => i = p.block) ⟨rfl, rfl, rfl, by simp [World.setCell], fun k hk hn => Below.heap_setCell _ _ _ _ hn⟩ (fun i hi => hi ▸ hp)
theorem Keeps.mono {F G : Nat → Prop} {a b : World} (h : Keeps F a b) (hG : ∀ i, F i → G i ∨ a.heap.size ≤ i) : Keeps G a b := (Keeps.refl G a).trans h hG
theorem Keeps.to_below {F : Nat → Prop} {B : Nat} {w w' : World} (h : Keeps F w w') (hB : B ≤ w.heap.size) (hF : ∀ k, F k → B ≤ k) : Below B w w' :=
  ⟨h.os, h.tape, h.output, h.size, fun k hk => h.block k (by omega) (fun hf => by have := hF k hf; omega)⟩
theorem Keeps.blk {F : Nat → Prop} {w w' : World} (h : Keeps F w w') {g : Nat} {o : Obj} (hb : w.heap[g]? = some o) (hF : ¬ F g) : w'.heap[g]? = some o := (h.block g (blk_lt hb) hF).trans hb
theorem Keeps.R {α : Type} {d : Kd α} {e base : Nat} {ok F : Nat → Prop} {v : Value} {xs : List α} {w w' : World} (h : Keeps F w w') (hR : d.R e w base ok v xs) (hF : ∀ k, ok k → ¬ F k) : d.R e w' base ok v xs :=
  Kd.R_step hR fun k hk hl => h.block k hl (hF k hk)

/-- A slice that is read, and that whatever is written in F leaves as it is. -/
def CS {α : Type} (d : Kd α) (F : Nat → Prop) (w : World) (A : Option Addr) (n : Nat) (xs : List α) : Prop := ∀ w', Keeps F w w' → d.C w' A n xs
theorem CS.now {α : Type} {d : Kd α} {F : Nat → Prop} {w : World} {A : Option Addr} {n : Nat} {xs : List α} (h : CS d F w A n xs) : d.C w A n xs := h w (Keeps.refl F w)
theorem CS.step {α : Type} {d : Kd α} {F G : Nat → Prop} {w w1 : World} {A : Option Addr} {n : Nat} {xs : List α} (h : CS d F w A n xs) (k : Keeps F w w1) (hG : ∀ i, G i → F i ∨ w.heap.size ≤ i) : CS d G w1 A n xs :=
  fun w' hw => h w' (k.trans hw hG)
theorem CS.empty {α : Type} (d : Kd α) (F : Nat → Prop) (w : World) : CS d F w Option.none ([] : List α).length [] := fun _ _ => Kd.C_nil _ _
theorem CS.of_arg {α : Type} {d : Kd α} {F : Nat → Prop} {W w : World} {A : Option Addr} {n : Nat} {xs : List α} (h : d.C W A n xs) (hB : Below W.heap.size W w) (hF : ∀ k, F k → W.heap.size ≤ k) : CS d F w A n xs :=
  fun w' hw => Kd.C_below h (hB.trans (hw.to_below hB.size hF))
theorem CS.of_R {α : Type} {d : Kd α} {e base : Nat} {F ok : Nat → Prop} {w : World} {A : Option Addr} {n c : Nat} {xs : List α} (h : d.R e w base ok (.slice A n c) xs) (hF : ∀ k, ok k → ¬ F k) : CS d F w A n xs :=
  fun w' hw => by obtain ⟨rfl, _, hc⟩ := Kd.R_reads' (hw.R h hF); exact hc

theorem C_of_BRow {W : World} {e g n : Nat} {xs : List Int} (h : Leaf.BRow W e g n xs) (hn : n ≤ 9223372036854775807) : Kd.C (Kd.int .u8) W (some ⟨g, 0, none⟩) n xs := by
  refine ⟨h.1, hn, fun _ => ⟨_, rfl, fun j p hj => ⟨[.int .u8 p], rfl, rfl, fun i u hu => ?_⟩⟩⟩
  have hjl := (List.getElem?_eq_some_iff.1 hj).1
  have hi : i = 0 := by
    have := (List.getElem?_eq_some_iff.1 hu).1
    simp only [List.length_cons, List.length_nil] at this
    omega
  subst hi
  injection hu with hu
  subst hu
  have hc := h.cell j (by have := h.1; omega)
  rw [List.getD_eq_getElem?_getD, hj] at hc
  show W.cell? ((⟨g, 0, none⟩ : Addr).add (j * 1 + 0)) = _
  rw [add_plain, Nat.mul_one, Nat.add_zero]
  exact hc
/-- The bytes of a text, made by a conversion. -/
theorem CS.made (W : World) (e : Nat) (s : ByteArray) (hs : s.size ≤ 9223372036854775807) : CS (Kd.int .u8) (fun k => k < W.heap.size) (Lib.bytesWorld W e s) (some ⟨W.heap.size, 0, none⟩) s.size (bytesOf s) :=
  fun w' hk => C_of_BRow ((Leaf.BRow.made W e s).of_heap (hk.block _ (Leaf.BRow.made W e s).lt (by omega))) hs
/-- A thing in memory, with the blocks that are its own. -/
def HP := World → (Nat → Prop) → Prop
class Firm (P : HP) : Prop where
  move : ∀ {w w' : World} {F : Nat → Prop}, P w F → (∀ k, F k → w'.heap[k]? = w.heap[k]?) → P w' F
  lt : ∀ {w : World} {F : Nat → Prop}, P w F → ∀ k, F k → k < w.heap.size
def emp : HP := fun _ F => F = fun _ => False
def star (P Q : HP) : HP := fun w F => ∃ F1 F2, F = (fun k => F1 k ∨ F2 k) ∧ P w F1 ∧ Q w F2 ∧ ∀ k, F1 k → F2 k → False
/-- A row of the call's own. -/
def row {α : Type} (d : Kd α) (e : Nat) (v : Value) (xs : List α) : HP := fun w F => d.R e w 0 F v xs ∧ ∀ k, F k → k < w.heap.size
instance : Firm emp := ⟨fun h _ => h, fun h k hk => by rw [h] at hk; exact hk.elim⟩
instance {P Q : HP} [Firm P] [Firm Q] : Firm (star P Q) where
  move := by
    rintro w w' F ⟨F1, F2, rfl, h1, h2, hd⟩ hm
    exact ⟨F1, F2, rfl, Firm.move h1 (fun k hk => hm k (.inl hk)), Firm.move h2 (fun k hk => hm k (.inr hk)), hd⟩
  lt := by
    rintro w F ⟨F1, F2, rfl, h1, h2, hd⟩ k (hk | hk)
    · exact Firm.lt h1 k hk
    · exact Firm.lt h2 k hk
theorem lt_of_same {w w' : World} {k : Nat} (h : w'.heap[k]? = w.heap[k]?) (hk : k < w.heap.size) : k < w'.heap.size := by
  rcases Nat.lt_or_ge k w'.heap.size with h1 | h1
  · exact h1
  · rw [Array.getElem?_eq_none h1, Array.getElem?_eq_getElem hk] at h
    cases h
instance {α : Type} {d : Kd α} {e : Nat} {v : Value} {xs : List α} : Firm (row d e v xs) where
  move := by
    rintro w w' F ⟨h, hl⟩ hm
    exact ⟨Kd.R_move h hm, fun k hk => lt_of_same (hm k hk) (hl k hk)⟩
  lt := fun h => h.2
theorem star_comm {P Q : HP} {w : World} {F : Nat → Prop} (h : star P Q w F) : star Q P w F := by
  obtain ⟨F1, F2, rfl, h1, h2, hd⟩ := h
  exact ⟨F2, F1, by funext k; exact propext Or.comm, h2, h1, fun k a b => hd k b a⟩
theorem star_assoc {P Q R : HP} {w : World} {F : Nat → Prop} (h : star (star P Q) R w F) : star P (star Q R) w F := by
  obtain ⟨_, F3, rfl, ⟨F1, F2, rfl, h1, h2, hd⟩, h3, he⟩ := h
  exact ⟨F1, _, by funext k; exact propext or_assoc, h1, ⟨F2, F3, rfl, h2, h3, fun k a b => he k (.inr a) b⟩, fun k a b => b.elim (hd k a) (fun b => he k (.inl a) b)⟩
theorem star_assoc' {P Q R : HP} {w : World} {F : Nat → Prop} (h : star P (star Q R) w F) : star (star P Q) R w F := by
  obtain ⟨F1, _, rfl, h1, ⟨F2, F3, rfl, h2, h3, hd⟩, he⟩ := h
  exact ⟨_, F3, by funext k; exact propext or_assoc.symm, ⟨F1, F2, rfl, h1, h2, fun k a b => he k a (.inl b)⟩, h3, fun k a b => a.elim (fun a => he k a (.inr b)) (fun a => hd k a b)⟩
theorem star_mono {P Q P' Q' : HP} {w : World} {F : Nat → Prop} (hP : ∀ F, P w F → P' w F) (hQ : ∀ F, Q w F → Q' w F) (h : star P Q w F) : star P' Q' w F := by
  obtain ⟨F1, F2, rfl, h1, h2, hd⟩ := h
  exact ⟨F1, F2, rfl, hP _ h1, hQ _ h2, hd⟩

/-- What a call that began at W holds at w: P, in new memory; of the old memory nothing has turned. -/
def Own (W w : World) (P : HP) : Prop := ∃ F, P w F ∧ (∀ k, F k → W.heap.size ≤ k) ∧ Below W.heap.size W w
theorem Own.below {W w : World} {P : HP} (h : Own W w P) : Below W.heap.size W w := h.choose_spec.2.2
theorem Own.start (W : World) : Own W W emp := ⟨_, rfl, fun k hk => hk.elim, Below.refl _ _⟩
theorem Own.of_below {W w : World} (h : Below W.heap.size W w) : Own W w emp := ⟨_, rfl, fun k hk => hk.elim, h⟩
theorem Own.map {W w : World} {P Q : HP} (h : Own W w P) (hPQ : ∀ F, P w F → Q w F) : Own W w Q := by
  obtain ⟨F, hp, hF, hB⟩ := h
  exact ⟨F, hPQ F hp, hF, hB⟩
theorem Own.comm {W w : World} {P Q : HP} (h : Own W w (star P Q)) : Own W w (star Q P) := h.map fun _ => star_comm
theorem Own.assoc {W w : World} {P Q R : HP} (h : Own W w (star (star P Q) R)) : Own W w (star P (star Q R)) := h.map fun _ => star_assoc
theorem Own.assoc' {W w : World} {P Q R : HP} (h : Own W w (star P (star Q R))) : Own W w (star (star P Q) R) := h.map fun _ => star_assoc'
theorem Own.swap {W w : World} {P Q R : HP} (h : Own W w (star P (star Q R))) : Own W w (star Q (star P R)) :=
  (h.assoc'.map fun _ => star_mono (fun _ => star_comm) (fun _ h => h)).assoc
/-- What stands behind may be forgotten. -/
theorem Own.drop {W w : World} {P Q : HP} (h : Own W w (star P Q)) : Own W w P := by
  obtain ⟨F, ⟨F1, F2, rfl, h1, h2, hd⟩, hF, hB⟩ := h
  exact ⟨F1, h1, fun k hk => hF k (.inl hk), hB⟩
theorem Own.rest {W w : World} {P Q : HP} (h : Own W w (star P Q)) : Own W w Q := h.comm.drop
/-- Nothing that was there is turned by what happened. -/
theorem Own.step {W w w' : World} {P : HP} [Firm P] (h : Own W w P) (hb : Below w.heap.size w w') : Own W w' P := by
  obtain ⟨F, hp, hF, hB⟩ := h
  exact ⟨F, Firm.move hp (fun k hk => hb.block k (Firm.lt hp k hk)), hF, hB.trans (hb.mono hB.size)⟩
theorem Own.drawn {W w w' : World} {P : HP} [Firm P] (h : Own W w P) (hd : Drawn0 w w') : Own W w' P := h.step hd.below
theorem Own.alloc {W w : World} {P : HP} [Firm P] (h : Own W w P) (o : Obj) : Own W (w.alloc o) P := h.step (below_alloc (Below.refl _ _) o)
theorem Own.drew {W w : World} {P : HP} [Firm P] (h : Own W w P) : Own W w.drew P := h.step (below_drew (Below.refl _ _))
theorem Own.drewN {W w : World} {P : HP} [Firm P] (h : Own W w P) (n : Nat) : Own W (w.drewN n) P := h.step (pw_below_drewN (Below.refl _ _) n)
/-- A new thing, made beside what there is. -/
theorem Own.add {W w w' : World} {P Q : HP} [Firm P] (h : Own W w P) (hb : Below w.heap.size w w') {G : Nat → Prop} (hq : Q w' G) (hG : ∀ k, G k → w.heap.size ≤ k) : Own W w' (star Q P) := by
  obtain ⟨F, hp, hF, hB⟩ := h
  refine ⟨_, ⟨G, F, rfl, hq, Firm.move hp (fun k hk => hb.block k (Firm.lt hp k hk)), fun k a b => ?_⟩, ?_, hB.trans (hb.mono hB.size)⟩
  · have := hG k a
    have := Firm.lt hp k b
    omega
  · rintro k (hk | hk)
    · exact Nat.le_trans hB.size (hG k hk)
    · exact hF k hk
/-- A row that a call has made. -/
theorem Own.row {α : Type} {d : Kd α} {e : Nat} {W w w' : World} {P : HP} {v : Value} {xs : List α} {ok : Nat → Prop} [Firm P] (h : Own W w P) (hR : d.R e w' w.heap.size ok v xs) (hb : Below w.heap.size w w') : Own W w' (star (Foot.row d e v xs) P) :=
  h.add hb (G := fun k => w.heap.size ≤ k ∧ k < w'.heap.size) ⟨Kd.R_lower (Kd.R_mono (Kd.R_bound hR) (fun k hk => ⟨hk.2.1, hk.2.2.1⟩)) (Nat.zero_le _), fun k hk => hk.2⟩ (fun k hk => hk.1)
theorem Own.nil {α : Type} (d : Kd α) (e : Nat) {W w : World} {P : HP} [Firm P] (h : Own W w P) : Own W w (star (Foot.row d e (.slice none 0 0) []) P) :=
  h.row (ok := fun _ => True) (Kd.R_nil _ _ _ _ _) (Below.refl _ _)
/-- What a call does to P, it does beside R. -/
theorem Own.frame {W w : World} {P R : HP} [Firm R] (hO : Own W w (star P R)) {Pg : Program} {f : Nat} {args : Array Value} {v : Value} {Post : HP}
    (h : ∀ F, P w F → (∀ k, F k → W.heap.size ≤ k) → Calls Pg f args w fun e w' => e = .returned v ∧ ∃ F', Post w' F' ∧ (∀ k, F' k → F k ∨ w.heap.size ≤ k) ∧ Keeps F w w') :
    Calls Pg f args w fun e w' => e = .returned v ∧ Own W w' (star Post R) := by
  obtain ⟨_, ⟨F1, F2, rfl, h1, h2, hd⟩, hF, hB⟩ := hO
  refine (h F1 h1 (fun k hk => hF k (.inl hk))).mono ?_
  rintro e w' ⟨rfl, F', hp, hF', hk⟩
  refine ⟨rfl, _, ⟨F', F2, rfl, hp, Firm.move h2 (fun k hk2 => hk.block k (Firm.lt h2 k hk2) (fun hk1 => hd k hk1 hk2)), fun k a b => ?_⟩, ?_, hB.trans (hk.to_below hB.size (fun k hk => hF k (.inl hk)))⟩
  · rcases hF' k a with h | h
    · exact hd k h b
    · have := Firm.lt h2 k b
      omega
  · rintro k (hk' | hk')
    · rcases hF' k hk' with h | h
      · exact hF k (.inl h)
      · exact Nat.le_trans hB.size h
    · exact hF k (.inr hk')
/-- The same, of a call whose result is not known ahead. -/
theorem Own.frameV {W w : World} {P R : HP} [Firm R] (hO : Own W w (star P R)) {Pg : Program} {f : Nat} {args : Array Value} {Post : Value → HP}
    (h : ∀ F, P w F → (∀ k, F k → W.heap.size ≤ k) → Calls Pg f args w fun e w' => ∃ v, e = .returned v ∧ ∃ F', Post v w' F' ∧ (∀ k, F' k → F k ∨ w.heap.size ≤ k) ∧ Keeps F w w') :
    Calls Pg f args w fun e w' => ∃ v, e = .returned v ∧ Own W w' (star (Post v) R) := by
  obtain ⟨_, ⟨F1, F2, rfl, h1, h2, hd⟩, hF, hB⟩ := hO
  refine (h F1 h1 (fun k hk => hF k (.inl hk))).mono ?_
  rintro e w' ⟨v, rfl, F', hp, hF', hk⟩
  refine ⟨v, rfl, _, ⟨F', F2, rfl, hp, Firm.move h2 (fun k hk2 => hk.block k (Firm.lt h2 k hk2) (fun hk1 => hd k hk1 hk2)), fun k a b => ?_⟩, ?_, hB.trans (hk.to_below hB.size (fun k hk => hF k (.inl hk)))⟩
  · rcases hF' k a with h | h
    · exact hd k h b
    · have := Firm.lt h2 k b
      omega
  · rintro k (hk' | hk')
    · rcases hF' k hk' with h | h
      · exact hF k (.inl h)
      · exact Nat.le_trans hB.size h
    · exact hF k (.inr hk')
/-- A row that stands beside P is read. -/
theorem Own.reads {α : Type} {d : Kd α} {e : Nat} {W w : World} {P : HP} {v : Value} {xs : List α} (h : Own W w (star (Foot.row d e v xs) P)) : ∃ A c, v = .slice A xs.length c ∧ xs.length ≤ c ∧ d.C w A xs.length xs := by
  obtain ⟨F, ⟨F1, F2, rfl, ⟨h1, _⟩, _⟩, _⟩ := h
  exact Kd.R_reads h1
/-- A row that stands beside P: whatever is written in P leaves it. -/
theorem Own.framed {α : Type} {d : Kd α} {et : Nat} {W w : World} {P R : HP} {A : Option Addr} {n c : Nat} {xs : List α} [Firm R] [Firm P] (hO : Own W w (star P (star (Foot.row d et (.slice A n c) xs) R))) {Pg : Program} {f : Nat} {args : Array Value} {v : Value} {Post : HP}
    (h : ∀ F, P w F → (∀ k, F k → W.heap.size ≤ k) → CS d F w A n xs → Calls Pg f args w fun e w' => e = .returned v ∧ ∃ F', Post w' F' ∧ (∀ k, F' k → F k ∨ w.heap.size ≤ k) ∧ Keeps F w w') :
    Calls Pg f args w fun e w' => e = .returned v ∧ Own W w' (star Post (star (Foot.row d et (.slice A n c) xs) R)) := by
  obtain ⟨_, ⟨F1, _, rfl, h1, ⟨F2, F3, rfl, h2, h3, hd⟩, he⟩, hF, hB⟩ := hO
  have hcs : CS d F1 w A n xs := CS.of_R h2.1 (fun k a b => he k b (.inl a))
  refine (h F1 h1 (fun k hk => hF k (.inl hk)) hcs).mono ?_
  rintro e w' ⟨rfl, F', hp, hF', hk⟩
  have hm : ∀ k, F2 k ∨ F3 k → w'.heap[k]? = w.heap[k]? := fun k a => hk.block k (a.elim (fun a => h2.2 k a) (fun a => Firm.lt h3 k a)) (fun b => he k b a)
  refine ⟨rfl, _, ⟨F', _, rfl, hp, ⟨F2, F3, rfl, Firm.move (P := Foot.row d _ (.slice A n c) xs) h2 (fun k a => hm k (.inl a)), Firm.move h3 (fun k a => hm k (.inr a)), hd⟩, fun k a b => ?_⟩, ?_, hB.trans (hk.to_below hB.size (fun k hk => hF k (.inl hk)))⟩
  · rcases hF' k a with h | h
    · exact he k h b
    · have : k < w.heap.size := b.elim (fun a => h2.2 k a) (fun a => Firm.lt h3 k a)
      omega
  · rintro k (hk' | hk')
    · rcases hF' k hk' with h | h
      · exact hF k (.inl h)
      · exact Nat.le_trans hB.size h
    · exact hF k (.inr hk')
/-- What is so of P wherever it lies. -/
theorem Own.look {W w : World} {P R : HP} (hO : Own W w (star P R)) {X : Prop} (h : ∀ F, P w F → (∀ k, F k → W.heap.size ≤ k) → X) : X := by
  obtain ⟨_, ⟨F1, F2, rfl, h1, h2, hd⟩, hF, hB⟩ := hO
  exact h F1 h1 (fun k hk => hF k (.inl hk))
theorem Own.drop2 {W w : World} {P Q R : HP} (hO : Own W w (star P (star Q R))) : Own W w (star P R) := hO.swap.rest
/-- A block of bytes is read. -/
theorem C_row {w : World} {g e : Nat} {fr : Nat × Nat} {cs : Array Value} {xs : List Int} (h : w.heap[g]? = some (.cells cs e fr)) (hc : cs.toList = xs.map (Value.int .u8)) (hn : xs.length ≤ 9223372036854775807) : Kd.C (Kd.int .u8) w (some ⟨g, 0, none⟩) xs.length xs := by
  refine ⟨rfl, hn, fun _ => ⟨_, rfl, fun j p hj => ⟨[.int .u8 p], rfl, rfl, fun i u hu => ?_⟩⟩⟩
  have hjl := (List.getElem?_eq_some_iff.1 hj).1
  have hi : i = 0 := by
    have := (List.getElem?_eq_some_iff.1 hu).1
    simp only [List.length_cons, List.length_nil] at this
    omega
  subst hi
  injection hu with hu
  subst hu
  show w.cell? ((⟨g, 0, none⟩ : Addr).add (j * 1 + 0)) = _
  rw [add_plain, Nat.mul_one, Nat.add_zero, cell_of_row w g j cs e fr h, ← Array.getElem?_toList, hc, List.getElem?_map, hj]
  rfl
end Go.Proofs.YtdgimhaghhjdcaaDoor.Foot

namespace Go.Proofs.YtdgimhaghhjdcaaDoor.Foot
open Go.RowKit Go.Proofs.YtdgimhaghhjdcaaDoorW.PrintWords

/-- A block that holds just this. -/
def Ob (h : Nat) (o : Obj) : HP := fun w F => (F = fun k => k = h) ∧ w.heap[h]? = some o
instance {h : Nat} {o : Obj} : Firm (Ob h o) where
  move := by
    rintro w w' F ⟨rfl, hb⟩ hm
    exact ⟨rfl, (hm h rfl).trans hb⟩
  lt := by
    rintro w F ⟨rfl, hb⟩ k rfl
    exact blk_lt hb
/-- A box, whose slice is the call's own. -/
def Bx {α : Type} (d : Kd α) (st e p : Nat) (l : List α) : HP := fun w F => F p ∧ (∀ k, F k → k < w.heap.size) ∧ ∃ v, w.heap[p]? = some (.cells #[v] st (0, 0)) ∧ d.R e w 0 (fun k => F k ∧ k ≠ p) v l
section
variable {α : Type} {d : Kd α} {st e p : Nat} {l l' : List α} {w wr w3 : World} {F : Nat → Prop} {v v' : Value}
instance : Firm (Bx d st e p l) where
  move := by
    rintro w w' F ⟨hp, hl, v, hb, hR⟩ hm
    exact ⟨hp, fun k hk => lt_of_same (hm k hk) (hl k hk), v, (hm p hp).trans hb, Kd.R_move hR (fun k hk => hm k hk.1)⟩
  lt := fun h => h.2.1
/-- The same, in the middle of a call. -/
def BxI (d : Kd α) (st e p : Nat) (l : List α) (w : World) (F : Nat → Prop) (wr : World) : Prop := Keeps F w wr ∧ F p ∧ ∃ v, wr.heap[p]? = some (.cells #[v] st (0, 0)) ∧ d.R e wr 0 (fun k => (F k ∨ w.heap.size ≤ k) ∧ k ≠ p) v l
theorem Bx.begin (h : Bx d st e p l w F) : BxI d st e p l w F w ∧ p < w.heap.size := by
  obtain ⟨hp, hl, v, hb, hR⟩ := h
  exact ⟨⟨Keeps.refl F w, hp, v, hb, Kd.R_mono hR (fun k hk => ⟨.inl hk.1, hk.2⟩)⟩, hl p hp⟩
def BxE (d : Kd α) (st e p : Nat) (l : List α) (w : World) (F : Nat → Prop) (w' : World) : Prop := ∃ F', Bx d st e p l w' F' ∧ (∀ k, F' k → F k ∨ w.heap.size ≤ k) ∧ Keeps F w w'
theorem BxI.done (h : BxI d st e p l w F wr) : BxE d st e p l w F wr := by
  obtain ⟨hk, hp, v, hb, hR⟩ := h
  refine ⟨fun k => (F k ∨ w.heap.size ≤ k) ∧ k < wr.heap.size, ⟨⟨.inl hp, blk_lt hb⟩, fun k hk => hk.2, v, hb, Kd.R_mono (Kd.R_bound hR) (fun k hk => ⟨⟨hk.1.1, hk.2.2.1⟩, hk.1.2⟩)⟩, fun k hk => hk.1, hk⟩
theorem BxE.again {w' : World} (h : BxE d st e p l w F w') (hp : F p) : BxI d st e p l w F w' := by
  obtain ⟨F', ⟨hp', hl, v, hb, hR⟩, hF, hk⟩ := h
  exact ⟨hk, hp, v, hb, Kd.R_mono hR (fun k hk => ⟨hF k hk.1, hk.2⟩)⟩
theorem BxE.blk {w' : World} {h : Nat} {o : Obj} (hE : BxE d st e p l w F w') (hb : w.heap[h]? = some o) (hF : ¬ F h) : w'.heap[h]? = some o := by
  obtain ⟨F', _, _, hk⟩ := hE
  exact hk.blk hb hF
theorem BxE.after {w1 w' : World} (hE : BxE d st e p l w1 F w') (hb : Below w.heap.size w w1) : BxE d st e p l w F w' := by
  obtain ⟨F', hx, hF, hk⟩ := hE
  exact ⟨F', hx, fun k h => (hF k h).imp id (Nat.le_trans hb.size), (Keeps.of_below hb).trans hk (fun k h => .inl h)⟩
theorem BxI.put (hk : Keeps F w wr) (hp : F p) (hb : wr.heap[p]? = some (.cells #[v] st (0, 0)))
    (hR : d.R e wr 0 (fun k => (F k ∨ w.heap.size ≤ k) ∧ k ≠ p) v l) (hg : wr.grownBy w3 v.ownBlock) (hR3 : d.R e w3 0 (fun k => (F k ∨ w.heap.size ≤ k) ∧ k ≠ p) v' l') :
    w3.cell? ⟨p, 0, none⟩ = some v ∧ w3.frozen? ⟨p, 0, none⟩ = false ∧ BxI d st e p l' w F (w3.setCell ⟨p, 0, none⟩ v') := by
  have hb3 : w3.heap[p]? = some (.cells #[v] st (0, 0)) := blk_grown hb hg (fun e => (hR.1 p e.symm).2 rfl)
  exact ⟨blk_cell hb3 0, blk_frozen hb3 0, (hk.grown hg (fun k e => (hR.1 k e).1)).setCell (.inl hp) _, hp, v', blk_put hb3 0 _ rfl, Kd.R_far hR3 (p := ⟨p, 0, none⟩) (fun k hk => hk.2) _⟩
end
theorem Own.ob {W w : World} {h : Nat} {o : Obj} {R : HP} (hO : Own W w (star (Ob h o) R)) : w.heap[h]? = some o := hO.look fun F hp hF => hp.2
/-- A call that leaves all as it was, but for new memory. -/
theorem Own.idle {W w : World} {P : HP} [Firm P] (hO : Own W w P) {Pg : Program} {f : Nat} {args : Array Value} {v : Value} (h : Calls Pg f args w fun e w' => e = .returned v ∧ Below w.heap.size w w') :
    Calls Pg f args w fun e w' => e = .returned v ∧ Own W w' P := h.mono fun e w' ⟨he, hb⟩ => ⟨he, hO.step hb⟩
theorem Own.set_ob {W w : World} {h : Nat} {o o' : Obj} {R : HP} [Firm R] (hO : Own W w (star (Ob h o) R)) (i : Nat) (u : Value) (hb : (w.setCell ⟨h, i, none⟩ u).heap[h]? = some o') : Own W (w.setCell ⟨h, i, none⟩ u) (star (Ob h o') R) := by
  obtain ⟨_, ⟨F1, F2, rfl, ⟨rfl, h1⟩, h2, hd⟩, hF, hB⟩ := hO
  exact ⟨_, ⟨_, F2, rfl, ⟨rfl, hb⟩, Firm.move h2 (fun k hk => Below.heap_setCell _ _ _ _ (fun e => hd k e hk)), hd⟩, hF, hB.setCell (hF h (.inl rfl)) _⟩
/-- A block that is made. -/
theorem Own.new_ob {W w : World} {R : HP} [Firm R] (hO : Own W w R) (o : Obj) : Own W (w.alloc o) (star (Ob w.heap.size o) R) :=
  hO.add (below_alloc (Below.refl _ _) _) (G := fun k => k = w.heap.size) ⟨rfl, blk_new w o⟩ (fun k hk => by omega)
theorem Own.new_bx {α : Type} {W w : World} {R : HP} [Firm R] (hO : Own W w R) (d : Kd α) (st e : Nat) : Own W (w.alloc (.cells #[.slice none 0 0] st)) (star (Bx d st e w.heap.size []) R) :=
  hO.add (below_alloc (Below.refl _ _) _) (G := fun k => k = w.heap.size) ⟨rfl, fun k hk => by subst hk; simp, _, blk_new w _, Kd.R_nil _ _ _ _ _⟩ (fun k hk => by omega)
end Go.Proofs.YtdgimhaghhjdcaaDoor.Foot

namespace Go.Proofs.YtdgimhaghhjdcaaDoor.Foot
open Go.RowKit Go.Proofs.YtdgimhaghhjdcaaDoorW.PrintWords

section
variable {α : Type} {d : Kd α} {e : Nat} {W w : World} {v : Value} {xs : List α} {R : HP}
/-- A row, opened for a law that appends to it, and the way back. -/
theorem Own.open_row [Firm R] (h : Own W w (star (Foot.row d e v xs) R)) : ∃ ok : Nat → Prop, d.R e w 0 ok v xs ∧ (∀ k, w.heap.size ≤ k → ok k) ∧ ∀ (v1 : Value) (ys : List α) (w1 : World), d.R e w1 0 ok v1 ys → w.grownBy w1 v.ownBlock → Own W w1 (star (Foot.row d e v1 ys) R) := by
  obtain ⟨_, ⟨F1, F2, rfl, ⟨hR, hl⟩, h2, hd⟩, hF, hB⟩ := h
  refine ⟨fun k => F1 k ∨ w.heap.size ≤ k, Kd.R_mono hR (fun k hk => .inl hk), fun k hk => .inr hk, fun v1 ys w1 hR1 hg => ?_⟩
  have hr : ∀ k, v.ownBlock = some k → F1 k := hR.1
  refine ⟨_, ⟨fun k => (F1 k ∨ w.heap.size ≤ k) ∧ k < w1.heap.size, F2, rfl, ⟨Kd.R_mono (Kd.R_bound hR1) (fun k hk => ⟨hk.1, hk.2.2.1⟩), fun k hk => hk.2⟩, Firm.move h2 (fun k hk => hg.block k (Firm.lt h2 k hk) (fun e => hd k (hr k e.symm) hk)), fun k a b => ?_⟩, ?_, ?_⟩
  · rcases a.1 with a | a
    · exact hd k a b
    · have := Firm.lt h2 k b
      omega
  · rintro k (⟨a | a, _⟩ | a)
    · exact hF k (.inl a)
    · exact Nat.le_trans hB.size a
    · exact hF k (.inr a)
  · exact hB.grown hg hB.size (fun k e => hF k (.inl (hr k e)))
/-- What a row that holds something looks like. -/
theorem Own.form (h : Own W w (star (Foot.row d e v xs) R)) (hp : 0 < xs.length) : ∃ g cap, v = .slice (some ⟨g, 0, none⟩) xs.length cap ∧ xs.length ≤ cap := by
  obtain ⟨_, ⟨F1, F2, rfl, ⟨hR, hl⟩, h2, hd⟩, hF, hB⟩ := h
  obtain ⟨g, cap, rfl, _⟩ := Kd.R_form hR hp
  obtain ⟨A, c, he, hlc, _⟩ := Kd.R_reads hR
  injection he with h1 h2 h3
  subst h3
  exact ⟨g, cap, rfl, hlc⟩
end
section
variable {k : IntKind} {e : Nat} {W w : World} {xs : List Int} {R : HP}
theorem Own.at_ {g n c : Nat} (h : Own W w (star (Foot.row (Kd.int k) e (.slice (some ⟨g, 0, none⟩) n c) xs) R)) (i : Nat) (hi : i < n) :
    w.cell? ⟨g, i, none⟩ = some (.int k (xs.getD i 0)) ∧ w.frozen? ⟨g, i, none⟩ = false := by
  obtain ⟨_, ⟨F1, F2, rfl, ⟨hR, hl⟩, h2, hd⟩, hF, hB⟩ := h
  obtain ⟨rfl, _⟩ := Kd.R_reads' hR
  have := own_at_of (d := (0 : Int)) (Kd.own_of_R hR) (i : Int) (by omega) (by omega)
  rw [Int.toNat_natCast] at this
  exact this
theorem Own.put [Firm R] {g n c : Nat} (h : Own W w (star (Foot.row (Kd.int k) e (.slice (some ⟨g, 0, none⟩) n c) xs) R)) (i : Nat) (x : Int) :
    Own W (w.setCell ⟨g, i, none⟩ (.int k x)) (star (Foot.row (Kd.int k) e (.slice (some ⟨g, 0, none⟩) n c) (xs.set i x)) R) := by
  obtain ⟨ok, hR, _, hback⟩ := h.open_row
  have := Kd.R_putg hR (i : Int) x
  rw [Int.toNat_natCast] at this
  exact hback _ _ _ this.1 this.2
end
end Go.Proofs.YtdgimhaghhjdcaaDoor.Foot

namespace Go.Proofs.YtdgimhaghhjdcaaDoor.Foot
open Go.RowKit Go.Proofs.YtdgimhaghhjdcaaDoorW.PrintWords

def Br (e g n : Nat) (xs : List Int) : HP := fun w F => (F = fun k => k = g) ∧ Leaf.BRow w e g n xs
instance {e g n : Nat} {xs : List Int} : Firm (Br e g n xs) where
  move := by
    rintro w w' F ⟨rfl, hb⟩ hm
    exact ⟨rfl, hb.of_heap (hm g rfl)⟩
  lt := by
    rintro w F ⟨rfl, hb⟩ k rfl
    exact hb.lt
theorem Own.br {W w : World} {e g n : Nat} {xs : List Int} {R : HP} (hO : Own W w (star (Br e g n xs) R)) : Leaf.BRow w e g n xs := hO.look fun F hp hF => hp.2
theorem Own.br_set {W w : World} {e g n : Nat} {xs : List Int} {R : HP} [Firm R] (hO : Own W w (star (Br e g n xs) R)) (k : Nat) (hk : k < n) (x : Int) : Own W (w.setCell ⟨g, k, none⟩ (.int .u8 x)) (star (Br e g n (xs.set k x)) R) := by
  obtain ⟨_, ⟨F1, F2, rfl, ⟨rfl, h1⟩, h2, hd⟩, hF, hB⟩ := hO
  exact ⟨_, ⟨_, F2, rfl, ⟨rfl, h1.set k hk x⟩, Firm.move h2 (fun j hj => Below.heap_setCell _ _ _ _ (fun e => hd j e hj)), hd⟩, hF, hB.setCell (hF g (.inl rfl)) _⟩
theorem Own.new_br {W w : World} {R : HP} [Firm R] (hO : Own W w R) (e : Nat) (s : ByteArray) : Own W (Lib.bytesWorld w e s) (star (Br e w.heap.size s.size (bytesOf s)) R) :=
  hO.add (bytes_below (Below.refl _ _) (Nat.le_refl _) e s) (G := fun k => k = w.heap.size) ⟨rfl, Leaf.BRow.made w e s⟩ (fun k hk => by omega)
end Go.Proofs.YtdgimhaghhjdcaaDoor.Foot
