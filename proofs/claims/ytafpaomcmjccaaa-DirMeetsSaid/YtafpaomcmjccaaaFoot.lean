/- Footprints: what a call may write, what it leaves; things that lie apart from one another. -/
import Derived.Test.YtafpaomcmjccaaaWWords
import Derived.Test.YtafpaomcmjccaaaDrawn
set_option linter.unusedVariables false
namespace Go.Proofs.Ytafpaomcmjccaaa.Foot
open Go.RowKit Go.Proofs.YtafpaomcmjccaaaW.PrintWords

/-- Outside F, what was there is as it was. -/
structure Keeps (F : Nat → Prop) (w w' : World) : Prop where
  os : w'.os = w.os
  tape : w'.tape = w.tape
  output : w'.output = w.output
  size : w.heap.size ≤ w'.heap.size
  block : ∀ k, k < w.heap.size → ¬ F k → w'.heap[k]? = w.heap[k]?
theorem Keeps.refl (F : Nat → Prop) (w : World) : Keeps F w w := ⟨rfl, rfl, rfl, Nat.le_refl _, fun _ _ _ => rfl⟩
theorem Keeps.trans {F G : Nat → Prop} {a b c : World} (h : Keeps F a b) (k : Keeps G b c) (hG : ∀ i, G i → F i ∨ a.heap.size ≤ i) : Keeps F a c :=
  ⟨k.os.trans h.os, k.tape.trans h.tape, k.output.trans h.output, Nat.le_trans h.size k.size, fun i hi hF =>
    (k.block i (Nat.lt_of_lt_of_le hi h.size) (fun hg => (hG i hg).elim hF (fun h => by omega))).trans (h.block i hi hF)⟩
theorem Keeps.of_below {F : Nat → Prop} {w w' : World} (h : Below w.heap.size w w') : Keeps F w w' := ⟨h.os, h.tape, h.output, h.size, fun k hk _ => h.block k hk⟩
theorem Keeps.then_below {F : Nat → Prop} {a b c : World} (h : Keeps F a b) (k : Below b.heap.size b c) : Keeps F a c := h.trans (G := fun _ => False) (.of_below k) (fun _ h => h.elim)
theorem Keeps.alloc {F : Nat → Prop} {a b : World} (h : Keeps F a b) (o : Obj) : Keeps F a (b.alloc o) := h.then_below (below_alloc (Below.refl _ _) o)
theorem Keeps.drew {F : Nat → Prop} {a b : World} (h : Keeps F a b) : Keeps F a b.drew := h.then_below (below_drew (Below.refl _ _))
theorem Keeps.drewN {F : Nat → Prop} {a b : World} (h : Keeps F a b) (n : Nat) : Keeps F a (b.drewN n) := h.then_below (pw_below_drewN (Below.refl _ _) n)
theorem Keeps.drawn {F : Nat → Prop} {a b c : World} (h : Keeps F a b) (k : Drawn0 b c) : Keeps F a c := by obtain ⟨n, rfl⟩ := k.out; exact h.drewN n
theorem Keeps.grown {F : Nat → Prop} {a b c : World} {row : Option Nat} (h : Keeps F a b) (k : b.grownBy c row) (hr : ∀ i, row = some i → F i ∨ a.heap.size ≤ i) : Keeps F a c :=
  h.trans (G := fun i => some i = row) ⟨k.os, k.tape, k.output, k.size, fun i hi hn => k.block i hi hn⟩ (fun i hi => hr i hi.symm)
theorem Keeps.setCell {F : Nat → Prop} {a b : World} (h : Keeps F a b) {p : Addr} (hp : F p.block ∨ a.heap.size ≤ p.block) (u : Value) : Keeps F a (b.setCell p u) :=
  h.trans (G := fun i => i = p.block) ⟨rfl, rfl, rfl, by simp [World.setCell], fun k hk hn => Below.heap_setCell _ _ _ _ hn⟩ (fun i hi => hi ▸ hp)
theorem Keeps.mono {F G : Nat → Prop} {a b : World} (h : Keeps F a b) (hG : ∀ i, F i → G i ∨ a.heap.size ≤ i) : Keeps G a b := (Keeps.refl G a).trans h hG
theorem Keeps.to_below {F : Nat → Prop} {B : Nat} {w w' : World} (h : Keeps F w w') (hB : B ≤ w.heap.size) (hF : ∀ k, F k → B ≤ k) : Below B w w' :=
  ⟨h.os, h.tape, h.output, h.size, fun k hk => h.block k (by omega) (fun hf => by have := hF k hf; omega)⟩
theorem Keeps.blk {F : Nat → Prop} {w w' : World} (h : Keeps F w w') {g : Nat} {o : Obj} (hb : w.heap[g]? = some o) (hF : ¬ F g) : w'.heap[g]? = some o := (h.block g (blk_lt hb) hF).trans hb
theorem Keeps.R {α : Type} {d : Kd α} {e base : Nat} {ok F : Nat → Prop} {v : Value} {xs : List α} {w w' : World} (h : Keeps F w w') (hR : d.R e w base ok v xs) (hF : ∀ k, ok k → ¬ F k) : d.R e w' base ok v xs :=
  Kd.R_step hR fun k hk hl => h.block k hl (hF k hk)

/-- A slice that is read, and that whatever is written in F leaves as it is. -/
def CS {α : Type} (d : Kd α) (F : Nat → Prop) (w : World) (A : Option Addr) (n : Nat) (xs : List α) : Prop := ∀ w', Keeps F w w' → d.C w' A n xs
theorem CS.now {α : Type} {d : Kd α} {F : Nat → Prop} {w : World} {A : Option Addr} {n : Nat} {xs : List α} (h : CS d F w A n xs) : d.C w A n xs := h w (Keeps.refl F w)
theorem CS.step {α : Type} {d : Kd α} {F G : Nat → Prop} {w w1 : World} {A : Option Addr} {n : Nat} {xs : List α} (h : CS d F w A n xs) (k : Keeps F w w1) (hG : ∀ i, G i → F i ∨ w.heap.size ≤ i) : CS d G w1 A n xs :=
  fun w' hw => h w' (k.trans hw hG)
theorem CS.empty {α : Type} (d : Kd α) (F : Nat → Prop) (w : World) : CS d F w Option.none ([] : List α).length [] := fun _ _ => Kd.C_nil _ _
theorem CS.of_arg {α : Type} {d : Kd α} {F : Nat → Prop} {W w : World} {A : Option Addr} {n : Nat} {xs : List α} (h : d.C W A n xs) (hB : Below W.heap.size W w) (hF : ∀ k, F k → W.heap.size ≤ k) : CS d F w A n xs :=
  fun w' hw => Kd.C_below h (hB.trans (hw.to_below hB.size hF))
theorem CS.of_R {α : Type} {d : Kd α} {e base : Nat} {F ok : Nat → Prop} {w : World} {A : Option Addr} {n c : Nat} {xs : List α} (h : d.R e w base ok (.slice A n c) xs) (hF : ∀ k, ok k → ¬ F k) : CS d F w A n xs :=
  fun w' hw => by obtain ⟨rfl, _, hc⟩ := Kd.R_reads' (hw.R h hF); exact hc

theorem C_of_BRow {W : World} {e g n : Nat} {xs : List Int} (h : Leaf.BRow W e g n xs) (hn : n ≤ 9223372036854775807) : Kd.C (Kd.int .u8) W (some ⟨g, 0, none⟩) n xs := by
  refine ⟨h.1, hn, fun _ => ⟨_, rfl, fun j p hj => ⟨[.int .u8 p], rfl, rfl, fun i u hu => ?_⟩⟩⟩
  have hjl := (List.getElem?_eq_some_iff.1 hj).1
  have hi : i = 0 := by
    have := (List.getElem?_eq_some_iff.1 hu).1
    simp only [List.length_cons, List.length_nil] at this
    omega
  subst hi
  injection hu with hu
  subst hu
  have hc := h.cell j (by have := h.1; omega)
  rw [List.getD_eq_getElem?_getD, hj] at hc
  show W.cell? ((⟨g, 0, none⟩ : Addr).add (j * 1 + 0)) = _
  rw [add_plain, Nat.mul_one, Nat.add_zero]
  exact hc
/-- The bytes of a text, made by a conversion. -/
theorem CS.made (W : World) (e : Nat) (s : ByteArray) (hs : s.size ≤ 9223372036854775807) : CS (Kd.int .u8) (fun k => k < W.heap.size) (Lib.bytesWorld W e s) (some ⟨W.heap.size, 0, none⟩) s.size (bytesOf s) :=
  fun w' hk => C_of_BRow ((Leaf.BRow.made W e s).of_heap (hk.block _ (Leaf.BRow.made W e s).lt (by omega))) hs
/-- A thing in memory, with the blocks that are its own. -/
def HP := World → (Nat → Prop) → Prop
class Firm (P : HP) : Prop where
  move : ∀ {w w' : World} {F : Nat → Prop}, P w F → (∀ k, F k → w'.heap[k]? = w.heap[k]?) → P w' F
  lt : ∀ {w : World} {F : Nat → Prop}, P w F → ∀ k, F k → k < w.heap.size
def emp : HP := fun _ F => F = fun _ => False
def star (P Q : HP) : HP := fun w F => ∃ F1 F2, F = (fun k => F1 k ∨ F2 k) ∧ P w F1 ∧ Q w F2 ∧ ∀ k, F1 k → F2 k → False
/-- A row of the call's own. -/
def row {α : Type} (d : Kd α) (e : Nat) (v : Value) (xs : List α) : HP := fun w F => d.R e w 0 F v xs ∧ ∀ k, F k → k < w.heap.size
instance : Firm emp := ⟨fun h _ => h, fun h k hk => by rw [h] at hk; exact hk.elim⟩
instance {P Q : HP} [Firm P] [Firm Q] : Firm (star P Q) where
  move := by
    rintro w w' F ⟨F1, F2, rfl, h1, h2, hd⟩ hm
    exact ⟨F1, F2, rfl, Firm.move h1 (fun k hk => hm k (.inl hk)), Firm.move h2 (fun k hk => hm k (.inr hk)), hd⟩
  lt := by
    rintro w F ⟨F1, F2, rfl, h1, h2, hd⟩ k (hk | hk)
    · exact Firm.lt h1 k hk
    · exact Firm.lt h2 k hk
theorem lt_of_same {w w' : World} {k : Nat} (h : w'.heap[k]? = w.heap[k]?) (hk : k < w.heap.size) : k < w'.heap.size := by
  rcases Nat.lt_or_ge k w'.heap.size with h1 | h1
  · exact h1
  · rw [Array.getElem?_eq_none h1, Array.getElem?_eq_getElem hk] at h
    cases h
instance {α : Type} {d : Kd α} {e : Nat} {v : Value} {xs : List α} : Firm (row d e v xs) where
  move := by
    rintro w w' F ⟨h, hl⟩ hm
    exact ⟨Kd.R_move h hm, fun k hk => lt_of_same (hm k hk) (hl k hk)⟩
  lt := fun h => h.2
theorem star_comm {P Q : HP} {w : World} {F : Nat → Prop} (h : star P Q w F) : star Q P w F := by
  obtain ⟨F1, F2, rfl, h1, h2, hd⟩ := h
  exact ⟨F2, F1, by funext k; exact propext Or.comm, h2, h1, fun k a b => hd k b a⟩
theorem star_assoc {P Q R : HP} {w : World} {F : Nat → Prop} (h : star (star P Q) R w F) : star P (star Q R) w F := by
  obtain ⟨_, F3, rfl, ⟨F1, F2, rfl, h1, h2, hd⟩, h3, he⟩ := h
  exact ⟨F1, _, by funext k; exact propext or_assoc, h1, ⟨F2, F3, rfl, h2, h3, fun k a b => he k (.inr a) b⟩, fun k a b => b.elim (hd k a) (fun b => he k (.inl a) b)⟩
theorem star_assoc' {P Q R : HP} {w : World} {F : Nat → Prop} (h : star P (star Q R) w F) : star (star P Q) R w F := by
  obtain ⟨F1, _, rfl, h1, ⟨F2, F3, rfl, h2, h3, hd⟩, he⟩ := h
  exact ⟨_, F3, by funext k; exact propext or_assoc.symm, ⟨F1, F2, rfl, h1, h2, fun k a b => he k a (.inl b)⟩, h3, fun k a b => a.elim (fun a => he k a (.inr b)) (fun a => hd k a b)⟩
theorem star_mono {P Q P' Q' : HP} {w : World} {F : Nat → Prop} (hP : ∀ F, P w F → P' w F) (hQ : ∀ F, Q w F → Q' w F) (h : star P Q w F) : star P' Q' w F := by
  obtain ⟨F1, F2, rfl, h1, h2, hd⟩ := h
  exact ⟨F1, F2, rfl, hP _ h1, hQ _ h2, hd⟩

/-- What a call that began at W holds at w: P, in new memory; of the old memory nothing has turned. -/
def Own (W w : World) (P : HP) : Prop := ∃ F, P w F ∧ (∀ k, F k → W.heap.size ≤ k) ∧ Below W.heap.size W w
theorem Own.below {W w : World} {P : HP} (h : Own W w P) : Below W.heap.size W w := h.choose_spec.2.2
theorem Own.start (W : World) : Own W W emp := ⟨_, rfl, fun k hk => hk.elim, Below.refl _ _⟩
theorem Own.of_below {W w : World} (h : Below W.heap.size W w) : Own W w emp := ⟨_, rfl, fun k hk => hk.elim, h⟩
theorem Own.map {W w : World} {P Q : HP} (h : Own W w P) (hPQ : ∀ F, P w F → Q w F) : Own W w Q := by
  obtain ⟨F, hp, hF, hB⟩ := h
  exact ⟨F, hPQ F hp, hF, hB⟩
theorem Own.comm {W w : World} {P Q : HP} (h : Own W w (star P Q)) : Own W w (star Q P) := h.map fun _ => star_comm
theorem Own.assoc {W w : World} {P Q R : HP} (h : Own W w (star (star P Q) R)) : Own W w (star P (star Q R)) := h.map fun _ => star_assoc
theorem Own.assoc' {W w : World} {P Q R : HP} (h : Own W w (star P (star Q R))) : Own W w (star (star P Q) R) := h.map fun _ => star_assoc'
theorem Own.swap {W w : World} {P Q R : HP} (h : Own W w (star P (star Q R))) : Own W w (star Q (star P R)) :=
  (h.assoc'.map fun _ => star_mono (fun _ => star_comm) (fun _ h => h)).assoc
/-- What stands behind may be forgotten. -/
theorem Own.drop {W w : World} {P Q : HP} (h : Own W w (star P Q)) : Own W w P := by
  obtain ⟨F, ⟨F1, F2, rfl, h1, h2, hd⟩, hF, hB⟩ := h
  exact ⟨F1, h1, fun k hk => hF k (.inl hk), hB⟩
theorem Own.rest {W w : World} {P Q : HP} (h : Own W w (star P Q)) : Own W w Q := h.comm.drop
/-- Nothing that was there is turned by what happened. -/
theorem Own.step {W w w' : World} {P : HP} [Firm P] (h : Own W w P) (hb : Below w.heap.size w w') : Own W w' P := by
  obtain ⟨F, hp, hF, hB⟩ := h
  exact ⟨F, Firm.move hp (fun k hk => hb.block k (Firm.lt hp k hk)), hF, hB.trans (hb.mono hB.size)⟩
theorem Own.drawn {W w w' : World} {P : HP} [Firm P] (h : Own W w P) (hd : Drawn0 w w') : Own W w' P := h.step hd.below
theorem Own.alloc {W w : World} {P : HP} [Firm P] (h : Own W w P) (o : Obj) : Own W (w.alloc o) P := h.step (below_alloc (Below.refl _ _) o)
theorem Own.drew {W w : World} {P : HP} [Firm P] (h : Own W w P) : Own W w.drew P := h.step (below_drew (Below.refl _ _))
theorem Own.drewN {W w : World} {P : HP} [Firm P] (h : Own W w P) (n : Nat) : Own W (w.drewN n) P := h.step (pw_below_drewN (Below.refl _ _) n)
/-- A new thing, made beside what there is. -/
theorem Own.add {W w w' : World} {P Q : HP} [Firm P] (h : Own W w P) (hb : Below w.heap.size w w') {G : Nat → Prop} (hq : Q w' G) (hG : ∀ k, G k → w.heap.size ≤ k) : Own W w' (star Q P) := by
  obtain ⟨F, hp, hF, hB⟩ := h
  refine ⟨_, ⟨G, F, rfl, hq, Firm.move hp (fun k hk => hb.block k (Firm.lt hp k hk)), fun k a b => ?_⟩, ?_, hB.trans (hb.mono hB.size)⟩
  · have := hG k a
    have := Firm.lt hp k b
    omega
  · rintro k (hk | hk)
    · exact Nat.le_trans hB.size (hG k hk)
    · exact hF k hk
/-- A row that a call has made. -/
theorem Own.row {α : Type} {d : Kd α} {e : Nat} {W w w' : World} {P : HP} {v : Value} {xs : List α} {ok : Nat → Prop} [Firm P] (h : Own W w P) (hR : d.R e w' w.heap.size ok v xs) (hb : Below w.heap.size w w') : Own W w' (star (Foot.row d e v xs) P) :=
  h.add hb (G := fun k => w.heap.size ≤ k ∧ k < w'.heap.size) ⟨Kd.R_lower (Kd.R_mono (Kd.R_bound hR) (fun k hk => ⟨hk.2.1, hk.2.2.1⟩)) (Nat.zero_le _), fun k hk => hk.2⟩ (fun k hk => hk.1)
theorem Own.nil {α : Type} (d : Kd α) (e : Nat) {W w : World} {P : HP} [Firm P] (h : Own W w P) : Own W w (star (Foot.row d e (.slice none 0 0) []) P) :=
  h.row (ok := fun _ => True) (Kd.R_nil _ _ _ _ _) (Below.refl _ _)
/-- What a call does to P, it does beside R. -/
theorem Own.frame {W w : World} {P R : HP} [Firm R] (hO : Own W w (star P R)) {Pg : Program} {f : Nat} {args : Array Value} {v : Value} {Post : HP}
    (h : ∀ F, P w F → (∀ k, F k → W.heap.size ≤ k) → Calls Pg f args w fun e w' => e = .returned v ∧ ∃ F', Post w' F' ∧ (∀ k, F' k → F k ∨ w.heap.size ≤ k) ∧ Keeps F w w') :
    Calls Pg f args w fun e w' => e = .returned v ∧ Own W w' (star Post R) := by
  obtain ⟨_, ⟨F1, F2, rfl, h1, h2, hd⟩, hF, hB⟩ := hO
  refine (h F1 h1 (fun k hk => hF k (.inl hk))).mono ?_
  rintro e w' ⟨rfl, F', hp, hF', hk⟩
  refine ⟨rfl, _, ⟨F', F2, rfl, hp, Firm.move h2 (fun k hk2 => hk.block k (Firm.lt h2 k hk2) (fun hk1 => hd k hk1 hk2)), fun k a b => ?_⟩, ?_, hB.trans (hk.to_below hB.size (fun k hk => hF k (.inl hk)))⟩
  · rcases hF' k a with h | h
    · exact hd k h b
    · have := Firm.lt h2 k b
      omega
  · rintro k (hk' | hk')
    · rcases hF' k hk' with h | h
      · exact hF k (.inl h)
      · exact Nat.le_trans hB.size h
    · exact hF k (.inr hk')
/-- The same, of a call whose result is not known ahead. -/
theorem Own.frameV {W w : World} {P R : HP} [Firm R] (hO : Own W w (star P R)) {Pg : Program} {f : Nat} {args : Array Value} {Post : Value → HP}
    (h : ∀ F, P w F → (∀ k, F k → W.heap.size ≤ k) → Calls Pg f args w fun e w' => ∃ v, e = .returned v ∧ ∃ F', Post v w' F' ∧ (∀ k, F' k → F k ∨ w.heap.size ≤ k) ∧ Keeps F w w') :
    Calls Pg f args w fun e w' => ∃ v, e = .returned v ∧ Own W w' (star (Post v) R) := by
  obtain ⟨_, ⟨F1, F2, rfl, h1, h2, hd⟩, hF, hB⟩ := hO
  refine (h F1 h1 (fun k hk => hF k (.inl hk))).mono ?_
  rintro e w' ⟨v, rfl, F', hp, hF', hk⟩
  refine ⟨v, rfl, _, ⟨F', F2, rfl, hp, Firm.move h2 (fun k hk2 => hk.block k (Firm.lt h2 k hk2) (fun hk1 => hd k hk1 hk2)), fun k a b => ?_⟩, ?_, hB.trans (hk.to_below hB.size (fun k hk => hF k (.inl hk)))⟩
  · rcases hF' k a with h | h
    · exact hd k h b
    · have := Firm.lt h2 k b
      omega
  · rintro k (hk' | hk')
    · rcases hF' k hk' with h | h
      · exact hF k (.inl h)
      · exact Nat.le_trans hB.size h
    · exact hF k (.inr hk')
/-- A row that stands beside P is read. -/
theorem Own.reads {α : Type} {d : Kd α} {e : Nat} {W w : World} {P : HP} {v : Value} {xs : List α} (h : Own W w (star (Foot.row d e v xs) P)) : ∃ A c, v = .slice A xs.length c ∧ xs.length ≤ c ∧ d.C w A xs.length xs := by
  obtain ⟨F, ⟨F1, F2, rfl, ⟨h1, _⟩, _⟩, _⟩ := h
  exact Kd.R_reads h1
/-- A row that stands beside P: whatever is written in P leaves it. -/
theorem Own.framed {α : Type} {d : Kd α} {et : Nat} {W w : World} {P R : HP} {A : Option Addr} {n c : Nat} {xs : List α} [Firm R] [Firm P] (hO : Own W w (star P (star (Foot.row d et (.slice A n c) xs) R))) {Pg : Program} {f : Nat} {args : Array Value} {v : Value} {Post : HP}
    (h : ∀ F, P w F → (∀ k, F k → W.heap.size ≤ k) → CS d F w A n xs → Calls Pg f args w fun e w' => e = .returned v ∧ ∃ F', Post w' F' ∧ (∀ k, F' k → F k ∨ w.heap.size ≤ k) ∧ Keeps F w w') :
    Calls Pg f args w fun e w' => e = .returned v ∧ Own W w' (star Post (star (Foot.row d et (.slice A n c) xs) R)) := by
  obtain ⟨_, ⟨F1, _, rfl, h1, ⟨F2, F3, rfl, h2, h3, hd⟩, he⟩, hF, hB⟩ := hO
  have hcs : CS d F1 w A n xs := CS.of_R h2.1 (fun k a b => he k b (.inl a))
  refine (h F1 h1 (fun k hk => hF k (.inl hk)) hcs).mono ?_
  rintro e w' ⟨rfl, F', hp, hF', hk⟩
  have hm : ∀ k, F2 k ∨ F3 k → w'.heap[k]? = w.heap[k]? := fun k a => hk.block k (a.elim (fun a => h2.2 k a) (fun a => Firm.lt h3 k a)) (fun b => he k b a)
  refine ⟨rfl, _, ⟨F', _, rfl, hp, ⟨F2, F3, rfl, Firm.move (P := Foot.row d _ (.slice A n c) xs) h2 (fun k a => hm k (.inl a)), Firm.move h3 (fun k a => hm k (.inr a)), hd⟩, fun k a b => ?_⟩, ?_, hB.trans (hk.to_below hB.size (fun k hk => hF k (.inl hk)))⟩
  · rcases hF' k a with h | h
    · exact he k h b
    · have : k < w.heap.size := b.elim (fun a => h2.2 k a) (fun a => Firm.lt h3 k a)
      omega
  · rintro k (hk' | hk')
    · rcases hF' k hk' with h | h
      · exact hF k (.inl h)
      · exact Nat.le_trans hB.size h
    · exact hF k (.inr hk')
/-- What is so of P wherever it lies. -/
theorem Own.look {W w : World} {P R : HP} (hO : Own W w (star P R)) {X : Prop} (h : ∀ F, P w F → (∀ k, F k → W.heap.size ≤ k) → X) : X := by
  obtain ⟨_, ⟨F1, F2, rfl, h1, h2, hd⟩, hF, hB⟩ := hO
  exact h F1 h1 (fun k hk => hF k (.inl hk))
theorem Own.drop2 {W w : World} {P Q R : HP} (hO : Own W w (star P (star Q R))) : Own W w (star P R) := hO.swap.rest
/-- A block of bytes is read. -/
theorem C_row {w : World} {g e : Nat} {fr : Nat × Nat} {cs : Array Value} {xs : List Int} (h : w.heap[g]? = some (.cells cs e fr)) (hc : cs.toList = xs.map (Value.int .u8)) (hn : xs.length ≤ 9223372036854775807) : Kd.C (Kd.int .u8) w (some ⟨g, 0, none⟩) xs.length xs := by
  refine ⟨rfl, hn, fun _ => ⟨_, rfl, fun j p hj => ⟨[.int .u8 p], rfl, rfl, fun i u hu => ?_⟩⟩⟩
  have hjl := (List.getElem?_eq_some_iff.1 hj).1
  have hi : i = 0 := by
    have := (List.getElem?_eq_some_iff.1 hu).1
    simp only [List.length_cons, List.length_nil] at this
    omega
  subst hi
  injection hu with hu
  subst hu
  show w.cell? ((⟨g, 0, none⟩ : Addr).add (j * 1 + 0)) = _
  rw [add_plain, Nat.mul_one, Nat.add_zero, cell_of_row w g j cs e fr h, ← Array.getElem?_toList, hc, List.getElem?_map, hj]
  rfl
end Go.Proofs.Ytafpaomcmjccaaa.Foot
