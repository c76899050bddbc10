/- Arguments of whatever kind, opened: what reads as data is of a kind (the printed words' kinds), part by part. -/
import Derived.Test.YtafpaomcmjccaaaWWords
import Derived.ProofKit
import Derived.OpenShut
set_option linter.unusedVariables false
set_option linter.unusedSimpArgs false
namespace Go.Proofs.Ytafpaomcmjccaaa.Opens
open Go.RowKit Go.Proofs.YtafpaomcmjccaaaW.PrintWords

def Op {α : Type} (P : Program) (t : TypeId) (d : Kd α) (G : α → Prop) : Prop :=
  ∀ (H : Type) (enc : TypeId × Value → H) (w : World) (base : Nat) (spare : Nat → Bool) (held : Bool) (fuel : Nat) (cs : List Value) (x : DataW H × List MemPlace),
    DataW.trod enc P w base spare held fuel t cs = some x → ∃ a, d.K w a cs ∧ G a

theorem op_int {P : Program} {t : TypeId} {k : IntKind} (ht : P.underlying t = some (.int k)) : Op P t (Kd.int k) (fun n => (Lit.int k n).wf = true) := by
  intro H enc w base spare held fuel cs x h
  obtain ⟨n, rfl, _, hn⟩ := DataW.trod_int ht h
  exact ⟨n, rfl, hn⟩
theorem op_bool {P : Program} {t : TypeId} (ht : P.underlying t = some .bool) : Op P t Kd.bool (fun _ => True) := by
  intro H enc w base spare held fuel cs x h
  obtain ⟨b, rfl, _⟩ := DataW.trod_bool ht h
  exact ⟨b, rfl, trivial⟩
theorem op_string {P : Program} {t : TypeId} (ht : P.underlying t = some .string) : Op P t Kd.string (fun s => s.size ≤ 9223372036854775807) := by
  intro H enc w base spare held fuel cs x h
  obtain ⟨s, rfl, _, hs⟩ := DataW.trod_string ht h
  exact ⟨s, rfl, by simpa [maxLen] using hs⟩

theorem choose_list {α : Type} (p : Nat → α → Prop) : ∀ n, (∀ j, j < n → ∃ a, p j a) → ∃ xs : List α, xs.length = n ∧ ∀ j a, xs[j]? = some a → p j a
  | 0, _ => ⟨[], rfl, fun j a h => by simp at h⟩
  | n + 1, h => by
    obtain ⟨xs, hl, hx⟩ := choose_list p n (fun j hj => h j (by omega))
    obtain ⟨a, ha⟩ := h n (by omega)
    refine ⟨xs ++ [a], by simp [hl], fun j b hb => ?_⟩
    rcases Nat.lt_or_ge j xs.length with hj | hj
    · rw [List.getElem?_append_left hj] at hb; exact hx j b hb
    · have hj' : j = n := by
        have := (List.getElem?_eq_some_iff.1 hb).1
        simp only [List.length_append, List.length_singleton] at this
        omega
      subst hj'
      rw [List.getElem?_append_right hj, hl, Nat.sub_self] at hb
      injection hb with hb
      exact hb ▸ ha

theorem op_slice {P : Program} {t e : TypeId} {α : Type} {d : Kd α} {G : α → Prop} (ht : P.underlying t = some (.slice e)) (hc : P.cellsOf e = d.sz) (he : Op P e d G) :
    Op P t (Kd.slice e d) (fun xs => (∀ x ∈ xs, G x) ∧ xs.length ≤ 9223372036854775807) := by
  intro H enc w base spare held fuel cs x h
  rcases DataW.trod_slice ht h with ⟨rfl, _⟩ | ⟨a, len, cap, elems, rest, n, _, rfl, rfl, hb, hl, hm, hlen, hel, _, _⟩
  · exact ⟨[], ⟨none, 0, rfl, Nat.le_refl _, rfl, by simp, fun h => absurd h (by simp)⟩, fun x hx => by simp at hx, by simp⟩
  · obtain ⟨xs, hxl, hxs⟩ := choose_list (fun j b => (∃ c : List Value, c.length = d.sz ∧ d.K w b c ∧ ∀ i u, c[i]? = some u → w.cell? (a.add (j * d.sz + i)) = some u) ∧ G b) len (fun j hj => by
      have hj' := hel j hj
      have hej : elems[j]? = some elems[j] := List.getElem?_eq_getElem (by omega)
      rw [hej, Option.bind_eq_some_iff] at hj'
      obtain ⟨c, hcs, htr⟩ := hj'
      obtain ⟨b, hK, hG⟩ := he H enc w base spare held n c _ htr
      refine ⟨b, ⟨c, d.K_len hK, hK, fun i u hu => ?_⟩, hG⟩
      obtain ⟨_, hcl, hcell⟩ := World.cells?_some hcs
      have hi : i < c.length := (List.getElem?_eq_some_iff.1 hu).1
      have := hcell i (by omega)
      rw [hu] at this
      rw [hc] at this
      have ea : (a.add (j * d.sz)).add i = a.add (j * d.sz + i) := by
        unfold Addr.add
        split <;> split <;> split <;> simp_all <;> omega
      rw [ea] at this
      exact this)
    have hm' : cap ≤ 9223372036854775807 := by simpa [maxLen] using hm
    refine ⟨xs, ⟨some a, cap, by rw [hxl], by omega, hxl ▸ rfl, by omega, fun _ => ⟨a, rfl, fun j p hj => (hxs j p hj).1⟩⟩, fun y hy => ?_, by omega⟩
    obtain ⟨j, hj⟩ := List.getElem?_of_mem hy
    exact (hxs j y hj).2

/-- Fields in line. -/
inductive OpF (P : Program) : List Field → Nat → {α : Type} → Kd α → (α → Prop) → Prop
  | last {f : Field} {off : Nat} {α : Type} {d : Kd α} {G : α → Prop} : Op P f.type d G → f.offset = off → P.cellsOf f.type = d.sz → OpF P [f] off d G
  | cons {f : Field} {fs : List Field} {off : Nat} {α β : Type} {d : Kd α} {G : α → Prop} {d' : Kd β} {G' : β → Prop} :
      Op P f.type d G → f.offset = off → P.cellsOf f.type = d.sz → OpF P fs (off + d.sz) d' G' → OpF P (f :: fs) off (Kd.pair d d') (fun x => G x.1 ∧ G' x.2)

theorem OpF.opened {P : Program} {fs : List Field} {off : Nat} {α : Type} {d : Kd α} {G : α → Prop} (h : OpF P fs off d G) :
    ∀ (H : Type) (enc : TypeId × Value → H) (w : World) (base : Nat) (spare : Nat → Bool) (held : Bool) (n : Nat) (cs : List Value) (xs : List (DataW H × List MemPlace)), xs.length = fs.length →
      (∀ (i : Nat) (f : Field), fs[i]? = some f → DataW.trod enc P w base spare held n f.type ((cs.drop f.offset).take (P.cellsOf f.type)) = xs[i]?) →
      ∃ a, d.K w a ((cs.drop off).take d.sz) ∧ G a := by
  induction h with
  | last ho hoff hc =>
    intro H enc w base spare held n cs xs hl hx
    have h0 := hx 0 _ rfl
    obtain ⟨y, hy⟩ : ∃ y, xs[0]? = some y := ⟨xs[0]'(by rw [hl]; simp), List.getElem?_eq_getElem _⟩
    rw [hy, hoff, hc] at h0
    exact ho H enc w base spare held n _ _ h0
  | @cons f fs off α β d G d' G' ho hoff hc hr ih =>
    intro H enc w base spare held n cs xs hl hx
    have h0 := hx 0 _ rfl
    obtain ⟨y, hy⟩ : ∃ y, xs[0]? = some y := ⟨xs[0]'(by rw [hl]; simp), List.getElem?_eq_getElem _⟩
    rw [hy, hoff, hc] at h0
    obtain ⟨a, ha, hG⟩ := ho H enc w base spare held n _ _ h0
    obtain ⟨b, hb, hG'⟩ := ih H enc w base spare held n cs xs.tail (by rw [List.length_tail, hl]; simp) (fun i f hf => by
      have := hx (i + 1) f (by simpa using hf)
      rw [this, List.getElem?_tail])
    refine ⟨(a, b), ⟨_, _, ?_, ha, hb⟩, hG, hG'⟩
    show (cs.drop off).take (d.sz + d'.sz) = _
    rw [List.take_add, List.drop_drop]
theorem op_struct {P : Program} {t : TypeId} {fs : Array Field} {α : Type} {d : Kd α} {G : α → Prop} (ht : P.underlying t = some (.struct fs)) (hc : P.cellsOf t = d.sz) (hF : OpF P fs.toList 0 d G) : Op P t d G := by
  intro H enc w base spare held fuel cs x h
  obtain ⟨xs, n, _, _, hl, hxl, hx⟩ := DataW.trod_struct ht h
  obtain ⟨a, ha, hG⟩ := hF.opened H enc w base spare held n cs xs (by simpa using hxl) (fun i f hf => hx i f (by simpa using hf))
  rw [List.drop_zero, ← hc, ← hl, List.take_length] at ha
  exact ⟨a, ha, hG⟩
theorem op_iso {P : Program} {t : TypeId} {α β : Type} {d : Kd α} {G : α → Prop} (h : Op P t d G) (f : β → α) (g : α → β) (hfg : ∀ a, f (g a) = a) : Op P t (Kd.iso d f) (fun b => G (f b)) := by
  intro H enc w base spare held fuel cs x hx
  obtain ⟨a, ha, hG⟩ := h H enc w base spare held fuel cs x hx
  exact ⟨g a, by show d.K w (f (g a)) cs; rw [hfg]; exact ha, by show G (f (g a)); rw [hfg]; exact hG⟩
/-- A slice as an argument. -/
theorem op_arg_slice {P : Program} {t e : TypeId} {α : Type} {d : Kd α} {G : α → Prop} (ht : P.underlying t = some (.slice e)) (hc : P.cellsOf e = d.sz) (he : Op P e d G)
    {H : Type} {enc : TypeId × Value → H} {W : World} {base : Nat} {spare : Nat → Bool} {held : Bool} {a : Option Addr} {len cap : Nat} {dd : DataW H} {p : List MemPlace} (h : DataW.Trod enc P W base spare held t (.slice a len cap) dd p) :
    ∃ xs, xs.length = len ∧ len ≤ cap ∧ d.C W a xs.length xs ∧ (∀ x ∈ xs, G x) := by
  obtain ⟨fuel, hf⟩ := h
  obtain ⟨xs, ⟨A, c, hcs, hl, hC⟩, hG, _⟩ := op_slice ht hc he H enc W base spare held fuel _ _ hf
  simp only [Value.cells, List.cons.injEq, and_true] at hcs
  injection hcs with h1 h2 h3
  subst h1 h2 h3
  exact ⟨xs, rfl, hl, hC, hG⟩
/-- A struct as an argument: its cells. -/
theorem op_arg_struct {P : Program} {t : TypeId} {α : Type} {d : Kd α} {G : α → Prop} (he : Op P t d G)
    {H : Type} {enc : TypeId × Value → H} {W : World} {base : Nat} {spare : Nat → Bool} {held : Bool} {cs : Array Value} {dd : DataW H} {p : List MemPlace} (h : DataW.Trod enc P W base spare held t (.agg cs) dd p) :
    ∃ a, d.K W a cs.toList ∧ G a := by
  obtain ⟨fuel, hf⟩ := h
  exact he H enc W base spare held fuel _ _ hf
theorem arr_of {cs : Array Value} {l : List Value} (h : cs.toList = l) : cs = l.toArray := by
  cases cs
  simp only at h
  rw [h]
end Go.Proofs.Ytafpaomcmjccaaa.Opens
