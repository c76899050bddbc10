/- Arguments of whatever kind, opened: what reads as data is of a kind (the printed words' kinds), part by part. -/
import Derived.Test.YtjliebggdphmpaaWWords
import Derived.ProofKit
import Derived.OpenShut
set_option linter.unusedVariables false
set_option linter.unusedSimpArgs false
namespace Go.Proofs.Ytjliebggdphmpaa.Opens
open Go.RowKit Go.Proofs.YtjliebggdphmpaaW.PrintWords

def Op {α : Type} (P : Program) (t : TypeId) (d : Kd α) (G : α → Prop) : Prop :=
  ∀ (H : Type) (enc : TypeId × Value → H) (w : World) (base : Nat) (spare : Nat → Bool) (held : Bool) (fuel : Nat) (cs : List Value) (x : DataW H × List MemPlace),
    DataW.trod enc P w base spare held fuel t cs = some x → ∃ a, d.K w a cs ∧ G a

theorem op_bool {P : Program} {t : TypeId} (ht : P.underlying t = some .bool) : Op P t Kd.bool (fun _ => True) := by
  intro H enc w base spare held fuel cs x h
  obtain ⟨b, rfl, _⟩ := DataW.trod_bool ht h
  exact ⟨b, rfl, trivial⟩
theorem op_string {P : Program} {t : TypeId} (ht : P.underlying t = some .string) : Op P t Kd.string (fun s => s.size ≤ 9223372036854775807) := by
  intro H enc w base spare held fuel cs x h
  obtain ⟨s, rfl, _, hs⟩ := DataW.trod_string ht h
  exact ⟨s, rfl, by simpa [maxLen] using hs⟩

/-- Fields in line. -/
inductive OpF (P : Program) : List Field → Nat → {α : Type} → Kd α → (α → Prop) → Prop
  | last {f : Field} {off : Nat} {α : Type} {d : Kd α} {G : α → Prop} : Op P f.type d G → f.offset = off → P.cellsOf f.type = d.sz → OpF P [f] off d G
  | cons {f : Field} {fs : List Field} {off : Nat} {α β : Type} {d : Kd α} {G : α → Prop} {d' : Kd β} {G' : β → Prop} :
      Op P f.type d G → f.offset = off → P.cellsOf f.type = d.sz → OpF P fs (off + d.sz) d' G' → OpF P (f :: fs) off (Kd.pair d d') (fun x => G x.1 ∧ G' x.2)

theorem OpF.opened {P : Program} {fs : List Field} {off : Nat} {α : Type} {d : Kd α} {G : α → Prop} (h : OpF P fs off d G) :
    ∀ (H : Type) (enc : TypeId × Value → H) (w : World) (base : Nat) (spare : Nat → Bool) (held : Bool) (n : Nat) (cs : List Value) (xs : List (DataW H × List MemPlace)), xs.length = fs.length →
      (∀ (i : Nat) (f : Field), fs[i]? = some f → DataW.trod enc P w base spare held n f.type ((cs.drop f.offset).take (P.cellsOf f.type)) = xs[i]?) →
      ∃ a, d.K w a ((cs.drop off).take d.sz) ∧ G a := by
  induction h with
  | last ho hoff hc =>
    intro H enc w base spare held n cs xs hl hx
    have h0 := hx 0 _ rfl
    obtain ⟨y, hy⟩ : ∃ y, xs[0]? = some y := ⟨xs[0]'(by rw [hl]; simp), List.getElem?_eq_getElem _⟩
    rw [hy, hoff, hc] at h0
    exact ho H enc w base spare held n _ _ h0
  | @cons f fs off α β d G d' G' ho hoff hc hr ih =>
    intro H enc w base spare held n cs xs hl hx
    have h0 := hx 0 _ rfl
    obtain ⟨y, hy⟩ : ∃ y, xs[0]? = some y := ⟨xs[0]'(by rw [hl]; simp), List.getElem?_eq_getElem _⟩
    rw [hy, hoff, hc] at h0
    obtain ⟨a, ha, hG⟩ := ho H enc w base spare held n _ _ h0
    obtain ⟨b, hb, hG'⟩ := ih H enc w base spare held n cs xs.tail (by rw [List.length_tail, hl]; simp) (fun i f hf => by
      have := hx (i + 1) f (by simpa using hf)
      rw [this, List.getElem?_tail])
    refine ⟨(a, b), ⟨_, _, ?_, ha, hb⟩, hG, hG'⟩
    show (cs.drop off).take (d.sz + d'.sz) = _
    rw [List.take_add, List.drop_drop]
theorem op_struct {P : Program} {t : TypeId} {fs : Array Field} {α : Type} {d : Kd α} {G : α → Prop} (ht : P.underlying t = some (.struct fs)) (hc : P.cellsOf t = d.sz) (hF : OpF P fs.toList 0 d G) : Op P t d G := by
  intro H enc w base spare held fuel cs x h
  obtain ⟨xs, n, _, _, hl, hxl, hx⟩ := DataW.trod_struct ht h
  obtain ⟨a, ha, hG⟩ := hF.opened H enc w base spare held n cs xs (by simpa using hxl) (fun i f hf => hx i f (by simpa using hf))
  rw [List.drop_zero, ← hc, ← hl, List.take_length] at ha
  exact ⟨a, ha, hG⟩
/-- A struct as an argument: its cells. -/
theorem op_arg_struct {P : Program} {t : TypeId} {α : Type} {d : Kd α} {G : α → Prop} (he : Op P t d G)
    {H : Type} {enc : TypeId × Value → H} {W : World} {base : Nat} {spare : Nat → Bool} {held : Bool} {cs : Array Value} {dd : DataW H} {p : List MemPlace} (h : DataW.Trod enc P W base spare held t (.agg cs) dd p) :
    ∃ a, d.K W a cs.toList ∧ G a := by
  obtain ⟨fuel, hf⟩ := h
  exact he H enc W base spare held fuel _ _ hf
theorem arr_of {cs : Array Value} {l : List Value} (h : cs.toList = l) : cs = l.toArray := by
  cases cs
  simp only at h
  rw [h]
end Go.Proofs.Ytjliebggdphmpaa.Opens
