/- Plain words for the pure proofs: what is so from some number of rounds on, sums of int that fit, bytes as lists. -/
import Derived.Test.YtafpaomcmjccaaaWWords
set_option linter.unusedVariables false
set_option linter.unusedSimpArgs false
namespace Go.Proofs.Ytafpaomcmjccaaa.Plain
open Go.RowKit Go.Proofs.YtafpaomcmjccaaaW.PrintWords

section
variable {α β : Type} {r : α}
theorem ev_pos {c : Prop} [Decidable c] {a b : Nat → Option α} (h : c) (e : Ev a r) : Ev (fun k => if c then a k else b k) r := Ev.congr (fun _ => if_pos h) e
theorem ev_neg {c : Prop} [Decidable c] {a b : Nat → Option α} (h : ¬ c) (e : Ev b r) : Ev (fun k => if c then a k else b k) r := Ev.congr (fun _ => if_neg h) e
theorem ev_bind {g : Nat → Option β} {f : Nat → β → Option α} {a : β} (h : Ev g a) (k : Ev (fun n => f n a) r) : Ev (fun n => (g n).bind (f n)) r := Ev.bind h k
theorem ev_some {g : Option β} {f : Nat → β → Option α} {a : β} (h : g = some a) (k : Ev (fun n => f n a) r) : Ev (fun n => g.bind (f n)) r := by
  subst h
  exact Ev.congr (fun _ => Option.bind_some _ _) k
theorem ev_ret {a : α} (h : a = r) : Ev (fun _ => some a) r := h ▸ Ev.now a
theorem ev_eq {g : Nat → Option α} {a b : α} (e : Ev g a) (h : a = b) : Ev g b := h ▸ e
end

theorem wrap_nat {n : Int} (h0 : 0 ≤ n) (h : n ≤ 9223372036854775807) : wrap64 n = n := by unfold wrap64; omega
theorem wrap_succ {n : Nat} (h : n < 9223372036854775807) : wrap64 ((n : Int) + 1) = ((n + 1 : Nat) : Int) := by unfold wrap64; omega

theorem bt_nat (s : ByteArray) (n : Nat) : bt s (n : Int) = (bytesOf s).getD n 0 := by rw [← rd_bytesOf]; rfl
theorem bytes_range (s : ByteArray) : ∀ c ∈ bytesOf s, 0 ≤ c ∧ c ≤ 255 := by
  intro c hc
  obtain ⟨b, _, rfl⟩ := List.mem_map.1 hc
  have := b.toNat_lt
  omega
theorem bytes_inj {s t : ByteArray} (h : bytesOf s = bytesOf t) : s = t := by
  have hi : ∀ (l m : List UInt8), (l.map fun b => (b.toNat : Int)) = (m.map fun b => (b.toNat : Int)) → l = m := by
    intro l
    induction l with
    | nil => intro m h; cases m with
      | nil => rfl
      | cons => simp at h
    | cons a l ih => intro m h; cases m with
      | nil => simp at h
      | cons b m =>
        simp only [List.map_cons, List.cons.injEq] at h
        have e : a.toNat = b.toNat := by omega
        rw [UInt8.toNat_inj.1 e, ih m h.2]
  cases s; cases t
  exact congrArg ByteArray.mk (Array.toList_inj.1 (hi _ _ h))
theorem bytes_append (s t : ByteArray) : bytesOf (s ++ t) = bytesOf s ++ bytesOf t := by
  unfold bytesOf
  rw [ByteArray.data_append, Array.toList_append, List.map_append]
theorem bytes_extract (s : ByteArray) (a b : Nat) : bytesOf (s.extract a b) = ((bytesOf s).take b).drop a := by
  unfold bytesOf
  rw [ByteArray.data_extract, Array.toList_extract, List.extract_eq_take_drop, List.map_take, List.map_drop, List.drop_take]
theorem bytes_of_nums {xs : List Int} (h : ∀ c ∈ xs, 0 ≤ c ∧ c ≤ 255) : bytesOf (strOfNums xs) = xs := by
  unfold bytesOf
  rw [strOfNums_data, List.map_map]
  conv => rhs; rw [← List.map_id xs]
  refine List.map_congr_left fun c hc => ?_
  have := h c hc
  simp only [Function.comp, id]
  rw [UInt8.toNat_ofNat']
  omega
theorem size_bytes (s : ByteArray) : s.size = (bytesOf s).length := (bytesOf_length s).symm
theorem drop_cons {α : Type} (l : List α) (d : α) {n : Nat} (h : n < l.length) : l.drop n = l.getD n d :: l.drop (n + 1) := by
  rw [List.drop_eq_getElem_cons h, List.getD_eq_getElem?_getD, List.getElem?_eq_getElem h]; rfl
theorem lit_bytes (a : Array UInt8) : bytesOf ⟨a⟩ = a.toList.map fun b => (b.toNat : Int) := rfl
theorem list_beq (s t : ByteArray) : (s.toList == t.toList) = (bytesOf s == bytesOf t) := by
  have e : ∀ u : ByteArray, u.toList = u.data.toList := fun u => ByteArray.toList_eq u
  by_cases h : s = t
  · subst h; rw [beq_self_eq_true, beq_self_eq_true]
  · have h1 : ¬ bytesOf s = bytesOf t := fun h' => h (bytes_inj h')
    have h2 : ¬ s.toList = t.toList := fun h' => by
      rw [e, e] at h'
      exact h1 (by unfold bytesOf; rw [h'])
    rw [beq_false_of_ne h1, beq_false_of_ne h2]
theorem size_append (a b : ByteArray) : (a ++ b).size = a.size + b.size := by rw [size_bytes, bytes_append, List.length_append, ← size_bytes, ← size_bytes]
end Go.Proofs.Ytafpaomcmjccaaa.Plain
