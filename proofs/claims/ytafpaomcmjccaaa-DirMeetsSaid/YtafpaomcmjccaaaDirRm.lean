/- Entries of keys that meet, in plain Lean; two lists of entries that are the same. -/
import Derived.Test.YtafpaomcmjccaaaDirRx
import Derived.Test.YtafpaomcmjccaaaGx1
set_option linter.unusedVariables false
set_option linter.unusedSimpArgs false
namespace Go.Proofs.Ytafpaomcmjccaaa.Dir
open Go.RowKit Go.Proofs.Ytafpaomcmjccaaa.G Go.Proofs.YtafpaomcmjccaaaW.PrintWords Go.Proofs.YtafpaomcmjccaaaW.PrintMore Go.Proofs.Ytafpaomcmjccaaa.Foot
theorem star_swapF {P Q R : HP} {w : World} {F : Nat → Prop} (h : star P (star Q R) w F) : star Q (star P R) w F := star_assoc (star_mono (fun _ => star_comm) (fun _ h => h) (star_assoc' h))
theorem own_third {W w : World} {A B C R : HP} (h : Foot.Own W w (star A (star B (star C R)))) : Foot.Own W w (star C (star A (star B R))) := (h.map fun _ => star_mono (fun _ h => h) (fun _ => star_swapF)).swap
theorem own_back {W w : World} {V A B C R : HP} (h : Foot.Own W w (star V (star C (star A (star B R))))) : Foot.Own W w (star A (star V (star B (star C R)))) :=
  (h.map fun _ => star_mono (fun _ h => h) (fun _ h => star_mono (fun _ h => h) (fun _ => star_swapF) (star_swapF h))).swap
theorem entries_go (xs : List S55) (hl : xs.length ≤ 1000000) : ∀ (d k : Nat), xs.length = k + d → ambryhelp_Entries.l0 (d + 1) xs xs (k : Int) = some true
  | 0, k, h => by rw [ambryhelp_Entries.l0, if_neg (by omega)]
  | d + 1, k, h => by
    rw [ambryhelp_Entries.l0, if_pos (by omega), if_pos (by omega), if_pos (by omega), if_pos rfl, if_pos rfl, if_pos rfl, if_pos rfl]
    rw [show wrap64 ((k : Int) + 1) = ((k + 1 : Nat) : Int) by unfold wrap64; omega]
    exact entries_go xs hl d (k + 1) (by omega)
theorem entries_same (xs : List S55) (hl : xs.length ≤ 1000000) : ambryhelp_Entries.f (xs.length + 1) xs xs = some true := by
  unfold ambryhelp_Entries.f
  rw [if_pos rfl]
  exact entries_go xs hl xs.length 0 (by omega)
/-- Two rows of the same entries. -/
theorem Entries_own {W w : World} {v1 v2 : Value} {xs : List S55} {R : HP} [Firm R] (h : Foot.Own W w (star (RowH v1 xs) (star (RowH v2 xs) R))) (hl : xs.length ≤ 1000000) :
    Calls Try.prog 23 #[v1, v2] w fun e w' => e = .returned (.bool true) ∧ Foot.Own W w' R := by
  obtain ⟨A1, c1, rfl, h1, hC1⟩ := rowC_own h
  obtain ⟨A2, c2, rfl, h2, hC2⟩ := rowC_own h.swap
  exact (ambryhelp_Entries.calls _ A1 c1 xs A2 c2 xs true w (K_of_C hC1 (by omega)) h1 (K_of_C hC2 (by omega)) h2 (entries_same xs hl)).mono fun e w' ⟨he, hd⟩ => ⟨he, (h.rest.rest).step hd.below⟩
theorem probe_len (t : Int) (xs : List S55) : (probe t xs).length ≤ xs.length := by
  unfold probe
  have := List.length_filter_le (fun x : S55 => x.f0 == t) xs.reverse
  rwa [List.length_reverse] at this
/-- A directory of two buckets; one is empty. -/
structure MeetD (D : Di) : Prop where
  len : D.L.length = 2
  z : D.of (Dir.keyOf 4) = []
theorem meet_ne {D : Di} (h : D.L.length = 2) : D.at_ (Dir.keyOf 4) ≠ D.at_ (Dir.keyOf 3) := by
  unfold Di.at_
  rw [keyOf_num, keyOf_num, h]
  decide
theorem MeetD.lay {D : Di} (h : MeetD D) (xs : List S55) : MeetD (layD D (D.at_ (Dir.keyOf 3)) xs) :=
  ⟨by show (D.L.set _ _).length = 2; rw [List.length_set, h.len], by rw [of_lay_ne _ _ (meet_ne h.len)]; exact h.z⟩
theorem MeetD.ins {D : Di} (h : MeetD D) (x : S55) : MeetD (D.ins (Dir.keyOf 3) x).2 := by
  unfold Di.ins
  split
  · exact h
  · split
    · exact h
    · exact h.lay _
theorem MeetD.del {D : Di} (h : MeetD D) (a : Int) : MeetD (D.del (Dir.keyOf 3) a).2 := by
  unfold Di.del
  split
  · exact h.lay _
  · exact h
theorem meet_new : MeetD (newD 2 16) := ⟨by show (List.replicate (clamp 2 4096) ([] : List S55)).length = 2; rw [List.length_replicate]; decide, newD_of _ _ _⟩
end Go.Proofs.Ytafpaomcmjccaaa.Dir
