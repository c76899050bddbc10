/- Settings are read, line by line. -/
import Derived.Test.YtlpfineihjefcaaDoorConfW
import Derived.Test.YtlpfineihjefcaaDoorBx
import Derived.Test.YtlpfineihjefcaaDoorShelf
import Derived.Test.YtlpfineihjefcaaDoorGx5
import Derived.Tactics
import Derived.Tactics2
import Derived.Defers
import Derived.Recover
import Derived.Laws.Tables
import Derived.Shelf.Strings.SplitCore
set_option linter.unusedVariables false
set_option linter.unusedSimpArgs false
namespace Go.Proofs.YtlpfineihjefcaaDoor.Conf
open Go.RowKit Go.Proofs.YtlpfineihjefcaaDoor.G Go.Proofs.YtlpfineihjefcaaDoorW.PrintWords Go.Proofs.YtlpfineihjefcaaDoorW.PrintMore Go.Proofs.YtlpfineihjefcaaDoor.Foot

section
variable {W w : World} {P R : HP}
/-- What a call does to P, it does beside R: of any ending. -/
theorem Own.frameE [Firm R] (hO : Own W w (star P R)) {Pg : Program} {f : Nat} {args : Array Value} {E : Ending} {Post : HP}
    (h : ∀ F, P w F → (∀ k, F k → W.heap.size ≤ k) → Calls Pg f args w fun e w' => e = E ∧ ∃ F', Post w' F' ∧ (∀ k, F' k → F k ∨ w.heap.size ≤ k) ∧ Keeps F w w') :
    Calls Pg f args w fun e w' => e = E ∧ Own W w' (star Post R) := by
  obtain ⟨_, ⟨F1, F2, rfl, h1, h2, hd⟩, hF, hB⟩ := hO
  refine (h F1 h1 (fun k hk => hF k (.inl hk))).mono ?_
  rintro e w' ⟨rfl, F', hp, hF', hk⟩
  refine ⟨rfl, _, ⟨F', F2, rfl, hp, Firm.move h2 (fun k hk2 => hk.block k (Firm.lt h2 k hk2) (fun hk1 => hd k hk1 hk2)), fun k a b => ?_⟩, ?_, hB.trans (hk.to_below hB.size (fun k hk => hF k (.inl hk)))⟩
  · rcases hF' k a with h | h
    · exact hd k h b
    · have := Firm.lt h2 k b
      omega
  · rintro k (hk' | hk')
    · rcases hF' k hk' with h | h
      · exact hF k (.inl h)
      · exact Nat.le_trans hB.size h
    · exact hF k (.inr hk')
end
/-- The lines of a text. -/
def linesOf (s : ByteArray) : List ByteArray := Lib.splitB ⟨#[10]⟩ 0 (Lib.countB s ⟨#[10]⟩) s
theorem split (s : ByteArray) (w : World) (hs : s.size < 4294967281) :
    Calls Tryd.prog 10 #[.string s, .string ⟨#[10]⟩] w fun e w' => e = .returned (.slice (some ⟨w.heap.size, 0, none⟩) (linesOf s).length (linesOf s).length) ∧ w' = w.alloc (.cells ((linesOf s).map Value.string).toArray 9) := by
  have h1 : 1 ≤ (⟨#[10]⟩ : ByteArray).size := by decide
  have hle := Lib.countB_le ⟨#[10]⟩ h1 s.size s (Nat.le_refl _)
  have hlen : (linesOf s).length = Lib.countB s ⟨#[10]⟩ + 1 := Lib.splitB_all ⟨#[10]⟩ h1 0 _ s rfl
  have hI : ∀ (x : ByteArray) (c : Array Value), x.size ≤ s.size → Calls Tryd.prog 22 #[.string x, .string ⟨#[10]⟩] (w.alloc (.cells c 9)) fun e w' => e = .returned (.int .i64 (Lib.indexB x ⟨#[10]⟩)) ∧ w' = w.alloc (.cells c 9) := fun x c _ =>
    (Tryd.strings_Index_one x 10 _).mono fun e w' ⟨he, hw⟩ => ⟨by rw [he, ← Lib.index_one], hw⟩
  have hC : Calls Tryd.prog 21 #[.string s, .string ⟨#[10]⟩] w fun e w' => e = .returned (.int .i64 (Lib.countB s ⟨#[10]⟩)) ∧ w' = w :=
    (Tryd.strings_Count_one s 10 w).mono fun e w' ⟨he, hw⟩ => ⟨by
      rw [he]
      show _ = Ending.returned (Value.int .i64 ((Lib.count s.data.toList [10] : Nat) : Int))
      rw [Lib.count_one]; rfl, hw⟩
  have c : Calls Tryd.prog 13 #[.string s, .string ⟨#[10]⟩, .int .i64 0, .int .i64 (-1)] w fun e w' => e = .returned (.slice (some ⟨w.heap.size, 0, none⟩) (Lib.splitB ⟨#[10]⟩ 0 (Lib.countB s ⟨#[10]⟩ + 1 - 1) s).length (Lib.countB s ⟨#[10]⟩ + 1)) ∧ w' = w.alloc (.cells (Lib.cellsOf (Lib.splitB ⟨#[10]⟩ 0 (Lib.countB s ⟨#[10]⟩ + 1 - 1) s) (Lib.countB s ⟨#[10]⟩ + 1)) 9) :=
    Any.strings_genSplit_core Tryd.lays221 (by kernel_rfl) s ⟨#[10]⟩ 0 (-1) (Lib.countB s ⟨#[10]⟩ + 1) w hs h1 (Nat.zero_le _) hI hC (by decide) (by decide) (by rw [if_pos (by decide)]; omega)
  rw [Nat.add_sub_cancel] at c
  have e2 : Lib.cellsOf (Lib.splitB ⟨#[10]⟩ 0 (Lib.countB s ⟨#[10]⟩) s) (Lib.countB s ⟨#[10]⟩ + 1) = ((linesOf s).map Value.string).toArray := by rw [← hlen]; exact Lib.cellsOf_full _
  rw [e2] at c
  have C := Lib.hid c
  have HL := Lib.hid hlen
  clear c e2 hI hC hle hlen
  go_enter Tryd.func10, Tryd.ntmps10
  go_wp2_with (go_at_call 13; refine C.out.mono ?_; rintro e w' ⟨rfl, hw⟩; rw [hw])
  go_ret
  exact ⟨congrArg (fun m => Ending.returned (Value.slice (some ⟨w.heap.size, 0, none⟩) (linesOf s).length m)) HL.out.symm, rfl⟩
/-- The lines, one by one: what they come to; or which one is wrong. -/
inductive Run : List ByteArray → Nat → Cf → Option Cf → Nat → Prop
  | done (i : Nat) (c : Cf) : Run [] i c (some c) 0
  | good {l t : ByteArray} {r : List ByteArray} {i : Nat} {c c' : Cf} {res : Option Cf} {n : Nat} (ht : strings_TrimSuffix.f l ⟨#[13]⟩ = some t) (h : Good t c c') (k : Run r (i + 1) c' res n) : Run (l :: r) i c res n
  | bad {l t : ByteArray} {r : List ByteArray} {i : Nat} {c : Cf} (ht : strings_TrimSuffix.f l ⟨#[13]⟩ = some t) (h : Bad t c) : Run (l :: r) i c none (i + 1)
def cf0 : Cf := ⟨[], false, ⟨#[]⟩, 0⟩
def cfD : Cf := ⟨[], true, ⟨#[99, 111, 110, 115, 111, 108, 101]⟩, 100⟩
theorem catch_idle (a b c : Addr) (w : World) :
    CallsD Tryd.prog 9 #[.pointer (some a), .pointer (some b), .pointer (some c)] .returning w fun e u' w' => e = .returned (.tuple #[]) ∧ u' = .returning ∧ w' = w := by
  refine callsD_of_wpS Tryd.func9 rfl fun c₀ cs hu => ?_
  apply wpS_seq
  apply wpS_region
  simp [wpOpsS, go_sem, recoverD, hu, Tryd.ntmps9, Exit.thenS]
  apply wpS_seq
  apply wpS_region
  simp [wpOpsS, go_sem, Exit.thenS]
  refine wpS_cond (t := false) (by simp [Act.eval, Array.replicate]) ?_
  simp only [Bool.false_eq_true, if_false]
  refine wpS_of_wp (wp_skip ?_)
  cases c₀
  simp_all [bodyPostS, results, Tryd.results9]
end Go.Proofs.YtlpfineihjefcaaDoor.Conf
