/- Entries cloned, one taken out, those of a kind taken out. -/
import Derived.Test.YtafpaomcmjccaaaDirI
set_option linter.unusedVariables false
set_option linter.unusedSimpArgs false
namespace Go.Proofs.Ytafpaomcmjccaaa.Dir
open Go.RowKit Go.Proofs.Ytafpaomcmjccaaa.G Go.Proofs.YtafpaomcmjccaaaW.PrintWords Go.Proofs.YtafpaomcmjccaaaW.PrintMore Go.Proofs.Ytafpaomcmjccaaa.Foot

theorem emptyR (w : World) (base : Nat) (hb : base ≤ w.heap.size) : dE.R 55 (w.alloc (.cells #[] 55)) base (.slice (some ⟨w.heap.size, 0, none⟩) 0 0) [] :=
  ⟨rfl, .inr ⟨w.heap.size, 0, #[], rfl, hb, blk_new w _, Nat.le_refl _, by decide, rfl, rfl⟩⟩
set_option maxHeartbeats 1000000 in
theorem Clone_calls (w : World) (ad : Addr) (c : Nat) (xs : List S55) (hC : dE.C w (some ad) xs) (hl : xs.length ≤ 100000) :
    Calls Try.prog 41 #[.slice (some ad) xs.length c] w (RowPost xs w) := by
  have HC := Aside0.mk hC
  have hq := fun W => Lib.run_eql_slice_nil (P := Try.prog) W 45 55 (some ad) xs.length c 0 0 Try.underlying45
  obtain ⟨i0, hi0', hz, hsz, hby⟩ := szE
  obtain ⟨v', w2, hrun, hR2, hg2, hat2⟩ := Fl.run_append (P := Try.prog) (ty := 45) Try.underlying45 hi0' hz hsz hby rfl c (emptyR w w.heap.size (Nat.le_refl _)) (Fl.C_below hC (below_alloc (Below.refl _ _) (.cells #[] 55)))
        (by rw [List.length_nil]; omega) (by rw [List.length_nil]; omega) (by simp)
  have HR2 := Lib.hid hR2
  have HB2 := Lib.hid ((below_alloc (Below.refl _ _) (.cells #[] 55)).grown hg2 (by simp) (fun k hk => by cases hk; exact Nat.le_refl _))
  have HRUN := Lib.hid hrun
  clear hC hrun hR2 hg2 hat2
  go_enter Try.func41, Try.ntmps41
  go_wp2_with (first
    | ((with_reducible refine gate_builtin (b := .append) (xs := #[.tmp 5, .tmp 6]) rfl ?_); at_builtin; refine Fl.wpList_append_run rfl (.tmp 5) (.tmp 6) 45 45 rfl _ _ _ rfl rfl HRUN.out ?_)
    | fail)
  go_ret
  exact ⟨_, rfl, HR2.out, HB2.out⟩
/-- The boxes that a sweep's closure has caught. -/
structure Bxs (w : World) (a b c : Nat) (f t u : Int) : Prop where
  b0 : w.heap[a]? = some (.cells #[.int .u32 f] 37 (0, 0))
  b1 : w.heap[b]? = some (.cells #[.int .u32 t] 37 (0, 0))
  b2 : w.heap[c]? = some (.cells #[.int .u64 u] 38 (0, 0))
theorem Bxs.move {w w' : World} {a b c : Nat} {f t u : Int} (h : Bxs w a b c f t u) (h0 : w'.heap[a]? = w.heap[a]?) (h1 : w'.heap[b]? = w.heap[b]?) (h2 : w'.heap[c]? = w.heap[c]?) : Bxs w' a b c f t u := ⟨h0.trans h.b0, h1.trans h.b1, h2.trans h.b2⟩
theorem Bxs.below {w w' : World} {a b c : Nat} {f t u : Int} (h : Bxs w a b c f t u) (hb : Below w.heap.size w w') : Bxs w' a b c f t u := h.move (hb.block _ (blk_lt h.b0)) (hb.block _ (blk_lt h.b1)) (hb.block _ (blk_lt h.b2))
def elder (f t u : Int) (x : S55) : Bool := decide (f < t) && decide (x.f1 < t) && decide (f < x.f1 + x.f2) && decide (x.f3 < u)
set_option maxHeartbeats 1000000 in
theorem elder_calls (w : World) (a b c : Nat) (f t u : Int) (x : S55) (h : Bxs w a b c f t u) (hx : OkE x) (hf : 0 ≤ f ∧ f < 4294967296) (ht : 0 ≤ t ∧ t < 4294967296) :
    Calls Try.prog 43 #[.agg #[.int .u16 x.f0, .int .u32 x.f1, .int .u16 x.f2, .int .u64 x.f3], .pointer (some ⟨a, 0, none⟩), .pointer (some ⟨b, 0, none⟩), .pointer (some ⟨c, 0, none⟩)] w fun e w' => e = .returned (.bool (elder f t u x)) ∧ Below w.heap.size w w' := by
  obtain ⟨f0, f1, f2, f3⟩ := x
  have hb := h.below (below_alloc (Below.refl _ _) (.cells #[.int .u16 f0, .int .u32 f1, .int .u16 f2, .int .u64 f3] 55))
  have c0 := blk_cell hb.b0 0
  have c1 := blk_cell hb.b1 0
  have c2 := blk_cell hb.b2 0
  have HB := Aside0.mk (below_alloc (Below.refl w.heap.size w) (.cells #[.int .u16 f0, .int .u32 f1, .int .u16 f2, .int .u64 f3] 55))
  obtain ⟨o1, o2, o3, o4, o5, o6, o7, o8⟩ := hx
  simp only at o1 o2 o3 o4 o5 o6 o7 o8
  obtain ⟨f00, f01⟩ := hf
  obtain ⟨t00, t01⟩ := ht
  have HE : Hid (∀ r, (decide (f < t) && decide (f1 < t) && decide (f < f1 + f2) && decide (f3 < u)) = r → elder f t u ⟨f0, f1, f2, f3⟩ = r) := Lib.hid (fun r h => h)
  generalize elder f t u ⟨f0, f1, f2, f3⟩ = R at HE ⊢
  clear h hb
  by_cases h1 : f < t
  · by_cases h2 : f1 < t
    · by_cases h3 : f < f1 + f2
      · by_cases h4 : f3 < u
        · have HR := Lib.hid (HE.out true (by simp [h1, h2, h3, h4]))
          go_enter Try.func43, Try.ntmps43
          go_wp2
          go_ret
          exact ⟨by rw [HR.out]; rfl, HB.out⟩
        · have HR := Lib.hid (HE.out false (by simp [h4]))
          have h4 : decide (f3 < u) = false := decide_eq_false h4
          go_enter Try.func43, Try.ntmps43
          go_wp2
          go_ret
          exact ⟨by rw [HR.out]; rfl, HB.out⟩
      · have HR := Lib.hid (HE.out false (by simp [h3]))
        have h3 : decide (f < f1 + f2) = false := decide_eq_false h3
        go_enter Try.func43, Try.ntmps43
        go_wp2
        go_ret
        exact ⟨by rw [HR.out]; rfl, HB.out⟩
    · have HR := Lib.hid (HE.out false (by simp [h2]))
      have h2 : decide (f1 < t) = false := decide_eq_false h2
      go_enter Try.func43, Try.ntmps43
      go_wp2
      go_ret
      exact ⟨by rw [HR.out]; rfl, HB.out⟩
  · have HR := Lib.hid (HE.out false (by simp [h1]))
    have h1 : decide (f < t) = false := decide_eq_false h1
    go_enter Try.func43, Try.ntmps43
    go_wp2
    go_ret
    exact ⟨by rw [HR.out]; rfl, HB.out⟩
end Go.Proofs.Ytafpaomcmjccaaa.Dir
