/- The first of a kind; those of a kind taken out. -/
import Derived.Test.YtafpaomcmjccaaaDirT
set_option linter.unusedVariables false
set_option linter.unusedSimpArgs false
namespace Go.Proofs.Ytafpaomcmjccaaa.Dir
open Go.RowKit Go.Proofs.Ytafpaomcmjccaaa.G Go.Proofs.YtafpaomcmjccaaaW.PrintWords Go.Proofs.YtafpaomcmjccaaaW.PrintMore Go.Proofs.Ytafpaomcmjccaaa.Foot

theorem C_four {w : World} {A : Option Addr} {xs : List S55} (h : dE.C w A xs) (hl : xs.length ≤ 100000) (i : Nat) (x : S55) (hx : xs[i]? = some x) : ∃ ad, A = some ad ∧ w.cell? (ad.add (i * 4)) = some (.int .u16 x.f0) ∧ w.cell? ⟨(ad.add (i * 4)).block, (ad.add (i * 4)).off + 1, none⟩ = some (.int .u32 x.f1) ∧ w.cell? ⟨(ad.add (i * 4)).block, (ad.add (i * 4)).off + 2, none⟩ = some (.int .u16 x.f2) ∧ w.cell? ⟨(ad.add (i * 4)).block, (ad.add (i * 4)).off + 3, none⟩ = some (.int .u64 x.f3) := by
  have hi := (List.getElem?_eq_some_iff.1 hx).1
  obtain ⟨ad, hA, h0, h1, h2, h3⟩ := at_T55 (K_of_C h (by omega)) (i : Int) (by omega) (by omega)
  have hr : rd_T55 xs (i : Int) = x := by unfold rd_T55; rw [Int.toNat_natCast, List.getD_eq_getElem?_getD, hx]; rfl
  rw [Int.toNat_natCast, hr] at h0 h1 h2 h3
  exact ⟨ad, hA, h0, h1, h2, h3⟩
/-- How far the first one is. -/
def firstI (p : S55 → Bool) (xs : List S55) : Int := match xs.findIdx? p with
  | some i => (i : Int)
  | none => -1
abbrev delV (a b c : Nat) : Value := .func (.func 43) #[] #[.pointer (some ⟨a, 0, none⟩), .pointer (some ⟨b, 0, none⟩), .pointer (some ⟨c, 0, none⟩)]
theorem findIdx_take (p : S55 → Bool) (xs : List S55) (i : Nat) (x : S55) (hx : xs[i]? = some x) (h : ∀ y ∈ xs.take i, p y = false) (hp : p x = true) : xs.findIdx? p = some i := by
  obtain ⟨hi, rfl⟩ := List.getElem?_eq_some_iff.1 hx
  rw [List.findIdx?_eq_some_iff_getElem]
  refine ⟨hi, hp, fun j hj => ?_⟩
  have := h xs[j] (by rw [List.mem_take_iff_getElem]; exact ⟨j, by omega, rfl⟩)
  rw [this]; decide
set_option maxHeartbeats 2000000 in
set_option maxRecDepth 100000 in
theorem IndexFunc_calls (w : World) (A : Option Addr) (n : Nat) (cp : Nat) (xs : List S55) (hn : xs.length = n) (hC : dE.C w A xs) (hl : n ≤ 100000) (hok : ∀ x ∈ xs, OkE x) (a b c : Nat) (f t u : Int) (hB : Bxs w a b c f t u) (hf : 0 ≤ f ∧ f < 4294967296) (ht : 0 ≤ t ∧ t < 4294967296) :
    Calls Try.prog 53 #[.slice A n cp, delV a b c] w fun e w' => e = .returned (.int .i64 (firstI (elder f t u) xs)) ∧ Below w.heap.size w w' := by
  have HC := Aside0.mk hC
  have HOK := Lib.hid hok
  have HB := Aside0.mk hB
  have HF := Lib.hid hf
  have HT := Lib.hid ht
  have HN := Lib.hid hn
  clear hC hok hB hf ht hn
  go_enter Try.func53, Try.ntmps53
  go_wp2_with fail
  go_loopw [8] (fun v8 wr => ∃ i : Nat, v8 = .int .i64 (i : Int) ∧ i ≤ n ∧ Aside0 (∀ y ∈ xs.take i, elder f t u y = false) ∧ Aside0 (Below w.heap.size w wr)) (fun v8 _ => n - (intOf v8).toNat)
  case atStart => exact ⟨0, rfl, Nat.zero_le _, ⟨fun y hy => by simp at hy⟩, ⟨Below.refl _ _⟩⟩
  case round =>
    obtain ⟨i, rfl, hi, HI, HW⟩ := hrel
    by_cases hlt : i < n
    · have hi0 : (0 : Int) ≤ (i : Int) := by omega
      have hi1 : (i : Int) < (n : Int) := by omega
      obtain ⟨x, hx⟩ : ∃ x, xs[i]? = some x := ⟨_, List.getElem?_eq_getElem (by rw [HN.out]; exact hlt)⟩
      obtain ⟨ad, rfl, h0, h1, h2, h3⟩ := C_four (Fl.C_below HC.out HW.out) (by rw [HN.out]; exact hl) i x hx
      have HX := Lib.hid hx
      have HO := Lib.hid (HOK.out x (List.mem_of_getElem? hx))
      have HTK := Lib.hid (show xs.take (i + 1) = xs.take i ++ [x] by rw [List.take_add_one, hx]; rfl)
      have HB2 := Aside0.mk (HB.out.below HW.out)
      clear hx
      go_wp2_with fail
      with_reducible refine (elder_calls _ a b c f t u x HB2.out HO.out HF.out HT.out).mono ?_
      rintro e w1 ⟨rfl, hb1⟩
      have HW1 := Aside0.mk (HW.out.trans (hb1.mono HW.out.size))
      clear hb1 h0 h1 h2 h3
      obtain ⟨B, hBe⟩ : ∃ B, elder f t u x = B := ⟨_, rfl⟩
      rw [hBe]
      have HBE := Lib.hid hBe
      clear hBe
      cases B with
      | true =>
        have HR := Lib.hid (show firstI (elder f t u) xs = (i : Int) by unfold firstI; rw [findIdx_take _ xs i x HX.out HI.out HBE.out])
        go_wp2
        go_ret
        exact ⟨by rw [HR.out]; rfl, HW1.out⟩
      | false =>
        go_wp2
        go_roundw
        case rel =>
          refine ⟨i + 1, by go_num, by omega, ⟨fun y hy => ?_⟩, HW1⟩
          rw [HTK.out] at hy
          rcases List.mem_append.1 hy with hy | hy
          · exact HI.out y hy
          · rw [List.mem_singleton.1 hy]; exact HBE.out
        case measure => simp [intOf]; omega
    · have hin : i = n := by omega
      have HR := Lib.hid (show firstI (elder f t u) xs = -1 by
        have h := HI.out
        rw [List.take_of_length_le (by rw [HN.out]; omega)] at h
        unfold firstI
        rw [List.findIdx?_eq_none_iff.2 (fun x hx => by rw [h x hx])])
      go_wp2
      go_ret
      exact ⟨by rw [HR.out]; rfl, HW.out⟩

theorem set_four (a b : List Value) (c0 c1 c2 c3 d0 d1 d2 d3 : Value) : (((((a ++ [c0, c1, c2, c3]) ++ b).set a.length d0).set (a.length + 1) d1).set (a.length + 2) d2).set (a.length + 3) d3 = (a ++ [d0, d1, d2, d3]) ++ b := by
  simp [List.set_append]
theorem flat_split (M : List S55) (i : Nat) (y : S55) (h : M[i]? = some y) (x : S55) : dE.flat M = (dE.flat (M.take i) ++ cE y) ++ dE.flat (M.drop (i + 1)) ∧ dE.flat (M.set i x) = (dE.flat (M.take i) ++ cE x) ++ dE.flat (M.drop (i + 1)) := by
  obtain ⟨hi, rfl⟩ := List.getElem?_eq_some_iff.1 h
  constructor
  · conv => lhs; rw [← List.take_append_drop i M, List.drop_eq_getElem_cons hi, Fl.flat_append, Fl.flat_cons, ← List.append_assoc]
    rfl
  · rw [List.set_eq_take_append_cons_drop, if_pos hi, Fl.flat_append, Fl.flat_cons, ← List.append_assoc]
    rfl
theorem BlkT_four {w : World} {g : Nat} {M : List S55} {T : List Value} (h : dE.BlkT 55 w g M T) (i : Nat) (y : S55) (hy : M[i]? = some y) (x : S55) :
    dE.BlkT 55 ((((w.setCell ⟨g, i * 4, none⟩ (.int .u16 x.f0)).setCell ⟨g, i * 4 + 1, none⟩ (.int .u32 x.f1)).setCell ⟨g, i * 4 + 2, none⟩ (.int .u16 x.f2)).setCell ⟨g, i * 4 + 3, none⟩ (.int .u64 x.f3)) g (M.set i x) T := by
  have hi := (List.getElem?_eq_some_iff.1 hy).1
  obtain ⟨e1, e2⟩ := flat_split M i y hy x
  have hl : (dE.flat (M.take i)).length = i * 4 := by rw [Fl.flat_length, List.length_take, Nat.min_eq_left (by omega)]; rfl
  unfold Fl.BlkT at h ⊢
  refine blk_put (blk_put (blk_put (blk_put h (i * 4) _ rfl) (i * 4 + 1) _ rfl) (i * 4 + 2) _ rfl) (i * 4 + 3) _ ?_
  simp only [List.setIfInBounds_toArray]
  rw [e1, e2, ← hl]
  have := set_four (dE.flat (M.take i)) (dE.flat (M.drop (i + 1)) ++ T) (.int .u16 y.f0) (.int .u32 y.f1) (.int .u16 y.f2) (.int .u64 y.f3) (.int .u16 x.f0) (.int .u32 x.f1) (.int .u16 x.f2) (.int .u64 x.f3)
  rw [← List.append_assoc, ← List.append_assoc] at this
  exact congrArg List.toArray this
theorem BlkT_cells {w : World} {g : Nat} {M : List S55} {T : List Value} (h : dE.BlkT 55 w g M T) (i : Nat) (x : S55) (hx : M[i]? = some x) :
    (w.cell? ⟨g, i * 4, none⟩ = some (.int .u16 x.f0) ∧ w.cell? ⟨g, i * 4 + 1, none⟩ = some (.int .u32 x.f1) ∧ w.cell? ⟨g, i * 4 + 2, none⟩ = some (.int .u16 x.f2) ∧ w.cell? ⟨g, i * 4 + 3, none⟩ = some (.int .u64 x.f3)) ∧ ∀ k, w.frozen? ⟨g, k, none⟩ = false := by
  have at_ : ∀ k, k < 4 → w.cell? ⟨g, i * 4 + k, none⟩ = (cE x)[k]? := fun k hk => by
    rw [blk_cell h, List.getElem?_toArray, List.getElem?_append_left (by rw [Fl.flat_length]; have := (List.getElem?_eq_some_iff.1 hx).1; show i * 4 + k < M.length * 4; omega)]
    exact Fl.flat_get (d := dE) M i k x hx hk
  exact ⟨⟨at_ 0 (by omega), at_ 1 (by omega), at_ 2 (by omega), at_ 3 (by omega)⟩, fun k => blk_frozen h k⟩
theorem keeps4 {F : Nat → Prop} {w w1 : World} {g : Nat} (h : Keeps F w w1) (hg : F g) (i : Nat) (c0 c1 c2 c3 : Value) : Keeps F w ((((w1.setCell ⟨g, i * 4, none⟩ c0).setCell ⟨g, i * 4 + 1, none⟩ c1).setCell ⟨g, i * 4 + 2, none⟩ c2).setCell ⟨g, i * 4 + 3, none⟩ c3) :=
  (((h.setCell (p := ⟨g, i * 4, none⟩) (.inl hg) c0).setCell (p := ⟨g, i * 4 + 1, none⟩) (.inl hg) c1).setCell (p := ⟨g, i * 4 + 2, none⟩) (.inl hg) c2).setCell (p := ⟨g, i * 4 + 3, none⟩) (.inl hg) c3
end Go.Proofs.Ytafpaomcmjccaaa.Dir
