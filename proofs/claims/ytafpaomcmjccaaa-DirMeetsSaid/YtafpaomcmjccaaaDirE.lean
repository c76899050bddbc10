/- An entry is taken away. -/
import Derived.Test.YtafpaomcmjccaaaDirP
set_option linter.unusedVariables false
set_option linter.unusedSimpArgs false
namespace Go.Proofs.Ytafpaomcmjccaaa.Dir
open Go.RowKit Go.Shelf Go.Proofs.Ytafpaomcmjccaaa.G Go.Proofs.YtafpaomcmjccaaaW.PrintWords Go.Proofs.YtafpaomcmjccaaaW.PrintMore Go.Proofs.Ytafpaomcmjccaaa.Foot
attribute [local go_sem] Oper.semAt_some

def hit (t a : Int) (x : S55) : Bool := x.f0 == t && x.f1 == a
/-- The last one that is meant. -/
def delIdx (t a : Int) (xs : List S55) : Option Nat := (downs xs.length xs.length).find? fun j : Nat => hit t a (rd_T55 xs (j : Int))
theorem downs_prefix (n k : Nat) (h : k ≤ n) : downs n k <+: downs n n := by
  unfold downs
  exact (List.IsPrefix.map _ ⟨(List.range n).drop k, by rw [show List.range k = (List.range n).take k by rw [List.take_range, Nat.min_eq_left h], List.take_append_drop]⟩)
theorem delIdx_none (t a : Int) (xs : List S55) (h : ∀ j ∈ downs xs.length xs.length, hit t a (rd_T55 xs (j : Int)) = false) : delIdx t a xs = none := by
  unfold delIdx
  rw [List.find?_eq_none]
  intro j hj
  rw [h j hj]; decide
theorem delIdx_some (t a : Int) (xs : List S55) (pre : List Nat) (x k : Nat) (hk : pre ++ [x] = downs xs.length k) (h : ∀ j ∈ pre, hit t a (rd_T55 xs (j : Int)) = false) (hx : hit t a (rd_T55 xs (x : Int)) = true) (hkl : k ≤ xs.length) : delIdx t a xs = some x := by
  obtain ⟨r, hr⟩ := downs_prefix xs.length k hkl
  unfold delIdx
  rw [← hr, ← hk, List.append_assoc, List.find?_append, List.find?_eq_none.2 (fun j hj => by rw [h j hj]; decide), List.find?_append]
  simp [hx]
structure DvI (k : Key) (p q r : Nat) (D : Di) (M : List S55) (H I7 I8 : Nat) (a : Int) (sl : Value) (w W : World) : Prop where
  dir : DirAt W p q r D M
  k0 : W.heap[H]? = some (.cells #[.pointer (some ⟨p, 0, none⟩)] 28 (0, 0))
  k1 : W.heap[H + 1]? = some (.cells k.cells 23 (0, 0))
  k2 : W.heap[H + 2]? = some (.cells #[.int .u32 a] 37 (0, 0))
  k3 : W.heap[H + 3]? = some (.cells #[.bool false] 4 (0, 0))
  k7 : W.heap[I7]? = some (.cells #[.int .i64 (D.at_ k : Int)] 3 (0, 0))
  k8 : W.heap[I8]? = some (.cells #[sl] 45 (0, 0))
  below : Below H w W
section
variable {k : Key} {p q r : Nat} {D : Di} {M : List S55} {H I7 I8 : Nat} {a : Int} {sl : Value} {w W W' : World}
theorem DvI.step (h : DvI k p q r D M H I7 I8 a sl w W) (hb : Below W.heap.size W W') (hH : H ≤ W.heap.size) : DvI k p q r D M H I7 I8 a sl w W' :=
  ⟨h.dir.below hb, blk_below h.k0 hb, blk_below h.k1 hb, blk_below h.k2 hb, blk_below h.k3 hb, blk_below h.k7 hb, blk_below h.k8 hb, h.below.trans (hb.mono hH)⟩
end
abbrev hitF (t a : Int) (xs : List S55) (l : List Nat) : Prop := ∀ j ∈ l, hit t a (rd_T55 xs ((j : Nat) : Int)) = false
def Dv (k : Key) (p q r : Nat) (D : Di) (M : List S55) (H I7 I8 : Nat) (a : Int) (sl : Value) (xs : List S55) (n n0 : Nat) (w : World) (pre : List (Ix n)) (W : World) : Prop :=
  (DvI k p q r D M H I7 I8 a sl w W ∧ n0 ≤ W.heap.size) ∧ hitF k.tag a xs (pre.map (·.1))
def DvX (k : Key) (p q r : Nat) (D : Di) (H : Nat) (a : Int) (xs : List S55) (n n0 : Nat) (w : World) (c : Code) (pre : List (Ix n)) (W : World) : Prop :=
  c = .ret ∧ ∃ (pre' : List (Ix n)) (x : Ix n), pre = pre' ++ [x] ∧ hitF k.tag a xs (pre'.map (·.1)) ∧ hit k.tag a (rd_T55 xs (x.1 : Int)) = true ∧ (∃ M', DirAt W p q r (layD D (D.at_ k) (xs.eraseIdx x.1)) M') ∧ Keeps (fun j => j = q ∨ j = r) w W ∧ W.heap[H + 3]? = some (.cells #[.bool true] 4 (0, 0)) ∧ n0 ≤ W.heap.size
theorem DirAt.own {p q r : Nat} {D : Di} {M : List S55} {B : Nat} {W W' : World} {row : Option Nat} (h : DirAt W p q r D M) (hg : W.grownBy W' row) (hr : ∀ r, row = some r → B ≤ r ∧ ∃ o : Obj, W.heap[r]? = some o ∧ o.isCells = false) : DirAt W' p q r D M :=
  h.move ((cells_own h.box hg hr).trans h.box.symm) ((cells_own h.ents hg hr).trans h.ents.symm) ((cells_own h.nums hg hr).trans h.nums.symm)
theorem Dv_own {k : Key} {p q r : Nat} {D : Di} {M : List S55} {H I7 I8 : Nat} {a : Int} {sl : Value} {xs : List S55} {n n0 : Nat} {w : World} (hw : H ≤ w.heap.size) {B : Nat} (hB : H ≤ B) : OwnFrom B (Dv k p q r D M H I7 I8 a sl xs n n0 w) := by
  rintro pre W W' row ⟨⟨h, hs⟩, hh⟩ hg hr
  exact ⟨⟨⟨h.dir.own hg hr, cells_own h.k0 hg hr, cells_own h.k1 hg hr, cells_own h.k2 hg hr, cells_own h.k3 hg hr, cells_own h.k7 hg hr, cells_own h.k8 hg hr, (ownFrom_below (β := Unit) hw hB) () W W' row h.below hg hr⟩, Nat.le_trans hs hg.size⟩, hh⟩
theorem DvX_own {k : Key} {p q r : Nat} {D : Di} {H : Nat} {a : Int} {xs : List S55} {n n0 : Nat} {w : World} {B : Nat} (hB : w.heap.size ≤ B) (c : Code) : OwnFrom B (DvX k p q r D H a xs n n0 w c) := by
  rintro pre W W' row ⟨hc, pre', x, h1, h2, h3, ⟨M', h4⟩, h5, h6, h7⟩ hg hr
  exact ⟨hc, pre', x, h1, h2, h3, ⟨M', h4.own hg hr⟩, h5.grown hg (fun i hi => .inr (Nat.le_trans hB (hr i hi).1)), cells_own h6 hg hr, Nat.le_trans h7 hg.size⟩
def DS (k : Key) (H Bx : Nat) (y : S55) (a : Int) (w' : World) : Prop := w'.heap[H + 1]? = some (.cells k.cells 23 (0, 0)) ∧ w'.cell? ⟨Bx, 0, none⟩ = some (.int .u16 y.f0) ∧ w'.cell? ⟨Bx, 1, none⟩ = some (.int .u32 y.f1) ∧ w'.cell? ⟨H + 1 + 1, 0, none⟩ = some (.int .u32 a)
theorem DS.below {k : Key} {H Bx : Nat} {y : S55} {a : Int} {W W' : World} (h : DS k H Bx y a W) (hb : Below W.heap.size W W') : DS k H Bx y a W' := ⟨blk_below h.1 hb, pw_cell_below hb h.2.1, pw_cell_below hb h.2.2.1, pw_cell_below hb h.2.2.2⟩
def D7 (p q ii oo ss n H I7 I8 : Nat) (w' : World) : Prop := w'.cell? ⟨H, 0, none⟩ = some (.pointer (some ⟨p, 0, none⟩)) ∧ w'.cell? ⟨I7, 0, none⟩ = some (.int .i64 (ii : Int)) ∧ w'.cell? ⟨I8, 0, none⟩ = some (.slice (some ⟨q, oo, none⟩) n ss)
theorem D7.below {p q ii oo ss n H I7 I8 : Nat} {W W' : World} (h : D7 p q ii oo ss n H I7 I8 W) (hb : Below W.heap.size W W') : D7 p q ii oo ss n H I7 I8 W' := ⟨pw_cell_below hb h.1, pw_cell_below hb h.2.1, pw_cell_below hb h.2.2⟩
theorem cell_same {W W' : World} {g j : Nat} (h : W'.heap[g]? = W.heap[g]?) : W'.cell? ⟨g, j, none⟩ = W.cell? ⟨g, j, none⟩ := by
  unfold World.cell?
  rw [h]
theorem D7.move {p q ii oo ss n H I7 I8 : Nat} {W W' : World} (h : D7 p q ii oo ss n H I7 I8 W) (h0 : W'.heap[H]? = W.heap[H]?) (h1 : W'.heap[I7]? = W.heap[I7]?) (h2 : W'.heap[I8]? = W.heap[I8]?) : D7 p q ii oo ss n H I7 I8 W' :=
  ⟨(cell_same h0).trans h.1, (cell_same h1).trans h.2.1, (cell_same h2).trans h.2.2⟩
/-- A round that goes on. -/
theorem Dv_on {k : Key} {p q r : Nat} {D : Di} {M : List S55} {H I7 I8 : Nat} {a : Int} {sl : Value} {xs : List S55} {n n0 B : Nat} {w : World} {pre : List (Ix n)} {x : Ix n} {W W2 : World} {Ixx : Code → List (Ix n) → World → Prop} (hI : Dv k p q r D M H I7 I8 a sl xs n n0 w pre W) (hH : H ≤ n0)
    (hb : Below W.heap.size W W2) (hx : hit k.tag a (rd_T55 xs (x.1 : Int)) = false) (aa : Act) : ownPostG B (Kc n0 n0) (Dv k p q r D M H I7 I8 a sl xs n n0 w) Ixx (pre ++ [x]) W .normal aa W2 := by
  refine ⟨⟨hb.size, fun j o _ ho _ => (hb.block j (Array.getElem?_eq_some_iff.1 ho).1).trans ho⟩, ⟨hb.size, fun j hj _ => hb.block j (Nat.lt_of_lt_of_le hj hI.1.2)⟩, ⟨hI.1.1.step hb (Nat.le_trans hH hI.1.2), Nat.le_trans hI.1.2 hb.size⟩, fun j hj => ?_⟩
  rw [List.map_append] at hj
  rcases List.mem_append.1 hj with hj | hj
  · exact hI.2 j hj
  · rw [List.map_singleton, List.mem_singleton] at hj
    rw [hj]; exact hx
def DelPost (k : Key) (p q r : Nat) (D : Di) (a : Int) (w : World) (e : Ending) (w' : World) : Prop := match delIdx k.tag a (D.of k) with
  | some j => DirPost p q r (layD D (D.at_ k) ((D.of k).eraseIdx j)) (.bool true) w e w'
  | none => DirPost p q r D (.bool false) w e w'
set_option maxHeartbeats 4000000 in
set_option maxRecDepth 100000 in
theorem Delete_calls (w : World) (p q r : Nat) (D : Di) (M : List S55) (h : DirAt w p q r D M) (k : Key) (a : Int) :
    Calls Try.prog 19 #[.pointer (some ⟨p, 0, none⟩), .agg k.cells, .int .u32 a] w (DelPost k p q r D a w) := by
  refine (callsIn_wide (n := 6)).1 ?_
  obtain ⟨H, hH⟩ : ∃ H, w.heap.size = H := ⟨_, rfl⟩
  let a0 := w.alloc (.cells #[.pointer (some ⟨p, 0, none⟩)] 28)
  let a1 := a0.alloc (.cells k.cells 23)
  let a2 := a1.alloc (.cells #[.int .u32 a] 37)
  let a3 := a2.alloc (.cells #[.bool false] 4)
  have z0 : a0.heap.size = H + 1 := by show (w.alloc _).heap.size = _; rw [World.size_alloc, hH]
  have z1 : a1.heap.size = H + 2 := by show (a0.alloc _).heap.size = _; rw [World.size_alloc, z0]
  have z2 : a2.heap.size = H + 3 := by show (a1.alloc _).heap.size = _; rw [World.size_alloc, z1]
  have z3 : a3.heap.size = H + 4 := by show (a2.alloc _).heap.size = _; rw [World.size_alloc, z2]
  have b0 : a3.heap[H]? = some (.cells #[.pointer (some ⟨p, 0, none⟩)] 28 (0, 0)) := blk_alloc (blk_alloc (blk_alloc (by have := blk_new w (.cells #[.pointer (some ⟨p, 0, none⟩)] 28); rw [hH] at this; exact this) _) _) _
  have b1 : a3.heap[H + 1]? = some (.cells k.cells 23 (0, 0)) := blk_alloc (blk_alloc (by have := blk_new a0 (.cells k.cells 23); rw [z0] at this; exact this) _) _
  have b2 : a3.heap[H + 2]? = some (.cells #[.int .u32 a] 37 (0, 0)) := blk_alloc (by have := blk_new a1 (.cells #[.int .u32 a] 37); rw [z1] at this; exact this) _
  have b3 : a3.heap[H + 3]? = some (.cells #[.bool false] 4 (0, 0)) := by have := blk_new a2 (.cells #[.bool false] 4); rw [z2] at this; exact this
  have bb : Below H w a3 := by rw [← hH]; exact below_alloc (below_alloc (below_alloc (below_alloc (Below.refl w.heap.size w) _) _) _) _
  have HD := Aside0.mk (h.below (by rw [← hH] at bb; exact bb))
  have B0 := Aside0.mk b0
  have B1 := Aside0.mk b1
  have B2 := Aside0.mk b2
  have B3 := Aside0.mk b3
  have BB := Aside0.mk bb
  have hie := h.ok.at_eq k
  have hoe := h.ok.of_eq k
  have hbn := h.ok.fit _ (List.mem_of_getElem? hoe)
  have hs2 := h.ok.s2
  have HPQ := Lib.hid (show p < H ∧ q < H ∧ r < H by rw [← hH]; exact ⟨blk_lt h.box, blk_lt h.ents, blk_lt h.nums⟩)
  have HIE := Lib.hid hie
  have HOE := Lib.hid hoe
  have HZ3 := Lib.hid z3
  have HH := Lib.hid hH
  have ha3 : (((w.alloc (.cells #[.pointer (some ⟨p, 0, none⟩)] 28)).alloc (.cells k.cells 23)).alloc (.cells #[.int .u32 a] 37)).alloc (.cells #[.bool false] 4) = a3 := rfl
  clear_value a3
  have HA3 := Lib.hid ha3
  clear h b0 b1 b2 b3 bb hie hoe z0 z1 z2 z3 hH ha3 a2 a1 a0
  refine callsIn_of_wp_marks Try.func19 rfl trivial ?_ rfl
  simp only [Try.ntmps19, List.size_toArray, List.length_cons, List.length_nil, Nat.reduceAdd, Nat.reduceSub, Array.replicate_succ, Array.replicate_zero, List.push_toArray, List.append_toArray, List.nil_append, List.cons_append]
  gi_wp2_with (first | (refine wpListIn_load_key k (w.heap.size + 1) (by rw [HH.out, HA3.out]; exact B1.out) rfl (.tmp 4) rfl rfl ?_) | fail)
  refine ⟨trivial, ?_⟩
  rw [HA3.out, HH.out]
  refine CallsIn.mono (callsIn_wide.2 (Bucket_calls k _ p D.L.length _ _ HD.out.c2 HD.out.ok.b1 HD.out.ok.b2)) ?_
  rintro e w1 ⟨rfl, hB⟩
  rw [HIE.out]
  have HD1 := Aside0.mk (HD.out.below hB)
  have C0 := Aside0.mk (blk_below B0.out hB)
  have C1 := Aside0.mk (blk_below B1.out hB)
  have C2 := Aside0.mk (blk_below B2.out hB)
  have C3 := Aside0.mk (blk_below B3.out hB)
  have CB := Aside0.mk (BB.out.trans (hB.mono (by rw [HZ3.out]; omega)))
  have hz1 : H + 4 ≤ w1.heap.size := by rw [← HZ3.out]; exact hB.size
  have HZ1 := Lib.hid hz1
  clear hB HD B0 B1 B2 B3 BB hz1 HZ3 HA3
  have hx := below_alloc (Below.refl w1.heap.size w1) (.cells #[.int .i64 (D.at_ k : Int)] 3)
  have h7 := blk_new w1 (.cells #[.int .i64 (D.at_ k : Int)] 3)
  have hs7 : (w1.alloc (.cells #[.int .i64 (D.at_ k : Int)] 3)).heap.size = w1.heap.size + 1 := World.size_alloc _ _
  have HD1 := Aside0.mk (HD1.out.below hx)
  have C0 := Aside0.mk (blk_below C0.out hx)
  have C1 := Aside0.mk (blk_below C1.out hx)
  have C2 := Aside0.mk (blk_below C2.out hx)
  have C3 := Aside0.mk (blk_below C3.out hx)
  have CB := Aside0.mk (CB.out.trans (hx.mono (by have := HZ1.out; omega)))
  have C7 := Aside0.mk h7
  have HS7 := Lib.hid hs7
  have c0 : (w1.alloc (.cells #[.int .i64 (D.at_ k : Int)] 3)).cell? ⟨H, 0, none⟩ = some (.pointer (some ⟨p, 0, none⟩)) := blk_cell C0.out 0
  clear hx h7 hs7
  gi_wp2
  refine ⟨trivial, ?_⟩
  generalize w1.alloc (.cells #[.int .i64 (D.at_ k : Int)] 3) = w2 at HD1 C0 C1 C2 C3 CB C7 HS7 c0 ⊢
  obtain ⟨I7, hI7⟩ : ∃ I7, w1.heap.size = I7 := ⟨_, rfl⟩
  rw [hI7] at C7 HS7 HZ1 ⊢
  clear hI7 c0
  refine CallsIn.mono (callsIn_wide.2 (bucket_calls w2 p q r D M HD1.out (D.at_ k) (D.of k) HOE.out)) ?_
  rintro e w3 ⟨rfl, hB⟩
  have hz3 : I7 + 1 ≤ w3.heap.size := by rw [← HS7.out]; exact hB.size
  have HC3 := Aside0.mk (Fl.C_below (HD1.out.bucketC HOE.out) hB)
  have hx := hB.trans ((below_alloc (Below.refl w3.heap.size w3) (.cells #[.slice (some ⟨q, D.at_ k * D.s * 4, none⟩) (D.of k).length D.s] 45)).mono hB.size)
  have h8 := blk_new w3 (.cells #[.slice (some ⟨q, D.at_ k * D.s * 4, none⟩) (D.of k).length D.s] 45)
  have hs8 : (w3.alloc (.cells #[.slice (some ⟨q, D.at_ k * D.s * 4, none⟩) (D.of k).length D.s] 45)).heap.size = w3.heap.size + 1 := World.size_alloc _ _
  have HC4 := Aside0.mk (Fl.C_below HC3.out (below_alloc (Below.refl w3.heap.size w3) (.cells #[.slice (some ⟨q, D.at_ k * D.s * 4, none⟩) (D.of k).length D.s] 45)))
  have HD2 := Aside0.mk (HD1.out.below hx)
  have E0 := Aside0.mk (blk_below C0.out hx)
  have E1 := Aside0.mk (blk_below C1.out hx)
  have E2 := Aside0.mk (blk_below C2.out hx)
  have E3 := Aside0.mk (blk_below C3.out hx)
  have EB := Aside0.mk (CB.out.trans (hx.mono (by have := HZ1.out; have := HS7.out; omega)))
  have E7 := Aside0.mk (blk_below C7.out hx)
  have E8 := Aside0.mk h8
  have HS8 := Lib.hid hs8
  have HZ3 := Lib.hid hz3
  clear hB hx h8 hs8 hz3 HD1 C0 C1 C2 C3 CB C7 HC3 HS7
  gi_wp2
  refine ⟨trivial, ?_⟩
  refine CallsIn.mono (callsIn_wide.2 (Backward_calls _ _ ⟨_, _, _, rfl⟩)) ?_
  rintro e w5 ⟨rfl, hw5⟩
  gi_wp2
  have hx := below_alloc (Below.refl (w3.alloc (.cells #[.slice (some ⟨q, D.at_ k * D.s * 4, none⟩) (D.of k).length D.s] 45)).heap.size (w3.alloc (.cells #[.slice (some ⟨q, D.at_ k * D.s * 4, none⟩) (D.of k).length D.s] 45))) (.cells #[.slice (some ⟨q, D.at_ k * D.s * 4, none⟩) (D.of k).length D.s] 45)
  have hb9 := blk_new (w3.alloc (.cells #[.slice (some ⟨q, D.at_ k * D.s * 4, none⟩) (D.of k).length D.s] 45)) (.cells #[.slice (some ⟨q, D.at_ k * D.s * 4, none⟩) (D.of k).length D.s] 45)
  have hs9 : ((w3.alloc (.cells #[.slice (some ⟨q, D.at_ k * D.s * 4, none⟩) (D.of k).length D.s] 45)).alloc (.cells #[.slice (some ⟨q, D.at_ k * D.s * 4, none⟩) (D.of k).length D.s] 45)).heap.size = w3.heap.size + 1 + 1 := by rw [World.size_alloc, World.size_alloc]
  rw [HS8.out] at hb9
  obtain ⟨I8, hI8⟩ : ∃ I8, w3.heap.size = I8 := ⟨_, rfl⟩
  have hz3 := HZ3.out
  have hz1 := HZ1.out
  have e8 := E8.out
  rw [hI8] at hb9 hs9 hz3 e8
  have hHn : H ≤ (w3.alloc (.cells #[.slice (some ⟨q, D.at_ k * D.s * 4, none⟩) (D.of k).length D.s] 45)).heap.size := by rw [HS8.out, hI8]; omega
  have HDV := Aside0.mk (show DvI k p q r D M H I7 I8 a (.slice (some ⟨q, D.at_ k * D.s * 4, none⟩) (D.of k).length D.s) w _ from (⟨HD2.out, E0.out, E1.out, E2.out, E3.out, E7.out, e8, EB.out⟩ : DvI k p q r D M H I7 I8 a (.slice (some ⟨q, D.at_ k * D.s * 4, none⟩) (D.of k).length D.s) w _).step hx hHn)
  have HC5 := Aside0.mk (Fl.C_below HC4.out hx)
  have H9 := Aside0.mk hb9
  have HS := Lib.hid hs9
  have HZ := Lib.hid (show H + 4 ≤ I7 ∧ I7 + 1 ≤ I8 from ⟨hz1, hz3⟩)
  rw [hI8]
  clear hx hb9 hs9 hI8 hz3 hz1 e8 hHn HD2 E0 E1 E2 E3 E7 E8 EB HC4 HS8 HZ3 HZ1 hw5
  generalize (w3.alloc (.cells #[.slice (some ⟨q, D.at_ k * D.s * 4, none⟩) (D.of k).length D.s] 45)).alloc (.cells #[.slice (some ⟨q, D.at_ k * D.s * 4, none⟩) (D.of k).length D.s] 45) = a5 at HDV HC5 H9 HS ⊢
  have HLE := Lib.hid (show (D.of k).length ≤ 16 by omega)
  obtain ⟨xs, hxs⟩ : ∃ xs, D.of k = xs := ⟨_, rfl⟩
  have hbn2 := hbn
  rw [hxs] at HDV HC5 H9 HLE hbn2 ⊢
  have HXS := Lib.hid hxs
  have HBN := Lib.hid hbn2
  clear hxs hbn hbn2
  obtain ⟨oo, hoo⟩ : ∃ oo, D.at_ k * D.s * 4 = oo := ⟨_, rfl⟩
  rw [hoo] at HDV HC5 H9 ⊢
  have HOO := Lib.hid hoo
  clear hoo
  obtain ⟨ss, hss⟩ : ∃ ss, D.s = ss := ⟨_, rfl⟩
  rw [hss] at HDV H9 ⊢
  clear hss
  obtain ⟨ii, hii⟩ : ∃ ii, D.at_ k = ii := ⟨_, rfl⟩
  have HII := Lib.hid hii
  rw [hii]
  clear hii
  have hsle : xs.length ≤ 16 := HLE.out
  have hzz := HZ.out
  refine wpIn_rangeFunc_ownH (w0 := a5) rfl (by decide) (gf := 52) (lb := #[.pointer (some ⟨I8 + 1, 0, none⟩)]) rfl trivial (enters_of Try.func52 (by kernel_rfl) rfl)
    (back_stops (I8 + 1 + 1) (I8 + 1) (I8 + 1 + 1) (some ⟨q, oo, none⟩) xs.length ss xs rfl (by omega) (by omega) (by omega) (fun ad e => by cases e; have := HPQ.out; exact ⟨show q < I8 + 1 + 1 by omega, show q ≠ I8 + 1 + 1 by omega⟩) a5 (Nat.le_of_eq HS.out.symm) H9.out HC5.out) kc_t (kc_b (Nat.le_of_eq HS.out.symm)) (Below.refl _ _) (fun _ => rfl)
    (Dv k p q r D M H I7 I8 a (.slice (some ⟨q, oo, none⟩) xs.length ss) xs xs.length (I8 + 1 + 1) w) (DvX k p q r D H a xs xs.length (I8 + 1 + 1) w) (Dv_own (Nat.le_of_eq HH.out.symm) (by rw [HS.out]; omega)) (fun c => DvX_own (by rw [HS.out, HH.out]; omega) c)
    ⟨⟨HDV.out, Nat.le_of_eq HS.out.symm⟩, fun j hj => by cases hj⟩
    (PAx (I8 + 1 + 1) (fun x Bx => #[.pointer (some ⟨p, 0, none⟩), .agg k.cells, .int .u32 a, .pointer (some ⟨H, 0, none⟩), .pointer (some ⟨H + 1, 0, none⟩), .pointer (some ⟨H + 1 + 1, 0, none⟩), .pointer (some ⟨H + 1 + 1 + 1, 0, none⟩), .pointer (some ⟨I7, 0, none⟩), .pointer (some ⟨I8, 0, none⟩), .int .i64 (x : Int), .pointer (some ⟨Bx, 0, none⟩), .pointer (some ⟨p, 0, none⟩), .agg k.cells, .int .i64 (ii : Int), .pointer (some ⟨p, 0, none⟩), .int .i64 (ii : Int), .slice (some ⟨q, oo, none⟩) xs.length ss, .slice (some ⟨q, oo, none⟩) xs.length ss, .func (.func 52) #[] #[.pointer (some ⟨I8 + 1, 0, none⟩)], .int .i64 (x : Int), entV xs x, undef, undef, undef, undef, undef, undef, undef, undef, undef, undef, undef, undef, undef, undef, undef, undef, undef, undef, undef, undef]) xs xs.length)
    (PAx_own _ _ _ _ _) ?assign ?body ?done ?stop
  case assign =>
    intro l pre x W K hI hK
    have HKK := Lib.hid hK
    have HI := Aside0.mk hI
    clear hK hI
    unfold entV
    generalize hxx : rd_T55 xs (x.1 : Int) = y
    gi_wp2
    refine HKK.out _ _ ((KeepsOthers.alloc _ _).from _) ⟨by simp, fun k hk _ => Below.heap_alloc W _ k (by have := HI.out.1.2; omega)⟩ ((Dv_own (Nat.le_of_eq HH.out.symm) (B := H) (Nat.le_refl _)).alloc _ HI.out) ⟨W.heap.size, HI.out.1.2, ?_, ?_⟩
    · rw [hxx]; exact blk_new W _
    · rw [← hxx]; rfl
  case body =>
    rintro l pre x a' W hl _ hI ⟨Bx, hBx, hbx, rfl⟩ hpl
    have HI := Aside0.mk hI
    have HBX := Lib.hid hBx
    obtain ⟨y, hy⟩ : ∃ y, rd_T55 xs (x.1 : Int) = y := ⟨_, rfl⟩
    rw [hy] at hbx
    have HX := Aside0.mk hbx
    have HY := Lib.hid hy
    have hds : DS k H Bx y a W.drew := ⟨hI.1.1.k1, blk_cell hbx 0, blk_cell hbx 1, blk_cell hI.1.1.k2 0⟩
    have HB1 := Aside0.mk (below_drew (Below.refl W.heap.size W))
    generalize hev : entV xs x.1 = ev
    clear hI hbx hBx hpl hl hy hev
    have hCW : ∀ W : World, Dv k p q r D M H I7 I8 a (.slice (some ⟨q, oo, none⟩) xs.length ss) xs xs.length (I8 + 1 + 1) w pre W → dE.C W (some ⟨q, oo, none⟩) xs := fun W h => by
      have := h.1.1.dir.bucketC HOE.out
      rw [HXS.out, HOO.out] at this
      exact this
    gi_wp2
    by_cases h25 : y.f0 = k.tag
    · by_cases h30 : y.f1 = a
      · have HHIT := Lib.hid (show hit k.tag a y = true by unfold hit; rw [h25, h30]; simp)
        have q25 : (y.f0 == k.tag) = true := beq_iff_eq.2 h25
        have q30 : (y.f1 == a) = true := beq_iff_eq.2 h30
        clear h25 h30
        --REGION-C
        refine OrdE.beginR (DS k H Bx y a) (fun _ => true) (by kernel_rfl) (by kernel_rfl) (fun ⟨_, _, h⟩ => h) ?_
        generalize W.drew = W1 at hds HB1 ⊢
        refine OrdE.takeK (i := 0) (oi := { dst := some 21, op := Go.Op.fieldAddr 55 (Go.Operand.tmp 10) 0, type := 0, pos := "dir.go:82", after := #[], guard := none }) (v := (.pointer (some ⟨Bx, 0, none⟩))) rfl (by kernel_rfl) (by kernel_rfl) (by kernel_rfl) (by kernel_rfl) (fun _ _ _ h => h) (by rfl) ?_ (hds) ?_
        · intro w hS; have hx0 := hS; go_simp
        try simp only [Act.put, List.setIfInBounds_toArray, List.set_cons_zero, List.set_cons_succ]
        refine OrdE.takeK (i := 1) (oi := { dst := some 22, op := Go.Op.load 26 (Go.Operand.tmp 21), type := 26, pos := "dir.go:82", after := #[{ on := 0, ground := Go.Ground.data }], guard := none }) (v := (.int .u16 y.f0)) rfl (by kernel_rfl) (by kernel_rfl) (by kernel_rfl) (by kernel_rfl) (fun _ _ _ h => h) (by rfl) ?_ (hds) ?_
        · intro w hS; have hx0 := hS; obtain ⟨_, hx0, hx1, hx2⟩ := hS; go_simp
        try simp only [Act.put, List.setIfInBounds_toArray, List.set_cons_zero, List.set_cons_succ]
        refine OrdE.takeK (i := 2) (oi := { dst := some 23, op := Go.Op.load 23 (Go.Operand.tmp 4), type := 23, pos := "dir.go:82", after := #[], guard := none }) (v := (.agg k.cells)) rfl (by kernel_rfl) (by kernel_rfl) (by kernel_rfl) (by kernel_rfl) (fun _ _ _ h => h) (by rfl) ?_ (hds) ?_
        · intro w hS; have hx0 := hS; exact exec_load_key k (H + 1) hS.1 (.tmp 4) rfl rfl
        try simp only [Act.put, List.setIfInBounds_toArray, List.set_cons_zero, List.set_cons_succ]
        refine OrdE.oneE (i := 3) (o := { dst := some 24, op := Go.Op.call { callee := Go.Callee.value (Go.Operand.func 11), args := #[Go.Operand.tmp 23], argTypes := #[23] }, type := 26, pos := "dir.go:82", after := #[{ on := 2, ground := Go.Ground.data }], guard := none }) (by kernel_rfl) rfl (fun K hK => ?_)
        go_simp
        with_reducible refine (Tag_calls k _).mono ?_
        rintro e W2 ⟨rfl, hB⟩
        have HB2 := Aside0.mk (HB1.out.trans (hB.mono HB1.out.size))
        have hds2 := hds.below hB
        clear hB HB1 hds
        refine hK.out _ _ (fun _ => hds2) ?_
        clear hK K
        try simp only [Act.put, List.setIfInBounds_toArray, List.set_cons_zero, List.set_cons_succ]
        refine OrdE.takeK (i := 4) (oi := { dst := some 25, op := Go.Op.binOp Go.BinOp.eql 26 (Go.Operand.tmp 22) (Go.Operand.tmp 24) 26, type := 4, pos := "dir.go:82", after := #[{ on := 1, ground := Go.Ground.data }, { on := 3, ground := Go.Ground.data }], guard := none }) (v := (.bool true)) rfl (by kernel_rfl) (by kernel_rfl) (by kernel_rfl) (by kernel_rfl) (fun _ _ _ h => h) (by rfl) ?_ (hds2) ?_
        · intro w hS; have hx0 := hS; go_simp
        try simp only [Act.put, List.setIfInBounds_toArray, List.set_cons_zero, List.set_cons_succ]
        refine OrdE.takeK (i := 5) (oi := { dst := some 26, op := Go.Op.move (Go.Operand.tmp 25), type := 4, pos := "dir.go:82", after := #[{ on := 4, ground := Go.Ground.data }, { on := 3, ground := Go.Ground.chain }], guard := none }) (v := (.bool true)) rfl (by kernel_rfl) (by kernel_rfl) (by kernel_rfl) (by kernel_rfl) (fun _ _ _ h => h) (by rfl) ?_ (hds2) ?_
        · intro w hS; have hx0 := hS; go_simp
        try simp only [Act.put, List.setIfInBounds_toArray, List.set_cons_zero, List.set_cons_succ]
        refine OrdE.takeK (i := 6) (oi := { dst := some 27, op := Go.Op.fieldAddr 55 (Go.Operand.tmp 10) 1, type := 0, pos := "dir.go:82", after := #[{ on := 5, ground := Go.Ground.guard }], guard := some (5, true) }) (v := (.pointer (some ⟨Bx, 1, none⟩))) rfl (by kernel_rfl) (by kernel_rfl) (by kernel_rfl) (by kernel_rfl) (fun _ _ _ h => h) (by rfl) ?_ (hds2) ?_
        · intro w hS; have hx0 := hS; go_simp
        try simp only [Act.put, List.setIfInBounds_toArray, List.set_cons_zero, List.set_cons_succ]
        refine OrdE.takeK (i := 7) (oi := { dst := some 28, op := Go.Op.load 37 (Go.Operand.tmp 27), type := 37, pos := "dir.go:82", after := #[{ on := 6, ground := Go.Ground.data }, { on := 5, ground := Go.Ground.guard }], guard := some (5, true) }) (v := (.int .u32 y.f1)) rfl (by kernel_rfl) (by kernel_rfl) (by kernel_rfl) (by kernel_rfl) (fun _ _ _ h => h) (by rfl) ?_ (hds2) ?_
        · intro w hS; have hx0 := hS; obtain ⟨_, hx0, hx1, hx2⟩ := hS; go_simp
        try simp only [Act.put, List.setIfInBounds_toArray, List.set_cons_zero, List.set_cons_succ]
        refine OrdE.takeK (i := 8) (oi := { dst := some 29, op := Go.Op.load 37 (Go.Operand.tmp 5), type := 37, pos := "dir.go:82", after := #[{ on := 5, ground := Go.Ground.guard }], guard := some (5, true) }) (v := (.int .u32 a)) rfl (by kernel_rfl) (by kernel_rfl) (by kernel_rfl) (by kernel_rfl) (fun _ _ _ h => h) (by rfl) ?_ (hds2) ?_
        · intro w hS; have hx0 := hS; obtain ⟨_, hx0, hx1, hx2⟩ := hS; go_simp
        try simp only [Act.put, List.setIfInBounds_toArray, List.set_cons_zero, List.set_cons_succ]
        refine OrdE.takeK (i := 9) (oi := { dst := some 30, op := Go.Op.binOp Go.BinOp.eql 37 (Go.Operand.tmp 28) (Go.Operand.tmp 29) 37, type := 4, pos := "dir.go:82", after := #[{ on := 7, ground := Go.Ground.data }, { on := 8, ground := Go.Ground.data }, { on := 5, ground := Go.Ground.guard }], guard := some (5, true) }) (v := (.bool true)) rfl (by kernel_rfl) (by kernel_rfl) (by kernel_rfl) (by kernel_rfl) (fun _ _ _ h => h) (by rfl) ?_ (hds2) ?_
        · intro w hS; have hx0 := hS; go_simp
        try simp only [Act.put, List.setIfInBounds_toArray, List.set_cons_zero, List.set_cons_succ]
        refine OrdE.takeK (i := 10) (oi := { dst := some 31, op := Go.Op.pick (Go.Operand.tmp 26) (Go.Operand.tmp 30) (Go.Operand.const (Go.Value.bool false)), type := 4, pos := "dir.go:82", after := #[{ on := 5, ground := Go.Ground.data }, { on := 9, ground := Go.Ground.data }], guard := none }) (v := (.bool true)) rfl (by kernel_rfl) (by kernel_rfl) (by kernel_rfl) (by kernel_rfl) (fun _ _ _ h => h) (by rfl) ?_ (hds2) ?_
        · intro w hS; have hx0 := hS; go_simp
        try simp only [Act.put, List.setIfInBounds_toArray, List.set_cons_zero, List.set_cons_succ]
        refine OrdE.doneE (by kernel_rfl) ?_ _
        have hdi := HI.out.1.1.step HB2.out (by have := HI.out.1.2; omega)
        have hc7 := hdi.k7
        rw [HII.out] at hc7
        have HDI := Aside0.mk hdi
        have hs7 : (W2.drew.cell? ⟨H, 0, none⟩ = some (.pointer (some ⟨p, 0, none⟩)) ∧ W2.drew.cell? ⟨I7, 0, none⟩ = some (.int .i64 (ii : Int)) ∧ W2.drew.cell? ⟨I8, 0, none⟩ = some (.slice (some ⟨q, oo, none⟩) xs.length ss)) := ⟨blk_cell hdi.k0 0, blk_cell hc7 0, blk_cell hdi.k8 0⟩
        clear hdi hc7 hds2
        gi_wp2
        refine OrdE.beginR (D7 p q ii oo ss xs.length H I7 I8) (fun _ => true) (by kernel_rfl) (by kernel_rfl) (fun ⟨_, _, h⟩ => h) ?_
        have HB3 := Aside0.mk (HB2.out.trans ((below_drew (Below.refl W2.heap.size W2)).mono HB2.out.size))
        have hd7 : D7 p q ii oo ss xs.length H I7 I8 W2.drew := hs7
        generalize W2.drew = W3 at hd7 HB3 ⊢
        have hxw : IntKind.i64.wrap ((x.1 : Int) + 1) = (x.1 : Int) + 1 := by rw [IntKind.wrap_i64]; have := x.2; omega
        clear hs7
        refine OrdE.takeK (i := 0) (oi := { dst := some 32, op := Go.Op.load 28 (Go.Operand.tmp 3), type := 28, pos := "dir.go:83", after := #[], guard := none }) (v := (.pointer (some ⟨p, 0, none⟩))) rfl (by kernel_rfl) (by kernel_rfl) (by kernel_rfl) (by kernel_rfl) (fun _ _ _ h => h) (by rfl) ?_ (hd7) ?_
        · intro w hS; have hx0 := hS; obtain ⟨hx0, hx1, hx2⟩ := hS; go_simp
        try simp only [Act.put, List.setIfInBounds_toArray, List.set_cons_zero, List.set_cons_succ]
        refine OrdE.takeK (i := 1) (oi := { dst := some 33, op := Go.Op.load 3 (Go.Operand.tmp 7), type := 3, pos := "dir.go:83", after := #[], guard := none }) (v := (.int .i64 (ii : Int))) rfl (by kernel_rfl) (by kernel_rfl) (by kernel_rfl) (by kernel_rfl) (fun _ _ _ h => h) (by rfl) ?_ (hd7) ?_
        · intro w hS; have hx0 := hS; obtain ⟨hx0, hx1, hx2⟩ := hS; go_simp
        try simp only [Act.put, List.setIfInBounds_toArray, List.set_cons_zero, List.set_cons_succ]
        refine OrdE.takeK (i := 2) (oi := { dst := some 34, op := Go.Op.load 45 (Go.Operand.tmp 8), type := 45, pos := "dir.go:83", after := #[], guard := none }) (v := (.slice (some ⟨q, oo, none⟩) xs.length ss)) rfl (by kernel_rfl) (by kernel_rfl) (by kernel_rfl) (by kernel_rfl) (fun _ _ _ h => h) (by rfl) ?_ (hd7) ?_
        · intro w hS; have hx0 := hS; obtain ⟨hx0, hx1, hx2⟩ := hS; go_simp
        try simp only [Act.put, List.setIfInBounds_toArray, List.set_cons_zero, List.set_cons_succ]
        refine OrdE.takeK (i := 4) (oi := { dst := some 36, op := Go.Op.move (Go.Operand.tmp 9), type := 3, pos := "dir.go:83", after := #[], guard := none }) (v := (.int .i64 (x.1 : Int))) rfl (by kernel_rfl) (by kernel_rfl) (by kernel_rfl) (by kernel_rfl) (fun _ _ _ h => h) (by rfl) ?_ (hd7) ?_
        · intro w hS; have hx0 := hS; go_simp
        try simp only [Act.put, List.setIfInBounds_toArray, List.set_cons_zero, List.set_cons_succ]
        refine OrdE.takeK (i := 5) (oi := { dst := some 37, op := Go.Op.move (Go.Operand.tmp 9), type := 3, pos := "dir.go:83", after := #[], guard := none }) (v := (.int .i64 (x.1 : Int))) rfl (by kernel_rfl) (by kernel_rfl) (by kernel_rfl) (by kernel_rfl) (fun _ _ _ h => h) (by rfl) ?_ (hd7) ?_
        · intro w hS; have hx0 := hS; go_simp
        try simp only [Act.put, List.setIfInBounds_toArray, List.set_cons_zero, List.set_cons_succ]
        refine OrdE.takeK (i := 6) (oi := { dst := some 38, op := Go.Op.binOp Go.BinOp.add 3 (Go.Operand.tmp 37) (Go.Operand.const (Go.Value.int Go.IntKind.i64 1)) 3, type := 3, pos := "dir.go:83", after := #[{ on := 5, ground := Go.Ground.data }], guard := none }) (v := (.int .i64 ((x.1 : Int) + 1))) rfl (by kernel_rfl) (by kernel_rfl) (by kernel_rfl) (by kernel_rfl) (fun _ _ _ h => h) (by rfl) ?_ (hd7) ?_
        · intro w hS; have hx0 := hS; go_simp
        try simp only [Act.put, List.setIfInBounds_toArray, List.set_cons_zero, List.set_cons_succ]
        refine OrdE.oneE (i := 3) (o := { dst := some 35, op := Go.Op.call { callee := Go.Callee.value (Go.Operand.func 41), args := #[Go.Operand.tmp 34], argTypes := #[45] }, type := 45, pos := "dir.go:83", after := #[{ on := 2, ground := Go.Ground.data }], guard := none }) (by kernel_rfl) rfl (fun K hK => ?_)
        go_simp
        have hdv3 := HI.out.1.1.step HB3.out (by have := HI.out.1.2; omega)
        have hn0 := HI.out.1.2
        have hn3 : I8 + 1 + 1 ≤ W3.heap.size := Nat.le_trans hn0 HB3.out.size
        have hC3 : dE.C W3 (some ⟨q, oo, none⟩) xs := Fl.C_below (hCW W HI.out) HB3.out
        have HDV3 := Aside0.mk hdv3
        have HN3 := Lib.hid hn3
        have HN0 := Lib.hid hn0
        have HC3 := Aside0.mk hC3
        clear hdv3 hn3 hC3 hn0
        with_reducible refine (Clone_calls W3 _ ss xs HC3.out (by omega)).mono ?_
        rintro e W4 ⟨v4, rfl, hR4, hb4⟩
        have HR4 := Aside0.mk hR4
        have HDV4 := Aside0.mk (HDV3.out.step hb4 (by have := HN3.out; omega))
        have HB4 := Aside0.mk (HB3.out.trans (hb4.mono HB3.out.size))
        have hd8 : D7 p q ii oo ss xs.length H I7 I8 W4 := hd7.below hb4
        have HW34 := Lib.hid hb4.size
        clear hR4 hb4 hd7
        refine hK.out _ _ (fun _ => hd8) ?_
        clear hK K
        try simp only [Act.put, List.setIfInBounds_toArray, List.set_cons_zero, List.set_cons_succ]
        refine OrdE.oneE (i := 7) (o := { dst := some 39, op := Go.Op.call { callee := Go.Callee.value (Go.Operand.func 40), args := #[Go.Operand.tmp 35, Go.Operand.tmp 36, Go.Operand.tmp 38], argTypes := #[45, 3, 3] }, type := 45, pos := "dir.go:83", after := #[{ on := 3, ground := Go.Ground.data }, { on := 4, ground := Go.Ground.data }, { on := 6, ground := Go.Ground.data }, { on := 3, ground := Go.Ground.chain }], guard := none }) (by kernel_rfl) rfl (fun K hK => ?_)
        go_simp
        with_reducible refine (SDelete_calls W4 W3.heap.size v4 xs HR4.out x.1 x.2 (by omega)).mono ?_
        rintro e W5 ⟨v5, rfl, hR5, hk5⟩
        have hno : ∀ j, j < W3.heap.size → ¬ v4.ownBlock = some j := fun j hj e => by have := (Fl.R_lt HR4.out j e).1; omega
        have HNO := Lib.hid hno
        have hpq := HPQ.out
        have hn3 := HN3.out
        have HK5 := Aside0.mk hk5
        have HR5 := Aside0.mk hR5
        have b5 : ∀ j, j < I8 + 1 + 1 → W5.heap[j]? = W4.heap[j]? := fun j hj => hk5.block j (by have := HW34.out; omega) (hno j (by omega))
        have HB5 := Lib.hid b5
        have HD5 := Aside0.mk (HDV4.out.dir.move (b5 p (by omega)) (b5 q (by omega)) (b5 r (by omega)))
        have hd9 : D7 p q ii oo ss xs.length H I7 I8 W5 := hd8.move (b5 H (by omega)) (b5 I7 (by omega)) (b5 I8 (by omega))
        clear hk5 hR5 hno b5 hd8
        refine hK.out _ _ (fun _ => hd9) ?_
        clear hK K
        try simp only [Act.put, List.setIfInBounds_toArray, List.set_cons_zero, List.set_cons_succ]
        refine OrdE.oneE (i := 8) (o := { dst := some 40, op := Go.Op.call { callee := Go.Callee.value (Go.Operand.func 37), args := #[Go.Operand.tmp 32, Go.Operand.tmp 33, Go.Operand.tmp 39], argTypes := #[28, 3, 45] }, type := 0, pos := "dir.go:83", after := #[{ on := 0, ground := Go.Ground.data }, { on := 1, ground := Go.Ground.data }, { on := 7, ground := Go.Ground.data }, { on := 7, ground := Go.Ground.chain }], guard := none }) (by kernel_rfl) rfl (fun K hK => ?_)
        go_simp
        obtain ⟨A5, c5, rfl, -, -, hC5, -⟩ := Fl.R_slice HR5.out
        have hlen5 : (xs.eraseIdx x.1).length ≤ D.s := by have h1 := List.length_eraseIdx_le xs x.1; have := HBN.out; omega
        have hoke : ∀ z ∈ xs.eraseIdx x.1, OkE z := fun z hz => by have := HD5.out.ok.ok _ (List.mem_of_getElem? HOE.out) z; rw [HXS.out] at this; exact this (List.mem_of_mem_eraseIdx hz)
        have hlay := lay_calls W5 p q r D M HD5.out (D.at_ k) (HD5.out.ok.at_lt k) A5 c5 (xs.eraseIdx x.1) (K_of_C hC5 (by have := HD5.out.ok.s2; omega)) hlen5 hoke
        rw [HII.out] at hlay
        generalize (xs.eraseIdx x.1).length = l5 at hlay ⊢
        refine hlay.mono ?_
        rintro e W6 ⟨rfl, hd6, hk6⟩
        have HD6 := Aside0.mk hd6
        have HK6 := Aside0.mk hk6
        have b6 : ∀ j, j < W5.heap.size → j ≠ q → j ≠ r → W6.heap[j]? = W5.heap[j]? := fun j hj h1 h2 => hk6.block j hj (fun e => e.elim h1 h2)
        have hz5 : I8 + 1 + 1 ≤ W5.heap.size := Nat.le_trans hn3 (Nat.le_trans HW34.out HK5.out.size)
        have hd10 : D7 p q ii oo ss xs.length H I7 I8 W6 := hd9.move (b6 H (by omega) (by omega) (by omega)) (b6 I7 (by omega) (by omega) (by omega)) (b6 I8 (by omega) (by omega) (by omega))
        have HT6 := Aside0.mk (show W6.heap[H + 1 + 1 + 1]? = some (.cells #[.bool false] 4 (0, 0)) from ((b6 (H + 3) (by omega) (by omega) (by omega)).trans (HB5.out (H + 3) (by omega))).trans HDV4.out.k3)
        have HB6 := Lib.hid b6
        have HZ5 := Lib.hid hz5
        clear hd6 hk6 b6 hlay hd9 hlen5 hoke hC5 hz5
        refine hK.out _ _ (fun _ => hd10) ?_
        clear hK K
        try simp only [Act.put, List.setIfInBounds_toArray, List.set_cons_zero, List.set_cons_succ]
        refine OrdE.doneE (by kernel_rfl) ?_ _
        have hc6 : W6.cell? ⟨H + 1 + 1 + 1, 0, none⟩ = some (.bool false) := blk_cell HT6.out 0
        have hf6 : W6.frozen? ⟨H + 1 + 1 + 1, 0, none⟩ = false := blk_frozen HT6.out 0
        gi_wp2
        have hpq := HPQ.out
        have hb4 := HB4.out
        have hss := HS.out
        have hhh := HH.out
        have hn3 := HN3.out
        have hne : ∀ j, j ≠ H + 1 + 1 + 1 → (W6.setCell ⟨H + 1 + 1 + 1, 0, none⟩ (.bool true)).heap[j]? = W6.heap[j]? := fun j hj => Below.heap_setCell W6 ⟨H + 1 + 1 + 1, 0, none⟩ _ j hj
        have hsz7 : (W6.setCell ⟨H + 1 + 1 + 1, 0, none⟩ (.bool true)).heap.size = W6.heap.size := by simp [World.setCell]
        have hszs : W.heap.size ≤ W6.heap.size := Nat.le_trans (Nat.le_trans hb4.size HK5.out.size) HK6.out.size
        refine ⟨⟨by rw [hsz7]; exact hszs, fun j o hj ho hc => ?_⟩, rfl, pre, x, rfl, HI.out.2, by rw [HY.out]; exact HHIT.out, ?_, ?_, blk_put HT6.out 0 _ rfl, by rw [hsz7]; exact Nat.le_trans HI.out.1.2 hszs⟩
        · have hjl := (Array.getElem?_eq_some_iff.1 ho).1
          rw [hne j (by omega), HB6.out j (Nat.lt_of_lt_of_le hjl (Nat.le_trans hb4.size HK5.out.size)) (by omega) (by omega), HK5.out.block j (Nat.lt_of_lt_of_le hjl hb4.size) (HNO.out j (Nat.lt_of_lt_of_le hjl HB3.out.size)), hb4.block j hjl]
          exact ho
        · obtain ⟨M', hM⟩ := HD6.out
          exact ⟨M', by rw [HII.out]; exact hM.move (hne p (by omega)) (hne q (by omega)) (hne r (by omega))⟩
        · have k1 : Keeps (fun j => j = q ∨ j = r) w W := .of_below (by rw [hhh]; exact HI.out.1.1.below)
          refine (((k1.then_below hb4).trans HK5.out (fun j hj => .inr ?_)).trans HK6.out (fun j hj => .inl hj)).setCell (p := ⟨H + 1 + 1 + 1, 0, none⟩) (.inr (by show w.heap.size ≤ H + 1 + 1 + 1; omega)) _
          have := (Fl.R_lt HR4.out j hj).1
          have := k1.size
          have := HB3.out.size
          omega
      · have HHIT := Lib.hid (show hit k.tag a y = false by unfold hit; rw [beq_eq_false_iff_ne.2 h30]; simp)
        have q25 : (y.f0 == k.tag) = true := beq_iff_eq.2 h25
        have q30 : (y.f1 == a) = false := beq_eq_false_iff_ne.2 h30
        clear h25 h30
        --REGION-B
        refine OrdE.beginR (DS k H Bx y a) (fun _ => true) (by kernel_rfl) (by kernel_rfl) (fun ⟨_, _, h⟩ => h) ?_
        generalize W.drew = W1 at hds HB1 ⊢
        refine OrdE.takeK (i := 0) (oi := { dst := some 21, op := Go.Op.fieldAddr 55 (Go.Operand.tmp 10) 0, type := 0, pos := "dir.go:82", after := #[], guard := none }) (v := (.pointer (some ⟨Bx, 0, none⟩))) rfl (by kernel_rfl) (by kernel_rfl) (by kernel_rfl) (by kernel_rfl) (fun _ _ _ h => h) (by rfl) ?_ (hds) ?_
        · intro w hS; have hx0 := hS; go_simp
        try simp only [Act.put, List.setIfInBounds_toArray, List.set_cons_zero, List.set_cons_succ]
        refine OrdE.takeK (i := 1) (oi := { dst := some 22, op := Go.Op.load 26 (Go.Operand.tmp 21), type := 26, pos := "dir.go:82", after := #[{ on := 0, ground := Go.Ground.data }], guard := none }) (v := (.int .u16 y.f0)) rfl (by kernel_rfl) (by kernel_rfl) (by kernel_rfl) (by kernel_rfl) (fun _ _ _ h => h) (by rfl) ?_ (hds) ?_
        · intro w hS; have hx0 := hS; obtain ⟨_, hx0, hx1, hx2⟩ := hS; go_simp
        try simp only [Act.put, List.setIfInBounds_toArray, List.set_cons_zero, List.set_cons_succ]
        refine OrdE.takeK (i := 2) (oi := { dst := some 23, op := Go.Op.load 23 (Go.Operand.tmp 4), type := 23, pos := "dir.go:82", after := #[], guard := none }) (v := (.agg k.cells)) rfl (by kernel_rfl) (by kernel_rfl) (by kernel_rfl) (by kernel_rfl) (fun _ _ _ h => h) (by rfl) ?_ (hds) ?_
        · intro w hS; have hx0 := hS; exact exec_load_key k (H + 1) hS.1 (.tmp 4) rfl rfl
        try simp only [Act.put, List.setIfInBounds_toArray, List.set_cons_zero, List.set_cons_succ]
        refine OrdE.oneE (i := 3) (o := { dst := some 24, op := Go.Op.call { callee := Go.Callee.value (Go.Operand.func 11), args := #[Go.Operand.tmp 23], argTypes := #[23] }, type := 26, pos := "dir.go:82", after := #[{ on := 2, ground := Go.Ground.data }], guard := none }) (by kernel_rfl) rfl (fun K hK => ?_)
        go_simp
        with_reducible refine (Tag_calls k _).mono ?_
        rintro e W2 ⟨rfl, hB⟩
        have HB2 := Aside0.mk (HB1.out.trans (hB.mono HB1.out.size))
        have hds2 := hds.below hB
        clear hB HB1 hds
        refine hK.out _ _ (fun _ => hds2) ?_
        clear hK K
        try simp only [Act.put, List.setIfInBounds_toArray, List.set_cons_zero, List.set_cons_succ]
        refine OrdE.takeK (i := 4) (oi := { dst := some 25, op := Go.Op.binOp Go.BinOp.eql 26 (Go.Operand.tmp 22) (Go.Operand.tmp 24) 26, type := 4, pos := "dir.go:82", after := #[{ on := 1, ground := Go.Ground.data }, { on := 3, ground := Go.Ground.data }], guard := none }) (v := (.bool true)) rfl (by kernel_rfl) (by kernel_rfl) (by kernel_rfl) (by kernel_rfl) (fun _ _ _ h => h) (by rfl) ?_ (hds2) ?_
        · intro w hS; have hx0 := hS; go_simp
        try simp only [Act.put, List.setIfInBounds_toArray, List.set_cons_zero, List.set_cons_succ]
        refine OrdE.takeK (i := 5) (oi := { dst := some 26, op := Go.Op.move (Go.Operand.tmp 25), type := 4, pos := "dir.go:82", after := #[{ on := 4, ground := Go.Ground.data }, { on := 3, ground := Go.Ground.chain }], guard := none }) (v := (.bool true)) rfl (by kernel_rfl) (by kernel_rfl) (by kernel_rfl) (by kernel_rfl) (fun _ _ _ h => h) (by rfl) ?_ (hds2) ?_
        · intro w hS; have hx0 := hS; go_simp
        try simp only [Act.put, List.setIfInBounds_toArray, List.set_cons_zero, List.set_cons_succ]
        refine OrdE.takeK (i := 6) (oi := { dst := some 27, op := Go.Op.fieldAddr 55 (Go.Operand.tmp 10) 1, type := 0, pos := "dir.go:82", after := #[{ on := 5, ground := Go.Ground.guard }], guard := some (5, true) }) (v := (.pointer (some ⟨Bx, 1, none⟩))) rfl (by kernel_rfl) (by kernel_rfl) (by kernel_rfl) (by kernel_rfl) (fun _ _ _ h => h) (by rfl) ?_ (hds2) ?_
        · intro w hS; have hx0 := hS; go_simp
        try simp only [Act.put, List.setIfInBounds_toArray, List.set_cons_zero, List.set_cons_succ]
        refine OrdE.takeK (i := 7) (oi := { dst := some 28, op := Go.Op.load 37 (Go.Operand.tmp 27), type := 37, pos := "dir.go:82", after := #[{ on := 6, ground := Go.Ground.data }, { on := 5, ground := Go.Ground.guard }], guard := some (5, true) }) (v := (.int .u32 y.f1)) rfl (by kernel_rfl) (by kernel_rfl) (by kernel_rfl) (by kernel_rfl) (fun _ _ _ h => h) (by rfl) ?_ (hds2) ?_
        · intro w hS; have hx0 := hS; obtain ⟨_, hx0, hx1, hx2⟩ := hS; go_simp
        try simp only [Act.put, List.setIfInBounds_toArray, List.set_cons_zero, List.set_cons_succ]
        refine OrdE.takeK (i := 8) (oi := { dst := some 29, op := Go.Op.load 37 (Go.Operand.tmp 5), type := 37, pos := "dir.go:82", after := #[{ on := 5, ground := Go.Ground.guard }], guard := some (5, true) }) (v := (.int .u32 a)) rfl (by kernel_rfl) (by kernel_rfl) (by kernel_rfl) (by kernel_rfl) (fun _ _ _ h => h) (by rfl) ?_ (hds2) ?_
        · intro w hS; have hx0 := hS; obtain ⟨_, hx0, hx1, hx2⟩ := hS; go_simp
        try simp only [Act.put, List.setIfInBounds_toArray, List.set_cons_zero, List.set_cons_succ]
        refine OrdE.takeK (i := 9) (oi := { dst := some 30, op := Go.Op.binOp Go.BinOp.eql 37 (Go.Operand.tmp 28) (Go.Operand.tmp 29) 37, type := 4, pos := "dir.go:82", after := #[{ on := 7, ground := Go.Ground.data }, { on := 8, ground := Go.Ground.data }, { on := 5, ground := Go.Ground.guard }], guard := some (5, true) }) (v := (.bool false)) rfl (by kernel_rfl) (by kernel_rfl) (by kernel_rfl) (by kernel_rfl) (fun _ _ _ h => h) (by rfl) ?_ (hds2) ?_
        · intro w hS; have hx0 := hS; go_simp
        try simp only [Act.put, List.setIfInBounds_toArray, List.set_cons_zero, List.set_cons_succ]
        refine OrdE.takeK (i := 10) (oi := { dst := some 31, op := Go.Op.pick (Go.Operand.tmp 26) (Go.Operand.tmp 30) (Go.Operand.const (Go.Value.bool false)), type := 4, pos := "dir.go:82", after := #[{ on := 5, ground := Go.Ground.data }, { on := 9, ground := Go.Ground.data }], guard := none }) (v := (.bool false)) rfl (by kernel_rfl) (by kernel_rfl) (by kernel_rfl) (by kernel_rfl) (fun _ _ _ h => h) (by rfl) ?_ (hds2) ?_
        · intro w hS; have hx0 := hS; go_simp
        try simp only [Act.put, List.setIfInBounds_toArray, List.set_cons_zero, List.set_cons_succ]
        refine OrdE.doneE (by kernel_rfl) ?_ _
        gi_wp2
        exact Dv_on HI.out (by omega) HB2.out (by rw [HY.out]; exact HHIT.out) _
    · have HHIT := Lib.hid (show hit k.tag a y = false by unfold hit; rw [beq_eq_false_iff_ne.2 h25]; simp)
      have q25 : (y.f0 == k.tag) = false := beq_eq_false_iff_ne.2 h25
      clear h25
      --REGION-A
      refine OrdE.beginR (DS k H Bx y a) (fun _ => true) (by kernel_rfl) (by kernel_rfl) (fun ⟨_, _, h⟩ => h) ?_
      generalize W.drew = W1 at hds HB1 ⊢
      refine OrdE.takeK (i := 0) (oi := { dst := some 21, op := Go.Op.fieldAddr 55 (Go.Operand.tmp 10) 0, type := 0, pos := "dir.go:82", after := #[], guard := none }) (v := (.pointer (some ⟨Bx, 0, none⟩))) rfl (by kernel_rfl) (by kernel_rfl) (by kernel_rfl) (by kernel_rfl) (fun _ _ _ h => h) (by rfl) ?_ (hds) ?_
      · intro w hS; have hx0 := hS; go_simp
      try simp only [Act.put, List.setIfInBounds_toArray, List.set_cons_zero, List.set_cons_succ]
      refine OrdE.takeK (i := 1) (oi := { dst := some 22, op := Go.Op.load 26 (Go.Operand.tmp 21), type := 26, pos := "dir.go:82", after := #[{ on := 0, ground := Go.Ground.data }], guard := none }) (v := (.int .u16 y.f0)) rfl (by kernel_rfl) (by kernel_rfl) (by kernel_rfl) (by kernel_rfl) (fun _ _ _ h => h) (by rfl) ?_ (hds) ?_
      · intro w hS; have hx0 := hS; obtain ⟨_, hx0, hx1, hx2⟩ := hS; go_simp
      try simp only [Act.put, List.setIfInBounds_toArray, List.set_cons_zero, List.set_cons_succ]
      refine OrdE.takeK (i := 2) (oi := { dst := some 23, op := Go.Op.load 23 (Go.Operand.tmp 4), type := 23, pos := "dir.go:82", after := #[], guard := none }) (v := (.agg k.cells)) rfl (by kernel_rfl) (by kernel_rfl) (by kernel_rfl) (by kernel_rfl) (fun _ _ _ h => h) (by rfl) ?_ (hds) ?_
      · intro w hS; have hx0 := hS; exact exec_load_key k (H + 1) hS.1 (.tmp 4) rfl rfl
      try simp only [Act.put, List.setIfInBounds_toArray, List.set_cons_zero, List.set_cons_succ]
      refine OrdE.oneE (i := 3) (o := { dst := some 24, op := Go.Op.call { callee := Go.Callee.value (Go.Operand.func 11), args := #[Go.Operand.tmp 23], argTypes := #[23] }, type := 26, pos := "dir.go:82", after := #[{ on := 2, ground := Go.Ground.data }], guard := none }) (by kernel_rfl) rfl (fun K hK => ?_)
      go_simp
      with_reducible refine (Tag_calls k _).mono ?_
      rintro e W2 ⟨rfl, hB⟩
      have HB2 := Aside0.mk (HB1.out.trans (hB.mono HB1.out.size))
      have hds2 := hds.below hB
      clear hB HB1 hds
      refine hK.out _ _ (fun _ => hds2) ?_
      clear hK K
      try simp only [Act.put, List.setIfInBounds_toArray, List.set_cons_zero, List.set_cons_succ]
      refine OrdE.takeK (i := 4) (oi := { dst := some 25, op := Go.Op.binOp Go.BinOp.eql 26 (Go.Operand.tmp 22) (Go.Operand.tmp 24) 26, type := 4, pos := "dir.go:82", after := #[{ on := 1, ground := Go.Ground.data }, { on := 3, ground := Go.Ground.data }], guard := none }) (v := (.bool false)) rfl (by kernel_rfl) (by kernel_rfl) (by kernel_rfl) (by kernel_rfl) (fun _ _ _ h => h) (by rfl) ?_ (hds2) ?_
      · intro w hS; have hx0 := hS; go_simp
      try simp only [Act.put, List.setIfInBounds_toArray, List.set_cons_zero, List.set_cons_succ]
      refine OrdE.takeK (i := 5) (oi := { dst := some 26, op := Go.Op.move (Go.Operand.tmp 25), type := 4, pos := "dir.go:82", after := #[{ on := 4, ground := Go.Ground.data }, { on := 3, ground := Go.Ground.chain }], guard := none }) (v := (.bool false)) rfl (by kernel_rfl) (by kernel_rfl) (by kernel_rfl) (by kernel_rfl) (fun _ _ _ h => h) (by rfl) ?_ (hds2) ?_
      · intro w hS; have hx0 := hS; go_simp
      try simp only [Act.put, List.setIfInBounds_toArray, List.set_cons_zero, List.set_cons_succ]
      refine OrdE.takeU (i := 6) (oi := { dst := some 27, op := Go.Op.fieldAddr 55 (Go.Operand.tmp 10) 1, type := 0, pos := "dir.go:82", after := #[{ on := 5, ground := Go.Ground.guard }], guard := some (5, true) }) rfl (by kernel_rfl) (by kernel_rfl) (by kernel_rfl) (by kernel_rfl) (fun _ _ _ h => h) (by rfl) (hds2) ?_
      try simp only [Act.put, List.setIfInBounds_toArray, List.set_cons_zero, List.set_cons_succ]
      refine OrdE.takeU (i := 7) (oi := { dst := some 28, op := Go.Op.load 37 (Go.Operand.tmp 27), type := 37, pos := "dir.go:82", after := #[{ on := 6, ground := Go.Ground.data }, { on := 5, ground := Go.Ground.guard }], guard := some (5, true) }) rfl (by kernel_rfl) (by kernel_rfl) (by kernel_rfl) (by kernel_rfl) (fun _ _ _ h => h) (by rfl) (hds2) ?_
      try simp only [Act.put, List.setIfInBounds_toArray, List.set_cons_zero, List.set_cons_succ]
      refine OrdE.takeU (i := 8) (oi := { dst := some 29, op := Go.Op.load 37 (Go.Operand.tmp 5), type := 37, pos := "dir.go:82", after := #[{ on := 5, ground := Go.Ground.guard }], guard := some (5, true) }) rfl (by kernel_rfl) (by kernel_rfl) (by kernel_rfl) (by kernel_rfl) (fun _ _ _ h => h) (by rfl) (hds2) ?_
      try simp only [Act.put, List.setIfInBounds_toArray, List.set_cons_zero, List.set_cons_succ]
      refine OrdE.takeU (i := 9) (oi := { dst := some 30, op := Go.Op.binOp Go.BinOp.eql 37 (Go.Operand.tmp 28) (Go.Operand.tmp 29) 37, type := 4, pos := "dir.go:82", after := #[{ on := 7, ground := Go.Ground.data }, { on := 8, ground := Go.Ground.data }, { on := 5, ground := Go.Ground.guard }], guard := some (5, true) }) rfl (by kernel_rfl) (by kernel_rfl) (by kernel_rfl) (by kernel_rfl) (fun _ _ _ h => h) (by rfl) (hds2) ?_
      try simp only [Act.put, List.setIfInBounds_toArray, List.set_cons_zero, List.set_cons_succ]
      refine OrdE.takeK (i := 10) (oi := { dst := some 31, op := Go.Op.pick (Go.Operand.tmp 26) (Go.Operand.tmp 30) (Go.Operand.const (Go.Value.bool false)), type := 4, pos := "dir.go:82", after := #[{ on := 5, ground := Go.Ground.data }, { on := 9, ground := Go.Ground.data }], guard := none }) (v := (.bool false)) rfl (by kernel_rfl) (by kernel_rfl) (by kernel_rfl) (by kernel_rfl) (fun _ _ _ h => h) (by rfl) ?_ (hds2) ?_
      · intro w hS; have hx0 := hS; go_simp
      try simp only [Act.put, List.setIfInBounds_toArray, List.set_cons_zero, List.set_cons_succ]
      refine OrdE.doneE (by kernel_rfl) ?_ _
      gi_wp2
      exact Dv_on HI.out (by omega) HB2.out (by rw [HY.out]; exact HHIT.out) _
  case done =>
    rintro D' ys W hD hys ⟨⟨hdv, hs9⟩, hh⟩ hK
    have HNO := Lib.hid (show delIdx k.tag a (D.of k) = none by rw [HXS.out]; exact delIdx_none _ _ _ (fun j hj => hh j (by rw [hys]; exact hj)))
    have hc3 : W.cell? ⟨H + 1 + 1 + 1, 0, none⟩ = some (.bool false) := blk_cell hdv.k3 0
    have hz3 : W.frozen? ⟨H + 1 + 1 + 1, 0, none⟩ = false := blk_frozen hdv.k3 0
    have HDV9 := Aside0.mk hdv
    have HKD := Lib.hid hK
    have HDD := Lib.hid (show H + 4 ≤ D' by rw [HS.out] at hD; omega)
    clear hdv hs9 hh hK hys
    gi_wp2
    have hKD2 : (W.setCell ⟨H + 1 + 1 + 1, 0, none⟩ (.bool false)).heap[D']? = some (.deferred (some [])) := (Below.heap_setCell W ⟨H + 1 + 1 + 1, 0, none⟩ _ D' (by have := HDD.out; show D' ≠ H + 1 + 1 + 1; omega)).trans HKD.out
    have hk3' : ((W.setCell ⟨H + 1 + 1 + 1, 0, none⟩ (.bool false)).putObj D' (.deferred none)).heap[H + 1 + 1 + 1]? = some (.cells #[.bool false] 4 (0, 0)) := (World.putObj_heap_other (by have := HDD.out; omega)).trans (blk_put HDV9.out.k3 0 _ rfl)
    have hkeep : Keeps (fun j => j = q ∨ j = r) w ((W.setCell ⟨H + 1 + 1 + 1, 0, none⟩ (.bool false)).putObj D' (.deferred none)) := by
      have hk0 : Keeps (fun j => j = q ∨ j = r) w W := .of_below (by have := HDV9.out.below; rw [← HH.out] at this; rw [HH.out] at this ⊢; exact this)
      refine hk0.trans (G := fun j => w.heap.size ≤ j) ⟨rfl, rfl, rfl, by simp [World.setCell], fun j hj hn => ?_⟩ (fun j hj => .inr hj)
      rw [World.putObj_heap_other (by rw [HH.out] at hn; have := HDD.out; omega)]
      exact Below.heap_setCell W ⟨H + 1 + 1 + 1, 0, none⟩ _ j (by rw [HH.out] at hn; show j ≠ H + 1 + 1 + 1; omega)
    have hdir : DirAt ((W.setCell ⟨H + 1 + 1 + 1, 0, none⟩ (.bool false)).putObj D' (.deferred none)) p q r D M := by
      have hp := HPQ.out
      have hd := HDD.out
      refine HDV9.out.dir.move ?_ ?_ ?_ <;> (rw [World.putObj_heap_other (by omega)]; exact Below.heap_setCell W ⟨H + 1 + 1 + 1, 0, none⟩ _ _ (by show _ ≠ H + 1 + 1 + 1; omega))
    refine ⟨by simp, .inl ⟨_, _, rfl, run_takeDeferred hKD2, ?_⟩⟩
    have hcc := blk_cell hk3' 0
    refine ⟨.bool false, by simp [results, Try.results19, go_sem, hcc], ?_⟩
    unfold DelPost
    rw [HNO.out]
    exact ⟨rfl, ⟨M, hdir⟩, hkeep⟩
  case stop =>
    rintro D' c pre W hD ⟨kk, hkl, hkk⟩ ⟨rfl, pre', x, rfl, h2, h3, ⟨M', h4⟩, h5, h6, h7⟩ hK
    have HSO := Lib.hid (show delIdx k.tag a (D.of k) = some x.1 by rw [HXS.out]; exact delIdx_some _ _ _ _ _ kk (by rw [← hkk, List.map_append]; rfl) h2 h3 hkl)
    have HDD := Lib.hid (show H + 4 ≤ D' by rw [HS.out] at hD; omega)
    gi_wp2
    have hk3' : (W.putObj D' (.deferred none)).heap[H + 1 + 1 + 1]? = some (.cells #[.bool true] 4 (0, 0)) := (World.putObj_heap_other (by have := HDD.out; omega)).trans h6
    have hkeep : Keeps (fun j => j = q ∨ j = r) w (W.putObj D' (.deferred none)) := by
      refine h5.trans (G := fun j => w.heap.size ≤ j) ⟨rfl, rfl, rfl, by simp, fun j hj hn => ?_⟩ (fun j hj => .inr hj)
      exact World.putObj_heap_other (by rw [HH.out] at hn; have := HDD.out; omega)
    have hdir : DirAt (W.putObj D' (.deferred none)) p q r (layD D (D.at_ k) (xs.eraseIdx x.1)) M' := by
      have hp := HPQ.out
      have hd := HDD.out
      refine h4.move ?_ ?_ ?_ <;> exact World.putObj_heap_other (by omega)
    refine ⟨by simp, .inl ⟨_, _, rfl, run_takeDeferred hK, ?_⟩⟩
    have hcc := blk_cell hk3' 0
    refine ⟨.bool true, by simp [results, Try.results19, go_sem, hcc], ?_⟩
    unfold DelPost
    rw [HSO.out, HXS.out]
    exact ⟨rfl, ⟨M', hdir⟩, hkeep⟩
end Go.Proofs.Ytafpaomcmjccaaa.Dir
