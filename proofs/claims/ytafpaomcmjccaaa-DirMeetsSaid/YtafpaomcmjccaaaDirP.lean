/- A key's entries, the last one first. -/
import Derived.Test.YtafpaomcmjccaaaDirB
set_option linter.unusedVariables false
set_option linter.unusedSimpArgs false
namespace Go.Proofs.Ytafpaomcmjccaaa.Dir
open Go.RowKit Go.Shelf Go.Proofs.Ytafpaomcmjccaaa.G Go.Proofs.YtafpaomcmjccaaaW.PrintWords Go.Proofs.YtafpaomcmjccaaaW.PrintMore Go.Proofs.Ytafpaomcmjccaaa.Foot
attribute [local go_sem] Oper.semAt_some

theorem wpListIn_load_key {n : Nat} {ops : Array Oper} {rest : List Oper} {o : Oper} {a : Act} {w : World} {Q : Exit → Act → World → Prop} (k : Key) (g : Nat) (h : w.heap[g]? = some (.cells k.cells 23 (0, 0))) (hgd : o.guard = none) (x : Operand) (ho : o.op = .load 23 x)
    (hx : a.eval x = .pointer (some ⟨g, 0, none⟩)) (hw : wpListIn Fence.wide n Try.prog ops Q rest (a.put o.dst (.agg k.cells)) w) : wpListIn Fence.wide n Try.prog ops Q (o :: rest) a w := by
  unfold wpListIn
  rw [if_pos (by simp [Region.wanted, hgd])]
  refine ⟨fun _ _ => trivial, ?_⟩
  rw [Oper.semAt_eq _ _ _ (by intro c e; rw [ho] at e; cases e), exec_load_key k g h x ho hx]
  exact hw
def probe (t : Int) (xs : List S55) : List S55 := xs.reverse.filter fun x => x.f0 == t
/-- What has come and fits. -/
def got (t : Int) (xs : List S55) (pre : List Nat) : List S55 := (pre.map fun j : Nat => rd_T55 xs (j : Int)).filter fun x => x.f0 == t
theorem got_snoc (t : Int) (xs : List S55) (pre : List Nat) (j : Nat) : got t xs (pre ++ [j]) = got t xs pre ++ (if (rd_T55 xs (j : Int)).f0 == t then [rd_T55 xs (j : Int)] else []) := by
  unfold got
  rw [List.map_append, List.filter_append]
  congr 1
  simp only [List.map_cons, List.map_nil, List.filter_cons, List.filter_nil]
theorem got_len (t : Int) (xs : List S55) (pre : List Nat) : (got t xs pre).length ≤ pre.length := by
  unfold got
  have := List.length_filter_le (fun x : S55 => x.f0 == t) (pre.map fun j : Nat => rd_T55 xs (j : Int))
  rwa [List.length_map] at this
theorem downs_all (xs : List S55) : (downs xs.length xs.length).map (fun j : Nat => rd_T55 xs (j : Int)) = xs.reverse := by
  apply List.ext_getElem?
  intro i
  by_cases h : i < xs.length
  · rw [List.getElem?_reverse h, List.getElem?_map]
    unfold downs
    rw [List.getElem?_map, List.getElem?_range h]
    simp only [Option.map_some]
    unfold rd_T55
    rw [Int.toNat_natCast, List.getD_eq_getElem?_getD, List.getElem?_eq_getElem (by omega)]
    rfl
  · rw [List.getElem?_eq_none (by rw [List.length_map, downs_length]; omega), List.getElem?_eq_none (by rw [List.length_reverse]; omega)]
theorem got_all (t : Int) (xs : List S55) : got t xs (downs xs.length xs.length) = probe t xs := by
  unfold got probe
  rw [downs_all]
/-- Between two rounds: the list that was collected, in its box. -/
def Pv (k : Key) (xs : List S55) (n H P n0 : Nat) (w : World) (pre : List (Ix n)) (W : World) : Prop :=
  ((∃ v, W.heap[P]? = some (.cells #[v] 45 (0, 0)) ∧ dE.R 55 W n0 v (got k.tag xs (pre.map (·.1)))) ∧ W.heap[H]? = some (.cells k.cells 23 (0, 0)) ∧ n0 ≤ W.heap.size) ∧ Below H w W
theorem Pv_own (k : Key) (xs : List S55) (n H P n0 : Nat) (w : World) (hw : H ≤ w.heap.size) {B : Nat} (hB : H ≤ B) : OwnFrom B (Pv k xs n H P n0 w) := by
  refine OwnFrom.and ?_ (ownFrom_below hw hB)
  rintro pre W W' row ⟨⟨v, hb, hR⟩, hk, hs⟩ hg hr
  exact ⟨⟨v, cells_own hb hg hr, R_own_step hR hg hr⟩, cells_own hk hg hr, Nat.le_trans hs hg.size⟩
/-- The loop's variable in its box. -/
def PAx (n0 : Nat) (T : Nat → Nat → Array Value) (xs : List S55) (n : Nat) (x : Ix n) (a' : Act) (W : World) : Prop := ∃ Bx, n0 ≤ Bx ∧ W.heap[Bx]? = some (.cells #[.int .u16 (rd_T55 xs (x.1 : Int)).f0, .int .u32 (rd_T55 xs (x.1 : Int)).f1, .int .u16 (rd_T55 xs (x.1 : Int)).f2, .int .u64 (rd_T55 xs (x.1 : Int)).f3] 55 (0, 0)) ∧ a' = { tmps := T x.1 Bx, defers := [] }
theorem PAx_own (n0 : Nat) (T : Nat → Nat → Array Value) (xs : List S55) (n B : Nat) (x : Ix n) (a' : Act) : OwnFrom B (fun (_ : Unit) W => PAx n0 T xs n x a' W) := by
  rintro _ W W' row ⟨Bx, h1, h2, h3⟩ hg hr
  exact ⟨Bx, h1, cells_own h2 hg hr, h3⟩
set_option maxHeartbeats 4000000 in
set_option maxRecDepth 100000 in
theorem Probe_calls (w : World) (p q r : Nat) (D : Di) (M : List S55) (h : DirAt w p q r D M) (k : Key) :
    Calls Try.prog 24 #[.pointer (some ⟨p, 0, none⟩), .agg k.cells] w (RowPost (probe k.tag (D.of k)) w) := by
  refine (callsIn_wide (n := 6)).1 ?_
  obtain ⟨H, hH⟩ : ∃ H, w.heap.size = H := ⟨_, rfl⟩
  have hkb := blk_alloc (blk_new w (.cells k.cells 23)) (.cells #[.slice none 0 0] 45)
  have hob := blk_new (w.alloc (.cells k.cells 23)) (.cells #[.slice none 0 0] 45)
  have hbl := below_alloc (below_alloc (Below.refl w.heap.size w) (.cells k.cells 23)) (.cells #[.slice none 0 0] 45)
  rw [World.size_alloc] at hob
  have HD := Aside0.mk (h.below hbl)
  have hie := h.ok.at_eq k
  have hoe := h.ok.of_eq k
  have hbn := h.ok.fit _ (List.mem_of_getElem? hoe)
  have hs2 := h.ok.s2
  have hpq : p < H ∧ q < H ∧ r < H := by rw [← hH]; exact ⟨blk_lt h.box, blk_lt h.ents, blk_lt h.nums⟩
  have HPQ := Lib.hid hpq
  have hsz : ((w.alloc (.cells k.cells 23)).alloc (.cells #[.slice none 0 0] 45)).heap.size = H + 2 := by rw [World.size_alloc, World.size_alloc, hH]
  rw [hH] at hkb hob hbl
  have HKB := Aside0.mk hkb
  have HOB := Aside0.mk hob
  have HBL := Aside0.mk hbl
  have HIE := Lib.hid hie
  have HOE := Lib.hid hoe
  have HSZ := Lib.hid hsz
  have HH := Lib.hid hH
  clear h hkb hob hbl hie hoe hpq hsz hH
  refine callsIn_of_wp_marks Try.func24 rfl trivial ?_ rfl
  simp only [Try.ntmps24, List.size_toArray, List.length_cons, List.length_nil, Nat.reduceAdd, Nat.reduceSub, Array.replicate_succ, Array.replicate_zero, List.push_toArray, List.append_toArray, List.nil_append, List.cons_append]
  gi_wp2_with (first | (refine wpListIn_load_key k w.heap.size (by rw [HH.out]; exact HKB.out) rfl (.tmp 3) rfl rfl ?_) | fail)
  refine ⟨trivial, ?_⟩
  rw [HH.out]
  refine CallsIn.mono (callsIn_wide.2 (Bucket_calls k _ p D.L.length _ _ HD.out.c2 HD.out.ok.b1 HD.out.ok.b2)) ?_
  rintro e w1 ⟨rfl, hB⟩
  rw [HIE.out]
  have HD1 := Aside0.mk (HD.out.below hB)
  have HKB1 := Aside0.mk (blk_below HKB.out hB)
  have HOB1 := Aside0.mk (blk_below HOB.out hB)
  have HBL1 := Aside0.mk (HBL.out.trans (hB.mono (by rw [HSZ.out]; omega)))
  have hz1 : H + 2 ≤ w1.heap.size := by rw [← HSZ.out]; exact hB.size
  have HZ1 := Lib.hid hz1
  clear hB HD HKB HOB HBL hz1
  gi_wp2
  refine ⟨trivial, ?_⟩
  refine CallsIn.mono (callsIn_wide.2 (bucket_calls w1 p q r D M HD1.out (D.at_ k) (D.of k) HOE.out)) ?_
  rintro e w2 ⟨rfl, hB⟩
  have HD2 := Aside0.mk (HD1.out.below hB)
  have HKB2 := Aside0.mk (blk_below HKB1.out hB)
  have HOB2 := Aside0.mk (blk_below HOB1.out hB)
  have hz2 : H + 2 ≤ w2.heap.size := Nat.le_trans HZ1.out hB.size
  have HBL2 := Aside0.mk (HBL1.out.trans (hB.mono (by have := HZ1.out; omega)))
  have HZ2 := Lib.hid hz2
  clear hB HD1 HKB1 HOB1 HBL1 hz2 HZ1
  gi_wp2
  refine ⟨trivial, ?_⟩
  refine CallsIn.mono (callsIn_wide.2 (Backward_calls w2 _ ⟨_, _, _, rfl⟩)) ?_
  rintro e w3 ⟨rfl, hw3⟩
  gi_wp2
  have hC2 := Fl.C_below (HD2.out.bucketC HOE.out) (below_alloc (Below.refl _ _) (.cells #[.slice (some ⟨q, D.at_ k * D.s * 4, none⟩) (D.of k).length D.s] 45))
  have hb3 := blk_new w2 (.cells #[.slice (some ⟨q, D.at_ k * D.s * 4, none⟩) (D.of k).length D.s] 45)
  have hk3 := blk_alloc HKB2.out (.cells #[.slice (some ⟨q, D.at_ k * D.s * 4, none⟩) (D.of k).length D.s] 45)
  have ho3 := blk_alloc HOB2.out (.cells #[.slice (some ⟨q, D.at_ k * D.s * 4, none⟩) (D.of k).length D.s] 45)
  have hbl3 := HBL2.out.trans ((below_alloc (Below.refl w2.heap.size w2) (.cells #[.slice (some ⟨q, D.at_ k * D.s * 4, none⟩) (D.of k).length D.s] 45)).mono (by have := HZ2.out; omega))
  have hs3 : (w2.alloc (.cells #[.slice (some ⟨q, D.at_ k * D.s * 4, none⟩) (D.of k).length D.s] 45)).heap.size = w2.heap.size + 1 := World.size_alloc _ _
  have HLE := Lib.hid (show (D.of k).length ≤ 16 by omega)
  obtain ⟨xs, hxs⟩ : ∃ xs, D.of k = xs := ⟨_, rfl⟩
  rw [hxs] at hC2 hb3 hk3 ho3 hbl3 hs3 HLE ⊢
  have HXS := Lib.hid hxs
  clear hxs
  generalize D.at_ k * D.s * 4 = oo at hC2 hb3 hk3 ho3 hbl3 hs3 ⊢
  generalize D.s = ss at hC2 hb3 hk3 ho3 hbl3 hs3 ⊢
  generalize D.at_ k = ii
  generalize w2.alloc (.cells #[.slice (some ⟨q, oo, none⟩) xs.length ss] 45) = a3 at hC2 hb3 hk3 ho3 hbl3 hs3 ⊢
  obtain ⟨B, hB⟩ : ∃ B, w2.heap.size = B := ⟨_, rfl⟩
  have hz2 := HZ2.out
  rw [hB] at hb3 hs3 hz2 ⊢
  have H0 := Aside0.mk ho3
  have H1 := Aside0.mk hb3
  have HK := Aside0.mk hk3
  have HC := Aside0.mk hC2
  have HB := Aside0.mk hbl3
  have HS := Lib.hid hs3
  have HZ := Lib.hid hz2
  clear hC2 hb3 hk3 ho3 hbl3 hs3 hB hw3 hz2 HD2 HKB2 HOB2 HBL2 HZ2 HIE HOE HSZ hbn hs2
  refine wpIn_rangeFunc_ownH (w0 := a3) rfl (by decide) (gf := 52) (lb := #[.pointer (some ⟨B, 0, none⟩)]) rfl trivial (enters_of Try.func52 (by kernel_rfl) rfl)
    (back_stops (H + 1) B (B + 1) (some ⟨q, oo, none⟩) xs.length ss xs rfl (by omega) (by have := HZ.out; omega) (by have := HLE.out; omega) (fun ad e => by cases e; have := HPQ.out; have := HZ.out; exact ⟨show q < B + 1 by omega, show q ≠ H + 1 by omega⟩) a3 (Nat.le_of_eq HS.out.symm) H1.out HC.out) kc_t (kc_b (Nat.le_of_eq HS.out.symm)) (Below.refl _ _) (fun _ => rfl)
    (Pv k xs xs.length H (H + 1) (B + 1) w) (fun _ _ _ => False) (Pv_own k xs xs.length H (H + 1) (B + 1) w (Nat.le_of_eq HH.out.symm) (by rw [HS.out]; have := HZ.out; omega)) (fun _ _ _ _ _ hs _ _ => hs)
    ⟨⟨⟨_, H0.out, Fl.R_nil⟩, HK.out, Nat.le_of_eq HS.out.symm⟩, HB.out⟩
    (PAx (B + 1) (fun x Bx => #[.pointer (some ⟨p, 0, none⟩), .agg k.cells, undef, .pointer (some ⟨H, 0, none⟩), .slice none 0 0, .pointer (some ⟨H + 1, 0, none⟩), undef, .pointer (some ⟨Bx, 0, none⟩), .pointer (some ⟨p, 0, none⟩), .pointer (some ⟨p, 0, none⟩), .agg k.cells, .int .i64 (ii : Int), .slice (some ⟨q, oo, none⟩) xs.length ss, .func (.func 52) #[] #[.pointer (some ⟨B, 0, none⟩)], .int .i64 (x : Int), entV xs x, undef, undef, undef, undef, undef, undef, undef, undef, undef, undef]) xs xs.length)
    (PAx_own _ _ _ _ _) ?assign ?body ?done ?stop
  case assign =>
    intro l pre x W K hI hK
    have HKK := Lib.hid hK
    have HI := Aside0.mk hI
    clear hK hI
    unfold entV
    generalize hxx : rd_T55 xs (x.1 : Int) = y
    gi_wp2
    refine HKK.out _ _ ((KeepsOthers.alloc _ _).from _) ⟨by simp, fun k hk _ => Below.heap_alloc W _ k (by have := HI.out.1.2.2; omega)⟩ ((Pv_own k xs xs.length H (H + 1) (B + 1) w (Nat.le_of_eq HH.out.symm) (B := H) (Nat.le_refl _)).alloc _ HI.out) ⟨W.heap.size, HI.out.1.2.2, ?_, ?_⟩
    · rw [hxx]; exact blk_new W _
    · rw [← hxx]; rfl
  case body =>
    rintro l pre x a' W hl _ hI ⟨Bx, hBx, hbx, rfl⟩ hpl
    have HI := Aside0.mk hI
    have HX := Aside0.mk hbx
    have HBX := Lib.hid hBx
    have HPL := Lib.hid hpl
    clear hI hbx hBx hpl hl
    gi_wp2
    obtain ⟨y, hy⟩ : ∃ y, rd_T55 xs (x.1 : Int) = y := ⟨_, rfl⟩
    have hx0 := HX.out
    rw [hy] at hx0
    have HX := Aside0.mk hx0
    have HY := Lib.hid hy
    have hx1 : W.drew.cell? ⟨Bx, 0, none⟩ = some (.int .u16 y.f0) := blk_cell hx0 0
    have hk1 : W.drew.heap[H]? = some (.cells k.cells 23 (0, 0)) := HI.out.1.2.1
    have HB1 := Aside0.mk (below_drew (Below.refl W.heap.size W))
    clear hx0 hy
    refine OrdE.beginR (fun w' => w'.heap[H]? = some (.cells k.cells 23 (0, 0)) ∧ w'.cell? ⟨Bx, 0, none⟩ = some (.int .u16 y.f0)) (fun _ => true) (by kernel_rfl) (by kernel_rfl) (fun ⟨_, _, h⟩ => h) ?_
    generalize W.drew = W1 at hx1 hk1 HB1 ⊢
    generalize hev : entV xs x.1 = ev
    --REGION
    refine OrdE.takeK (i := 0) (oi := { dst := some 16, op := Go.Op.fieldAddr 55 (Go.Operand.tmp 7) 0, type := 0, pos := "dir.go:70", after := #[], guard := none }) (v := (.pointer (some ⟨Bx, 0, none⟩))) rfl (by kernel_rfl) (by kernel_rfl) (by kernel_rfl) (by kernel_rfl) (fun _ _ _ h => h) (by rfl) ?_ (⟨hk1, hx1⟩) ?_
    · intro w hS; have hx0 := hS; go_simp
    try simp only [Act.put, List.setIfInBounds_toArray, List.set_cons_zero, List.set_cons_succ]
    refine OrdE.takeK (i := 1) (oi := { dst := some 17, op := Go.Op.load 26 (Go.Operand.tmp 16), type := 26, pos := "dir.go:70", after := #[{ on := 0, ground := Go.Ground.data }], guard := none }) (v := (.int .u16 y.f0)) rfl (by kernel_rfl) (by kernel_rfl) (by kernel_rfl) (by kernel_rfl) (fun _ _ _ h => h) (by rfl) ?_ (⟨hk1, hx1⟩) ?_
    · intro w hS; have hx0 := hS; obtain ⟨_, hx0⟩ := hS; go_simp
    try simp only [Act.put, List.setIfInBounds_toArray, List.set_cons_zero, List.set_cons_succ]
    refine OrdE.takeK (i := 2) (oi := { dst := some 18, op := Go.Op.load 23 (Go.Operand.tmp 3), type := 23, pos := "dir.go:70", after := #[], guard := none }) (v := (.agg k.cells)) rfl (by kernel_rfl) (by kernel_rfl) (by kernel_rfl) (by kernel_rfl) (fun _ _ _ h => h) (by rfl) ?_ (⟨hk1, hx1⟩) ?_
    · intro w hS; have hx0 := hS; exact exec_load_key k H hS.1 (.tmp 3) rfl rfl
    try simp only [Act.put, List.setIfInBounds_toArray, List.set_cons_zero, List.set_cons_succ]
    refine OrdE.oneE (i := 3) (o := { dst := some 19, op := Go.Op.call { callee := Go.Callee.value (Go.Operand.func 11), args := #[Go.Operand.tmp 18], argTypes := #[23] }, type := 26, pos := "dir.go:70", after := #[{ on := 2, ground := Go.Ground.data }], guard := none }) (by kernel_rfl) rfl (fun K hK => ?_)
    go_simp
    with_reducible refine (Tag_calls k _).mono ?_
    rintro e W2 ⟨rfl, hB⟩
    have HB2 := Aside0.mk (HB1.out.trans (hB.mono HB1.out.size))
    have hx2 := pw_cell_below hB hx1
    have hk2 := blk_below hk1 hB
    clear hB HB1
    refine hK.out _ _ (fun _ => ⟨hk2, hx2⟩) ?_
    clear hK K
    try simp only [Act.put, List.setIfInBounds_toArray, List.set_cons_zero, List.set_cons_succ]
    refine OrdE.takeK (i := 4) (oi := { dst := some 20, op := Go.Op.binOp Go.BinOp.eql 26 (Go.Operand.tmp 17) (Go.Operand.tmp 19) 26, type := 4, pos := "dir.go:70", after := #[{ on := 1, ground := Go.Ground.data }, { on := 3, ground := Go.Ground.data }], guard := none }) (v := (.bool (y.f0 == k.tag))) rfl (by kernel_rfl) (by kernel_rfl) (by kernel_rfl) (by kernel_rfl) (fun _ _ _ h => h) (by rfl) ?_ (⟨hk2, hx2⟩) ?_
    · intro w hS; have hx0 := hS; go_simp
    try simp only [Act.put, List.setIfInBounds_toArray, List.set_cons_zero, List.set_cons_succ]
    refine OrdE.doneE (by kernel_rfl) ?_ _
    have HI2 := Aside0.mk (show Pv k xs xs.length H (H + 1) (B + 1) w pre W2 from ⟨⟨⟨_, blk_below HI.out.1.1.choose_spec.1 HB2.out, Fl.R_below HI.out.1.1.choose_spec.2 HB2.out⟩, hk2, Nat.le_trans HI.out.1.2.2 HB2.out.size⟩, HI.out.2.trans (HB2.out.mono (by have := HI.out.1.2.2; have := HZ.out; omega))⟩)
    have HX2 := Aside0.mk (blk_below HX.out HB2.out)
    have HGS := Lib.hid (got_snoc k.tag xs (pre.map (·.1)) x.1)
    have HGL := Lib.hid (got_len k.tag xs (pre.map (·.1)))
    clear hx1 hk1 hx2 hk2
    obtain ⟨b, hb⟩ : ∃ b, (y.f0 == k.tag) = b := ⟨_, rfl⟩
    rw [hb]
    have HBQ := Lib.hid hb
    clear hb hev
    have hkf : ∀ W3, Below W.heap.size W W3 → KeepsFrom a3.heap.size W W3 := fun W3 h => ⟨h.size, fun j o _ ho _ => (h.block j (Array.getElem?_eq_some_iff.1 ho).1).trans ho⟩
    have HKF := Lib.hid hkf
    clear hkf
    cases b with
    | false =>
      gi_wp2
      refine ⟨HKF.out _ HB2.out, ⟨HB2.out.size, fun j hj _ => HB2.out.block j (by have := HI.out.1.2.2; omega)⟩, ?_⟩
      have hI2 := HI2.out
      unfold Pv at hI2 ⊢
      rw [List.map_append, List.map_singleton, HGS.out, HY.out, HBQ.out]
      simp only [Bool.false_eq_true, if_false, List.append_nil]
      exact hI2
    | true =>
      obtain ⟨⟨⟨v, hb, hR⟩, hk2, hs2⟩, hbl2⟩ := HI2.out
      obtain ⟨A2, c2, rfl, -, -, -, -⟩ := Fl.R_slice hR
      obtain ⟨gl, hgl⟩ : ∃ gl, got k.tag xs (pre.map (·.1)) = gl := ⟨_, rfl⟩
      rw [hgl] at hb hR HGS HGL
      have HGLQ := Lib.hid hgl
      have hc0 : W2.cell? ⟨H + 1, 0, none⟩ = some (.slice A2 gl.length c2) := blk_cell hb 0
      have l0 : W2.cell? ⟨Bx, 0, none⟩ = some (.int .u16 y.f0) := blk_cell HX2.out 0
      have l1 : W2.cell? ⟨Bx, 1, none⟩ = some (.int .u32 y.f1) := blk_cell HX2.out 1
      have l2 : W2.cell? ⟨Bx, 2, none⟩ = some (.int .u16 y.f2) := blk_cell HX2.out 2
      have l3 : W2.cell? ⟨Bx, 3, none⟩ = some (.int .u64 y.f3) := blk_cell HX2.out 3
      have hA3 := below_alloc (Below.refl W2.heap.size W2) (.cells #[.int .u16 y.f0, .int .u32 y.f1, .int .u16 y.f2, .int .u64 y.f3] 55)
      have hXC : dE.C (W2.alloc (.cells #[.int .u16 y.f0, .int .u32 y.f1, .int .u16 y.f2, .int .u64 y.f3] 55)) (some ⟨W2.heap.size, 0, none⟩) [y] := Fl.C_blk (d := dE) (M := [y]) (e := 55) (blk_new W2 (.cells #[.int .u16 y.f0, .int .u32 y.f1, .int .u16 y.f2, .int .u64 y.f3] 55)) 0 1 (Nat.le_refl _)
      obtain ⟨i0, hi0', hz, hsz, hby⟩ := szE
      have hpl : gl.length ≤ 16 := by have := HGL.out; rw [List.length_map] at this; have := HPL.out; have := HLE.out; omega
      obtain ⟨v', W4, hrun, hR4, hg4, hat4⟩ := Fl.run_append (P := Try.prog) (ty := 45) Try.underlying45 hi0' hz hsz hby rfl 1 (Fl.R_below hR hA3) hXC (by simp; omega) (by simp; omega) (by rw [World.size_alloc]; omega)
      have hob : ∀ j, (Value.slice A2 gl.length c2).ownBlock = some j → B + 1 ≤ j := fun j hj => (Fl.R_lt hR j hj).1
      have hb4 := blk_grown (blk_alloc hb (.cells #[.int .u16 y.f0, .int .u32 y.f1, .int .u16 y.f2, .int .u64 y.f3] 55)) hg4 (fun e => by have := hob _ e.symm; have := HZ.out; omega)
      have hk4 := blk_grown (blk_alloc hk2 (.cells #[.int .u16 y.f0, .int .u32 y.f1, .int .u16 y.f2, .int .u64 y.f3] 55)) hg4 (fun e => by have := hob _ e.symm; have := HZ.out; omega)
      obtain ⟨A4, c4, hv4, -, -, -, -⟩ := Fl.R_slice hR4
      rw [show (gl ++ [y]).length = gl.length + 1 by simp] at hv4
      have hcell4 : W4.cell? ⟨H + 1, 0, none⟩ = some (.slice A2 gl.length c2) := blk_cell hb4 0
      have hfr4 : W4.frozen? ⟨H + 1, 0, none⟩ = false := blk_frozen hb4 0
      have HRUN := Lib.hid hrun
      have hfin : ∀ aa : Act, ownPostG a3.heap.size (Kc (H + 1) (B + 1)) (Pv k xs xs.length H (H + 1) (B + 1) w) (fun _ _ _ => False) (pre ++ [x]) W .normal aa (W4.setCell ⟨H + 1, 0, none⟩ v') := by
        intro aa
        have hsz2 : W2.heap.size ≤ W4.heap.size := Nat.le_trans (by rw [World.size_alloc]; omega) hg4.size
        have hoth : ∀ j, j < W2.heap.size → j ≠ H + 1 → (Value.slice A2 gl.length c2).ownBlock ≠ some j → (W4.setCell ⟨H + 1, 0, none⟩ v').heap[j]? = W2.heap[j]? := fun j hj hne hno => by
          rw [Below.heap_setCell W4 ⟨H + 1, 0, none⟩ v' j hne, hg4.block j (by rw [World.size_alloc]; omega) (fun e => hno e.symm)]
          exact Below.heap_alloc W2 _ j hj
        refine ⟨⟨by simp only [World.setCell, Array.size_modify]; exact Nat.le_trans HB2.out.size hsz2, fun j o hj ho hc => ?_⟩, ⟨by simp only [World.setCell, Array.size_modify]; exact Nat.le_trans HB2.out.size hsz2, fun j hj hjp => ?_⟩, ?_⟩
        · have hjl := (Array.getElem?_eq_some_iff.1 ho).1
          have ho2 := (HB2.out.block j hjl).trans ho
          rw [hoth j (Nat.lt_of_lt_of_le hjl HB2.out.size) (by rw [HS.out] at hj; have := HZ.out; omega) (fun e => by
            obtain ⟨cells, hc2⟩ := own_typed hR j e
            rw [ho2] at hc2; cases hc2; cases hc)]
          exact ho2
        · have hjW : j < W.heap.size := by have := HI.out.1.2.2; omega
          rw [hoth j (Nat.lt_of_lt_of_le hjW HB2.out.size) hjp (fun e => by have := hob j e; omega)]
          exact HB2.out.block j hjW
        · have hRs : dE.R 55 (W4.setCell ⟨H + 1, 0, none⟩ v') (B + 1) v' (gl ++ [y]) := Fl.R_move hR4 (fun j hj => Below.heap_setCell W4 ⟨H + 1, 0, none⟩ v' j (fun e => by have h1 := (Fl.R_lt hR4 j hj).1; rw [e] at h1; have h2 := HZ.out; have h3 : B + 1 ≤ H + 1 := h1; omega))
          refine ⟨⟨⟨v', blk_put hb4 0 v' rfl, ?_⟩, (Below.heap_setCell W4 ⟨H + 1, 0, none⟩ v' H (by show H ≠ H + 1; omega)).trans hk4, ?_⟩, ?_⟩
          · rw [List.map_append, List.map_singleton, HGS.out, HY.out, HBQ.out, if_pos rfl]
            exact hRs
          · simp only [World.setCell, Array.size_modify]; have := HI.out.1.2.2; have := HB2.out.size; omega
          · refine Below.setCell (hbl2.trans (((hA3.mono (by have := HZ.out; omega)).grown hg4 (by rw [World.size_alloc]; have := HZ.out; omega) (fun j hj => by have := hob j hj; have := HZ.out; omega)))) (p := ⟨H + 1, 0, none⟩) (by show H ≤ H + 1; omega) v'
      have HFIN := Lib.hid hfin
      subst hv4
      clear hb hR hk2 hs2 hbl2 hgl hA3 hXC hrun hR4 hg4 hat4 hob hb4 hk4 hfin hz hsz hby hi0'
      rename_i K0 ha
      refine ha _ _ ?_
      clear ha
      refine wpIn_cond (t := true) rfl ?_
      simp only [if_true]
      refine OrdE.listR (by kernel_rfl) (fun ⟨_, _, h⟩ => h) ?_
      go_wp2_with (first
        | ((with_reducible refine gate_builtin (b := .append) (xs := #[.tmp 21, .tmp 23]) rfl ?_); at_builtin; refine Fl.wpList_append_run rfl (.tmp 21) (.tmp 23) 45 45 rfl _ _ _ rfl rfl HRUN.out ?_)
        | fail)
      exact HFIN.out _
  case done =>
    rintro D' ys W hD hys ⟨⟨⟨v, hb, hR⟩, hk9, hs9⟩, hbl⟩ hK
    rw [show ys.map (·.1) = downs xs.length xs.length from hys, got_all] at hR
    obtain ⟨A9, n9, c9, hv⟩ : ∃ A n c, v = .slice A n c := by obtain ⟨A, c, h, _⟩ := Fl.R_slice hR; exact ⟨A, _, c, h⟩
    subst hv
    have hc0 : W.cell? ⟨H + 1, 0, none⟩ = some (.slice A9 n9 c9) := blk_cell hb 0
    have HR := Aside0.mk hR
    have HBL := Aside0.mk hbl
    have HKD := Lib.hid hK
    clear hb hR hk9 hs9 hbl hK
    gi_wp2
    refine ⟨by simp, .inl ⟨_, _, rfl, run_takeDeferred HKD.out, ?_⟩⟩
    rw [HXS.out]
    refine ⟨_, results_tmp (show (Try.f24).results = #[ResultVar.tmp 4] from rfl) _ _ _, _, rfl, ?_, ?_⟩
    · refine Fl.R_lower (base := B + 1) (Fl.R_move HR.out (fun j hj => World.putObj_heap_other (fun e => ?_))) (by rw [HH.out]; have := HZ.out; omega)
      obtain ⟨cells, hc⟩ := own_typed HR.out j hj
      rw [e, HKD.out] at hc
      cases hc
    · have hDD : w.heap.size ≤ D' := by have := HZ.out; have := HS.out; have := HH.out; omega
      rw [HH.out]
      exact HBL.out.trans (belowK_b (w := w) (n₀ := H) (Nat.le_of_eq HH.out.symm) W D' _ _ hDD HKD.out rfl rfl)
  case stop =>
    rintro D c pre W _ _ h _
    exact h.elim
end Go.Proofs.Ytafpaomcmjccaaa.Dir
