/- A directory in memory: its box, its entries, its numbers. -/
import Derived.Test.YtafpaomcmjccaaaDirK
import Derived.StillTailTactics
import Derived.Deep.QuietTactic
import Derived.BigQuiet
import Derived.Deep.RegionHeld3
import Derived.Deep.DrawnRows
set_option linter.unusedVariables false
set_option linter.unusedSimpArgs false
namespace Go.Proofs.Ytafpaomcmjccaaa.Dir
open Go.RowKit Go.Proofs.Ytafpaomcmjccaaa.G Go.Proofs.YtafpaomcmjccaaaW.PrintWords Go.Proofs.YtafpaomcmjccaaaW.PrintMore Go.Proofs.Ytafpaomcmjccaaa.Foot

structure Di where
  s : Nat
  L : List (List S55)
def OkE (x : S55) : Prop := 0 ≤ x.f0 ∧ x.f0 ≤ 65535 ∧ 0 ≤ x.f1 ∧ x.f1 < 4294967296 ∧ 0 ≤ x.f2 ∧ x.f2 ≤ 65535 ∧ 0 ≤ x.f3 ∧ x.f3 < 18446744073709551616
structure Di.Ok (D : Di) : Prop where
  s1 : 1 ≤ D.s
  s2 : D.s ≤ 16
  b1 : 1 ≤ D.L.length
  b2 : D.L.length ≤ 4096
  fit : ∀ b ∈ D.L, b.length ≤ D.s
  ok : ∀ b ∈ D.L, ∀ x ∈ b, OkE x
def boxO (q r : Nat) (D : Di) : Obj := .cells #[.int .i64 D.s, .slice (some ⟨q, 0, none⟩) (D.L.length * D.s) (D.L.length * D.s), .slice (some ⟨r, 0, none⟩) D.L.length D.L.length] 69 (0, 0)
def numsO (D : Di) : Obj := .cells (D.L.map fun b => Value.int .i64 b.length).toArray 3 (0, 0)
structure DirAt (w : World) (p q r : Nat) (D : Di) (M : List S55) : Prop where
  box : w.heap[p]? = some (boxO q r D)
  ents : w.heap[q]? = some (.cells (flat M).toArray 55 (0, 0))
  nums : w.heap[r]? = some (numsO D)
  pq : p ≠ q
  pr : p ≠ r
  qr : q ≠ r
  len : M.length = D.L.length * D.s
  parts : ∀ i b, D.L[i]? = some b → (M.drop (i * D.s)).take b.length = b
  ok : D.Ok
section
variable {w w' : World} {p q r : Nat} {D : Di} {M : List S55}
theorem DirAt.move (h : DirAt w p q r D M) (hp : w'.heap[p]? = w.heap[p]?) (hq : w'.heap[q]? = w.heap[q]?) (hr : w'.heap[r]? = w.heap[r]?) : DirAt w' p q r D M :=
  { h with box := hp.trans h.box, ents := hq.trans h.ents, nums := hr.trans h.nums }
theorem DirAt.below (h : DirAt w p q r D M) (hb : Below w.heap.size w w') : DirAt w' p q r D M :=
  h.move (hb.block _ (blk_lt h.box)) (hb.block _ (blk_lt h.ents)) (hb.block _ (blk_lt h.nums))
theorem DirAt.c0 (h : DirAt w p q r D M) : w.cell? ⟨p, 0, none⟩ = some (.int .i64 D.s) := blk_cell h.box 0
theorem DirAt.c1 (h : DirAt w p q r D M) : w.cell? ⟨p, 1, none⟩ = some (.slice (some ⟨q, 0, none⟩) (D.L.length * D.s) (D.L.length * D.s)) := blk_cell h.box 1
theorem DirAt.c2 (h : DirAt w p q r D M) : w.cell? ⟨p, 2, none⟩ = some (.slice (some ⟨r, 0, none⟩) D.L.length D.L.length) := blk_cell h.box 2
theorem DirAt.num (h : DirAt w p q r D M) {i : Nat} {b : List S55} (hb : D.L[i]? = some b) : w.cell? ⟨r, i, none⟩ = some (.int .i64 b.length) := by
  rw [blk_cell h.nums i, List.getElem?_toArray, List.getElem?_map, hb]
  rfl
theorem DirAt.free (h : DirAt w p q r D M) (i : Nat) : w.frozen? ⟨r, i, none⟩ = false := blk_frozen h.nums i
theorem Di.Ok.size (h : D.Ok) : D.L.length * D.s ≤ 65536 := Nat.le_trans (Nat.mul_le_mul h.b2 h.s2) (by decide)
theorem Di.Ok.place (h : D.Ok) {i : Nat} (hi : i < D.L.length) : i * D.s + D.s ≤ D.L.length * D.s := by
  rw [← Nat.succ_mul]
  exact Nat.mul_le_mul_right _ hi
end
instance {p : Nat} {D : Di} : Firm (fun w F => ∃ q r M, (F = fun k => k = p ∨ k = q ∨ k = r) ∧ DirAt w p q r D M) where
  move := by
    rintro w w' F ⟨q, r, M, rfl, h⟩ hm
    exact ⟨q, r, M, rfl, h.move (hm _ (.inl rfl)) (hm _ (.inr (.inl rfl))) (hm _ (.inr (.inr rfl)))⟩
  lt := by
    rintro w F ⟨q, r, M, rfl, h⟩ k (rfl | rfl | rfl)
    · exact blk_lt h.box
    · exact blk_lt h.ents
    · exact blk_lt h.nums
theorem cut_lh (q : Nat) (n c lo k : Nat) (h1 : lo + k ≤ c) (h2 : lo < c) (W : World) : (Instr.slice 45 (.slice (some ⟨q, 0, none⟩) n c) (some (.int .i64 (lo : Int))) (some (.int .i64 ((lo : Int) + (k : Int)))) none).run Try.prog W = .ok (.slice (some ⟨q, lo * 4, none⟩) k (c - lo)) W := by
  have hz : (Try.prog.info? 55).map (·.size) = some 4 := by kernel_rfl
  obtain ⟨i0, hi0, hsz⟩ := Option.map_eq_some_iff.1 hz
  have he : Try.prog.elem 45 = 55 := by kernel_rfl
  rw [run_slice_lh W 45 (some ⟨q, 0, none⟩) n c (by rw [he]; exact Try.underlying45) .i64 .i64 (lo : Int) ((lo : Int) + (k : Int)) (by omega) (by omega) (by omega), he]
  have h5 : ¬ c = lo := by omega
  have h6 : ((lo : Int) + (k : Int)).toNat = lo + k := by omega
  simp [sizeOf, typeInfo, hi0, hsz, sliced, Result.andThen, h5, add_plain, h6]
theorem cut_e (q : Nat) (n c lo hi mx : Nat) (h1 : lo ≤ hi) (h2 : hi ≤ mx) (h3 : mx ≤ c) (h4 : lo < mx) (W : World) : (Instr.slice 45 (.slice (some ⟨q, 0, none⟩) n c) (some (.int .i64 (lo : Int))) (some (.int .i64 (hi : Int))) (some (.int .i64 (mx : Int)))).run Try.prog W = .ok (.slice (some ⟨q, lo * 4, none⟩) (hi - lo) (mx - lo)) W := by
  have hz : (Try.prog.info? 55).map (·.size) = some 4 := by kernel_rfl
  obtain ⟨i0, hi0, hsz⟩ := Option.map_eq_some_iff.1 hz
  have he : Try.prog.elem 45 = 55 := by kernel_rfl
  rw [run_slice_lhm W 45 (some ⟨q, 0, none⟩) n c (by rw [he]; exact Try.underlying45) .i64 .i64 .i64 (lo : Int) (hi : Int) (mx : Int) (by omega) (by omega) (by omega) (by omega), he]
  have h5 : ¬ mx = lo := by omega
  simp [sizeOf, typeInfo, hi0, hsz, sliced, Result.andThen, h5, add_plain]
set_option maxHeartbeats 1000000 in
theorem bucket_calls (w : World) (p q r : Nat) (D : Di) (M : List S55) (h : DirAt w p q r D M) (i : Nat) (b : List S55) (hb : D.L[i]? = some b) :
    Calls Try.prog 38 #[.pointer (some ⟨p, 0, none⟩), .int .i64 (i : Int)] w fun e w' => e = .returned (.slice (some ⟨q, i * D.s * 4, none⟩) b.length D.s) ∧ Below w.heap.size w w' := by
  have hi : i < D.L.length := (List.getElem?_eq_some_iff.1 hb).1
  have hbs := h.ok.fit b (List.mem_of_getElem? hb)
  have hpl := h.ok.place hi
  have hsz := h.ok.size
  have hs2 := h.ok.s2
  have hb2 := h.ok.b2
  have hs1 := h.ok.s1
  have c0 := h.c0
  have c1 := h.c1
  have c2 := h.c2
  have c3 := h.num hb
  clear h hb
  generalize D.s = s at hbs hpl hsz hs2 hs1 c0 c1 ⊢
  generalize D.L.length = B at hi hpl hsz hb2 c1 c2
  obtain ⟨a, ha⟩ : ∃ a, i * s = a := ⟨_, rfl⟩
  rw [ha] at hpl ⊢
  generalize B * s = S at hpl hsz c1
  generalize b.length = n at hbs c3 ⊢
  have hm : (i : Int) * (s : Int) = (a : Int) := by rw [← ha]; omega
  have hcut := cut_e q S S a (a + n) (a + s) (by omega) (by omega) (by omega) (by omega)
  rw [show a + n - a = n by omega, show a + s - a = s by omega] at hcut
  simp only [Int.natCast_add] at hcut
  have hi0 : (0 : Int) ≤ (i : Int) := by omega
  have hi1 : (i : Int) < (B : Int) := by omega
  clear ha
  go_enter Try.func38, Try.ntmps38
  go_wp2_with fail
  go_quiet (fail)
  go_wp2
  go_ret
  exact ⟨rfl, pw_below_drewN (Below.refl _ _) _⟩
theorem step_copy_run {P : Program} {ops : Array Oper} {o : Oper} {a : Act} {w w' : World} {K : Act → World → Prop} {Q : Exit → Act → World → Prop} {E : Prop} (hgd : o.guard = none) (d s : Operand) (dT sT : TypeId)
    (ho : o.op = .call { callee := .builtin .copy, args := #[d, s], argTypes := #[dT, sT] }) (vd vs v : Value) (hd : a.eval d = vd) (hs : a.eval s = vs) (hrun : (Builtin.copy_ #[dT, sT] o.type #[vd, vs]).run P w = .ok v w')
    (h : K (a.put o.dst v) w') : if Region.wanted o (yielded ops a.tmps) = true then Oper.wp P o a w K Q else E := by
  have hw : Region.wanted o (yielded ops a.tmps) = true := by simp [Region.wanted, hgd]
  rw [if_pos hw]
  unfold Oper.wp
  simp [execOp, ho, resolve, invoke, builtin, hd, hs, hrun, Result.andThen]
  exact h
theorem run_copy_e (w : World) (q i n cap : Nat) (M : List S55) (A : Option Addr) (m c : Nat) (xs : List S55) (ty : TypeId) (hq : w.heap[q]? = some (.cells (flat M).toArray 55 (0, 0))) (hC : Kd.C k55 w A m xs) (hm : m ≤ n) (hfit : i + xs.length ≤ M.length) :
    (Builtin.copy_ #[45, 45] ty #[.slice (some ⟨q, i * 4, none⟩) n cap, .slice A m c]).run Try.prog w = .ok (goInt m) (w.setRow q (flat (laid M i xs)).toArray) := by
  have hz : (Try.prog.info? 55).map (·.size) = some 4 := by kernel_rfl
  obtain ⟨i0, hi0, hsz⟩ := Option.map_eq_some_iff.1 hz
  have hl : xs.length = m := hC.1
  have hmn : Nat.min m n = m := Nat.min_eq_left hm
  have hf : (Builtin.firstCells 4 m (.slice A m c)).run Try.prog w = .ok (flat xs).toArray w := by
    cases A with
    | some ad => exact first_flat _ w ad m m c xs hC
    | none =>
      have h0 : m = 0 := by
        rcases Nat.eq_zero_or_pos m with h | h
        · exact h
        · obtain ⟨ad, ha, _⟩ := hC.2.2 h
          cases ha
      subst h0
      rw [List.eq_nil_of_length_eq_zero hl]
      rfl
  have hst := store_flat Try.prog q i M xs w hq hfit
  simp [Builtin.copy_, run_underlying Try.underlying45, sizeOf, typeInfo, hi0, hsz, Builtin.lenOf, hmn, hf, hst]
theorem Fit_set {D : Di} {M : List S55} (hD : D.Ok) (hlen : M.length = D.L.length * D.s) (hp : ∀ i b, D.L[i]? = some b → (M.drop (i * D.s)).take b.length = b) (i : Nat) (hi : i < D.L.length) (xs : List S55) (hx : xs.length ≤ D.s) (hok : ∀ x ∈ xs, OkE x) :
    (⟨D.s, D.L.set i xs⟩ : Di).Ok ∧ (laid M (i * D.s) xs).length = (D.L.set i xs).length * D.s ∧ ∀ j b, (D.L.set i xs)[j]? = some b → ((laid M (i * D.s) xs).drop (j * D.s)).take b.length = b := by
  have hpl := hD.place hi
  have hll : (laid M (i * D.s) xs).length = M.length := laid_length M _ xs (by omega)
  refine ⟨⟨hD.s1, hD.s2, by rw [List.length_set]; exact hD.b1, by rw [List.length_set]; exact hD.b2, fun b hb => ?_, fun b hb => ?_⟩, by rw [hll, List.length_set, hlen], fun j b hb => ?_⟩
  · rcases List.mem_or_eq_of_mem_set hb with h | rfl
    · exact hD.fit b h
    · exact hx
  · rcases List.mem_or_eq_of_mem_set hb with h | rfl
    · exact hD.ok b h
    · exact hok
  · by_cases hij : i = j
    · subst hij
      rw [List.getElem?_set_self hi] at hb
      injection hb with hb
      subst hb
      unfold laid
      rw [List.append_assoc, List.drop_append_of_le_length (by rw [List.length_take]; omega), List.drop_eq_nil_of_le (by rw [List.length_take]; omega), List.nil_append, List.take_left]
    · rw [List.getElem?_set_ne hij] at hb
      have hj : j < D.L.length := (List.getElem?_eq_some_iff.1 hb).1
      have hjl := hD.place hj
      have hbl := hD.fit b (List.mem_of_getElem? hb)
      have hb0 := hp j b hb
      rcases Nat.lt_or_ge j i with h | h
      · have h1 : j * D.s + D.s ≤ i * D.s := by rw [← Nat.succ_mul]; exact Nat.mul_le_mul_right _ h
        unfold laid
        rw [List.append_assoc, List.drop_append_of_le_length (by rw [List.length_take]; omega), List.drop_take, List.take_append_of_le_length (by rw [List.length_take, List.length_drop]; omega), List.take_take, Nat.min_eq_left (by omega)]
        exact hb0
      · have h1 : i * D.s + D.s ≤ j * D.s := by rw [← Nat.succ_mul]; exact Nat.mul_le_mul_right _ (by omega)
        unfold laid
        rw [List.drop_append, List.drop_eq_nil_of_le (by rw [List.length_append, List.length_take]; omega), List.nil_append, List.drop_drop, List.length_append, List.length_take]
        rw [show i * D.s + xs.length + (j * D.s - (min (i * D.s) M.length + xs.length)) = j * D.s by omega]
        exact hb0
def layD (D : Di) (i : Nat) (xs : List S55) : Di := ⟨D.s, D.L.set i xs⟩
theorem DirAt.laid {w w' : World} {p q r : Nat} {D : Di} {M : List S55} (h : DirAt w p q r D M) (i : Nat) (hi : i < D.L.length) (xs : List S55) (hx : xs.length ≤ D.s) (hok : ∀ x ∈ xs, OkE x) (hp : w'.heap[p]? = w.heap[p]?)
    (hq : w'.heap[q]? = some (.cells (flat (Dir.laid M (i * D.s) xs)).toArray 55 (0, 0))) (hr : w'.heap[r]? = some (numsO (layD D i xs))) : DirAt w' p q r (layD D i xs) (Dir.laid M (i * D.s) xs) := by
  obtain ⟨h1, h2, h3⟩ := Fit_set h.ok h.len h.parts i hi xs hx hok
  exact { box := by
            rw [hp, h.box]
            unfold boxO layD
            rw [List.length_set]
          ents := hq, nums := hr, pq := h.pq, pr := h.pr, qr := h.qr, len := h2, parts := h3, ok := h1 }
set_option maxHeartbeats 2000000 in
theorem lay_calls (w : World) (p q r : Nat) (D : Di) (M : List S55) (h : DirAt w p q r D M) (i : Nat) (hi : i < D.L.length) (A : Option Addr) (c : Nat) (xs : List S55) (hC : Kd.C k55 w A xs.length xs) (hx : xs.length ≤ D.s) (hok : ∀ x ∈ xs, OkE x) :
    Calls Try.prog 37 #[.pointer (some ⟨p, 0, none⟩), .int .i64 (i : Int), .slice A xs.length c] w fun e w' => e = .returned (.tuple #[]) ∧ (∃ M', DirAt w' p q r (layD D i xs) M') ∧ Keeps (fun k => k = q ∨ k = r) w w' := by
  have hpl := h.ok.place hi
  have hsz := h.ok.size
  have hs2 := h.ok.s2
  have hb2 := h.ok.b2
  have hs1 := h.ok.s1
  have c0 := h.c0
  have c1 := h.c1
  have c2 := h.c2
  have hf := h.free i
  obtain ⟨old, hcr⟩ : ∃ old : Value, w.cell? ⟨r, i, none⟩ = some old := ⟨_, h.num (List.getElem?_eq_getElem hi)⟩
  have HH := Aside0.mk h
  have HC := Aside0.mk hC
  have HOK := Lib.hid hok
  have hqe := h.ents
  have HQ := Aside0.mk hqe
  have hrun := run_copy_e w.drew q (i * D.s) D.s (D.L.length * D.s - i * D.s) M A xs.length c xs 0 hqe (Kd.C_below hC (below_drew (Below.refl _ _))) hx (by rw [h.len]; omega)
  have hpq := h.pq
  have hqr := h.qr
  have hxs := hx
  clear h hC hok hqe
  have HS := Lib.hid (show D.s = D.s from rfl)
  obtain ⟨s, hs⟩ : ∃ s, D.s = s := ⟨_, rfl⟩
  obtain ⟨B, hB⟩ : ∃ B, D.L.length = B := ⟨_, rfl⟩
  rw [hs, hB] at hpl hsz c1 hrun
  rw [hs] at hs2 hs1 c0 hx
  rw [hB] at hb2 c2 hi
  have HSS := Lib.hid hs
  have HBB := Lib.hid hB
  obtain ⟨a, ha⟩ : ∃ a, i * s = a := ⟨_, rfl⟩
  rw [ha] at hpl hrun
  generalize B * s = S at hpl hsz c1 hrun
  obtain ⟨n, hn⟩ : ∃ n, xs.length = n := ⟨_, rfl⟩
  rw [hn] at hx hrun ⊢
  have hm : (i : Int) * (s : Int) = (a : Int) := by rw [← ha]; omega
  have hm2 : ((i : Int) + 1) * (s : Int) = (a : Int) + (s : Int) := by rw [Int.add_mul, hm, Int.one_mul]
  have hi0 : (0 : Int) ≤ (i : Int) := by omega
  have hi1 : (i : Int) < (B : Int) := by omega
  have HAA := Lib.hid ha
  have HNN := Lib.hid hn
  clear hs hB ha hn hxs HS
  have hwa : IntKind.i64.wrap (a : Int) = (a : Int) := by rw [IntKind.wrap_i64]; omega
  have hwi : IntKind.i64.wrap ((i : Int) + 1) = (i : Int) + 1 := by rw [IntKind.wrap_i64]; omega
  have hws : IntKind.i64.wrap ((a : Int) + (s : Int)) = (a : Int) + (s : Int) := by rw [IntKind.wrap_i64]; omega
  have hcut : ∀ W : World, (Instr.slice 45 (.slice (some ⟨q, 0, none⟩) S S) (some (.int .i64 (a : Int))) (some (.int .i64 ((a : Int) + (s : Int)))) none).run Try.prog W = .ok (.slice (some ⟨q, a * 4, none⟩) s (S - a)) W := fun W => cut_lh q S S a s (by omega) (by omega) W
  generalize hW2 : (w.drew.setRow q (flat (laid M a xs)).toArray) = w2 at hrun
  have hp2 : w2.heap[p]? = w.heap[p]? := by rw [← hW2]; exact setRow_other _ _ _ _ hpq
  have hr2 : w2.heap[r]? = w.heap[r]? := by rw [← hW2]; exact setRow_other _ _ _ _ (Ne.symm hqr)
  have hq2 : w2.heap[q]? = some (.cells (flat (laid M a xs)).toArray 55 (0, 0)) := by rw [← hW2]; exact setRow_heap _ _ _ _ _ _ HQ.out
  have hk2 : Keeps (fun k => k = q ∨ k = r) w w2 := by
    rw [← hW2]
    exact (Keeps.refl _ w).drew.trans (G := fun k => k = q) ⟨rfl, rfl, rfl, by simp, fun k hk hn => setRow_other _ _ _ _ hn⟩ (fun k hk => .inl (.inl hk))
  have D2 := HH.out.move (w' := w2)
  have hb2' : w2.heap[p]? = some (boxO q r D) := hp2.trans HH.out.box
  have hn2 : w2.heap[r]? = some (numsO D) := hr2.trans HH.out.nums
  have k0 : w2.cell? ⟨p, 0, none⟩ = some (.int .i64 s) := by rw [← HSS.out]; exact blk_cell hb2' 0
  have k1 : w2.cell? ⟨p, 1, none⟩ = some (.slice (some ⟨q, 0, none⟩) S S) := by rw [← hW2, cell_setRow_other _ _ _ _ hpq]; exact c1
  have k2 : w2.cell? ⟨p, 2, none⟩ = some (.slice (some ⟨r, 0, none⟩) B B) := by rw [← HBB.out]; exact blk_cell hb2' 2
  have k3 : w2.cell? ⟨r, i, none⟩ = some old := by rw [← hW2, cell_setRow_other _ _ _ _ (Ne.symm hqr)]; exact hcr
  have k4 : w2.frozen? ⟨r, i, none⟩ = false := blk_frozen hn2 i
  have hrp : p ≠ r := HH.out.pr
  have j0 : ∀ u, (w2.setCell ⟨r, i, none⟩ u).cell? ⟨p, 0, none⟩ = some (.int .i64 s) := fun u => by rw [← HSS.out]; exact blk_cell (blk_far hb2' (p := ⟨r, i, none⟩) hrp u) 0
  have j1 : ∀ u, (w2.setCell ⟨r, i, none⟩ u).cell? ⟨p, 1, none⟩ = some (.slice (some ⟨q, 0, none⟩) S S) := fun u => by rw [blk_cell (blk_far hb2' (p := ⟨r, i, none⟩) hrp u) 1, ← blk_cell hb2' 1]; exact k1
  have j2 : ∀ u, (w2.setCell ⟨r, i, none⟩ u).cell? ⟨p, 2, none⟩ = some (.slice (some ⟨r, 0, none⟩) B B) := fun u => by rw [← HBB.out]; exact blk_cell (blk_far hb2' (p := ⟨r, i, none⟩) hrp u) 2
  have hr3 : (w2.setCell ⟨r, i, none⟩ (.int .i64 (n : Int))).heap[r]? = some (numsO (layD D i xs)) := by
    refine blk_put hn2 i _ ?_
    unfold layD
    rw [← HNN.out]
    simp only [List.setIfInBounds_toArray, List.map_set]
  have DF := Lib.hid (show DirAt (w2.setCell ⟨r, i, none⟩ (.int .i64 (n : Int))) p q r (layD D i xs) (laid M (i * D.s) xs) from
    HH.out.laid i (by rw [HBB.out]; exact hi) xs (by rw [HSS.out, HNN.out]; exact hx) HOK.out ((Below.heap_setCell w2 ⟨r, i, none⟩ _ p hrp).trans hp2) ((Below.heap_setCell w2 ⟨r, i, none⟩ _ q hqr).trans (by rw [HSS.out, HAA.out]; exact hq2)) hr3)
  have HKK := Lib.hid (hk2.setCell (p := ⟨r, i, none⟩) (.inl (.inr rfl)) (.int .i64 (n : Int)))
  clear hW2 D2 hp2 hr2 hq2 hk2 hb2' hn2 hr3
  go_enter Try.func37, Try.ntmps37
  go_region_held3 (fun w' => w'.cell? ⟨p, 0, none⟩ = some (.int .i64 s) ∧ w'.cell? ⟨p, 1, none⟩ = some (.slice (some ⟨q, 0, none⟩) S S) ∧ w'.cell? ⟨p, 2, none⟩ = some (.slice (some ⟨r, 0, none⟩) B B)) (first | exact ⟨c0, c1, c2⟩ | exact ⟨k0, k1, k2⟩ | exact ⟨j0 _, j1 _, j2 _⟩)
    (refine step_copy_run rfl (.tmp 28) (.tmp 29) 45 45 rfl _ _ _ rfl rfl hrun ?_)
  go_end0
  exact ⟨rfl, ⟨_, DF.out⟩, HKK.out⟩
end Go.Proofs.Ytafpaomcmjccaaa.Dir
