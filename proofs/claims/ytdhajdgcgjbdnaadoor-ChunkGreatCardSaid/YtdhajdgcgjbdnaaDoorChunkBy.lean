/- A region that draws its order, in a round: whatever order comes, what is told holds. The operations of the one region of a body's writing that draws its order. The operations, one by one. A body is written in chunks. A body is written in chunks, whole. -/
import Derived.Test.YtdhajdgcgjbdnaaDoorChunkWr
import Derived.OrdersIn
set_option linter.unusedVariables false
set_option linter.unusedSimpArgs false
namespace Go.Proofs.YtdhajdgcgjbdnaaDoor.Chunk
open Go.RowKit Go.Shelf Go.Proofs.YtdhajdgcgjbdnaaDoor.G Go.Proofs.YtdhajdgcgjbdnaaDoorW.PrintWords Go.Proofs.YtdhajdgcgjbdnaaDoorW.PrintMore Go.Proofs.YtdhajdgcgjbdnaaDoor.Foot Go.Proofs.YtdhajdgcgjbdnaaDoor.Plain
attribute [local go_sem] Oper.semAt_some

def unl (l : List Bool) : Nat := (l.filter (fun b => !b)).length
theorem unl_set : ∀ (l : List Bool) (i : Nat), l[i]? = some false → unl (l.set i true) + 1 = unl l
  | [], i, h => by simp at h
  | b :: l, 0, h => by
    simp only [List.getElem?_cons_zero, Option.some.injEq] at h
    subst h
    simp [unl]
  | b :: l, i + 1, h => by
    rw [List.getElem?_cons_succ] at h
    have := unl_set l i h
    cases b <;> simp_all [unl]
theorem unl_zero : ∀ (l : List Bool), unl l = 0 → ∀ i, i < l.length → l[i]? = some true
  | [], _, i, hi => by simp at hi
  | b :: l, h, i, hi => by
    cases b with
    | false => simp [unl] at h
    | true =>
      have h2 : unl l = 0 := by simpa [unl] using h
      cases i with
      | zero => rfl
      | succ i =>
        rw [List.getElem?_cons_succ]
        exact unl_zero l h2 i (by simpa using hi)
theorem ready_mem {md : Region.Mode} {ops : Array Oper} {listed : Array Bool} {i : Nat} (h : i ∈ Region.ready md ops listed) (hs : listed.size = ops.size) : i < ops.size ∧ listed[i]? = some false := by
  unfold Region.ready at h
  rw [List.mem_filter, List.mem_range] at h
  obtain ⟨h1, h2⟩ := h
  rw [Bool.and_eq_true] at h2
  refine ⟨h1, ?_⟩
  have h3 := h2.1
  rw [Array.getD_eq_getD_getElem?, Array.getElem?_eq_getElem (by omega)] at h3
  rw [Array.getElem?_eq_getElem (by omega)]
  simpa using h3
theorem anyIn_inv {F : Fence} {n : Nat} {P : Program} {ops : Array Oper} {Q : Exit → Act → World → Prop} (Inv : Array Bool → Act → World → Prop)
    (hend : ∀ listed a w, Region.ready .any ops listed = [] → Inv listed a w → Q .normal a w)
    (hstep : ∀ listed a w i, listed.size = ops.size → i ∈ Region.ready .any ops listed → Inv listed a w → wpOpIn F n P ops Q i (fun a' w' => Inv (listed.setIfInBounds i true) a' w') a w) :
    ∀ (fuel : Nat) (listed : Array Bool) (a : Act) (w : World), unl listed.toList ≤ fuel → listed.size = ops.size → Inv listed a w → wpAnyIn F n P .any ops Q fuel listed a w := by
  intro fuel
  induction fuel with
  | zero =>
    intro listed a w hu hs hi
    have hr : Region.ready .any ops listed = [] := by
      rw [List.eq_nil_iff_forall_not_mem]
      intro i hi2
      obtain ⟨h1, h2⟩ := ready_mem hi2 hs
      have := unl_zero listed.toList (Nat.le_zero.1 hu) i (by simp; omega)
      rw [Array.getElem?_toList, h2] at this
      cases this
    exact ⟨hr, hend _ _ _ hr hi⟩
  | succ fuel ih =>
    intro listed a w hu hs hi
    refine ⟨fun hr => hend _ _ _ hr hi, fun i hi2 => ?_⟩
    obtain ⟨h1, h2⟩ := ready_mem hi2 hs
    refine wpOpIn_mono (fun a' w' h => ih _ a' w' ?_ (by simpa using hs) h) (hstep listed a w i hs hi2 hi)
    have := unl_set listed.toList i (by rw [Array.getElem?_toList]; exact h2)
    rw [Array.toList_setIfInBounds]
    omega
end Go.Proofs.YtdhajdgcgjbdnaaDoor.Chunk

namespace Go.Proofs.YtdhajdgcgjbdnaaDoor.Chunk
open Go.RowKit Go.Shelf Go.Proofs.YtdhajdgcgjbdnaaDoor.G Go.Proofs.YtdhajdgcgjbdnaaDoorW.PrintWords Go.Proofs.YtdhajdgcgjbdnaaDoorW.PrintMore Go.Proofs.YtdhajdgcgjbdnaaDoor.Foot Go.Proofs.YtdhajdgcgjbdnaaDoor.Plain
def o0 : Oper := { dst := some 12, op := Go.Op.load 22 (Go.Operand.tmp 5), type := 22, pos := "chunk.go:134", after := #[], guard := none }
def o1 : Oper := { dst := some 13, op := Go.Op.move (Go.Operand.tmp 6), type := 22, pos := "chunk.go:134", after := #[], guard := none }
def o2 : Oper := { dst := some 14, op := Go.Op.call { callee := Go.Callee.builtin Go.Builtin.len, args := #[Go.Operand.tmp 13], argTypes := #[22] }, type := 3, pos := "chunk.go:134", after := #[{ on := 1, ground := Go.Ground.data }], guard := none }
def o3 : Oper := { dst := some 15, op := Go.Op.call { callee := Go.Callee.value (Go.Operand.func 20), args := #[Go.Operand.tmp 14, Go.Operand.const (Go.Value.int Go.IntKind.i64 16)], argTypes := #[2, 3] }, type := 9, pos := "chunk.go:134", after := #[{ on := 2, ground := Go.Ground.data }], guard := none }
def o4 : Oper := { dst := some 16, op := Go.Op.convert 9 22 (Go.Operand.tmp 15), type := 22, pos := "chunk.go:134", after := #[{ on := 3, ground := Go.Ground.data }], guard := none }
def o5 : Oper := { dst := some 17, op := Go.Op.buildSlice 22 2 #[(0, Go.Operand.const (Go.Value.int Go.IntKind.u8 13)), (1, Go.Operand.const (Go.Value.int Go.IntKind.u8 10))], type := 22, pos := "chunk.go:134", after := #[], guard := none }
def o6 : Oper := { dst := some 18, op := Go.Op.convert 22 22 (Go.Operand.tmp 17), type := 22, pos := "chunk.go:134", after := #[{ on := 5, ground := Go.Ground.data }], guard := none }
def o7 : Oper := { dst := some 19, op := Go.Op.move (Go.Operand.tmp 6), type := 22, pos := "chunk.go:134", after := #[], guard := none }
def o8 : Oper := { dst := some 20, op := Go.Op.buildSlice 22 2 #[(0, Go.Operand.const (Go.Value.int Go.IntKind.u8 13)), (1, Go.Operand.const (Go.Value.int Go.IntKind.u8 10))], type := 22, pos := "chunk.go:134", after := #[], guard := none }
def o9 : Oper := { dst := some 21, op := Go.Op.convert 22 22 (Go.Operand.tmp 20), type := 22, pos := "chunk.go:134", after := #[{ on := 8, ground := Go.Ground.data }], guard := none }
def o10 : Oper := { dst := some 22, op := Go.Op.buildSlice 61 5 #[(0, Go.Operand.tmp 12), (1, Go.Operand.tmp 16), (2, Go.Operand.tmp 18), (3, Go.Operand.tmp 19), (4, Go.Operand.tmp 21)], type := 61, pos := "chunk.go:134", after := #[{ on := 0, ground := Go.Ground.data }, { on := 4, ground := Go.Ground.data }, { on := 6, ground := Go.Ground.data }, { on := 7, ground := Go.Ground.data }, { on := 9, ground := Go.Ground.data }], guard := none }
def o11 : Oper := { dst := some 23, op := Go.Op.call { callee := Go.Callee.value (Go.Operand.func 19), args := #[Go.Operand.tmp 22], argTypes := #[61] }, type := 22, pos := "chunk.go:134", after := #[{ on := 10, ground := Go.Ground.data }, { on := 3, ground := Go.Ground.chain }], guard := none }
def o12 : Oper := { dst := none, op := Go.Op.store 22 (Go.Operand.tmp 5) (Go.Operand.tmp 23), type := 0, pos := "chunk.go:134", after := #[{ on := 11, ground := Go.Ground.data }, { on := 11, ground := Go.Ground.chain }, { on := 0, ground := Go.Ground.phase }, { on := 1, ground := Go.Ground.phase }, { on := 2, ground := Go.Ground.phase }, { on := 3, ground := Go.Ground.phase }, { on := 4, ground := Go.Ground.phase }, { on := 5, ground := Go.Ground.phase }, { on := 6, ground := Go.Ground.phase }, { on := 7, ground := Go.Ground.phase }, { on := 8, ground := Go.Ground.phase }, { on := 9, ground := Go.Ground.phase }, { on := 10, ground := Go.Ground.phase }, { on := 11, ground := Go.Ground.phase }], guard := none }
def ops4 : Array Oper := #[o0, o1, o2, o3, o4, o5, o6, o7, o8, o9, o10, o11, o12]
attribute [local go_sem] Oper.semAt_some
section
variable {n : Nat} {Q : Exit → Act → World → Prop} {K : Act → World → Prop} {a : Act} {w w' : World} {l i : Nat} {o : Oper} {v : Value}
abbrev FR (l : Nat) : Fence := Fence.wide.inRound l
theorem op_in (hi : ops4[i]? = some o) (hg : o.guard = none) (h : o.uponIn (FR l) n Tryd.prog a K Q ((o.semAt (FR l).round a.eval).run Tryd.prog w)) : wpOpIn (FR l) n Tryd.prog ops4 Q i K a w := by
  unfold wpOpIn
  rw [hi]
  simp only
  rw [if_pos (by simp [Region.wanted, hg])]
  exact ⟨fun _ _ => trivial, h⟩
theorem op_val (hi : ops4[i]? = some o) (hg : o.guard = none) (hr : (o.semAt (FR l).round a.eval).run Tryd.prog w = .ok (.value v) w') (h : K (a.put o.dst v) w') : wpOpIn (FR l) n Tryd.prog ops4 Q i K a w :=
  op_in hi hg (by rw [hr]; exact h)
theorem eval_tmp {j : Nat} (h : a.tmps[j]? = some v) : a.eval (.tmp j) = v := by
  show a.tmps.getD j undef = v
  rw [Array.getD_eq_getD_getElem?, h]
  rfl
end
/-- Blocks stay, but for how they are marked; of the old ones nothing has turned. -/
structure Sm (b : Nat) (w w' : World) : Prop where
  below : Below b w w'
  cells : ∀ (k : Nat) (C : Array Value) (e : TypeId) (fr : Nat × Nat), w.heap[k]? = some (Obj.cells C e fr) → ∃ fr' : Nat × Nat, w'.heap[k]? = some (Obj.cells C e fr')
theorem Sm.refl (b : Nat) (w : World) : Sm b w w := ⟨Below.refl _ _, fun k C e fr h => ⟨fr, h⟩⟩
theorem Sm.of_below {b : Nat} {w w' : World} (h : Below w.heap.size w w') (hb : b ≤ w.heap.size) : Sm b w w' := ⟨h.mono hb, fun k C e fr hk => ⟨fr, (h.block k (blk_lt hk)).trans hk⟩⟩
theorem Sm.trans {b : Nat} {x y z : World} (h : Sm b x y) (k : Sm b y z) : Sm b x z := ⟨h.below.trans k.below, fun i C e fr hi => by obtain ⟨fr', h2⟩ := h.cells i C e fr hi; exact k.cells i C e fr' h2⟩
theorem Sm.cell {b : Nat} {w w' : World} (h : Sm b w w') {p : Addr} {v : Value} (hc : w.cell? p = some v) : w'.cell? p = some v := by
  unfold World.cell? at hc ⊢
  cases hk : w.heap[p.block]? with
  | none => rw [hk] at hc; cases hc
  | some ob =>
    rw [hk] at hc
    cases ob with
    | cells C e fr =>
      obtain ⟨fr', h2⟩ := h.cells _ C e fr hk
      rw [h2]
      exact hc
    | _ => cases hc
theorem C_same {b : Nat} {w w' : World} (h : Sm b w w') {A : Option Addr} {n : Nat} {xs : List Int} (hC : Kd.C (Kd.int .u8) w A n xs) : Kd.C (Kd.int .u8) w' A n xs := by
  obtain ⟨h1, h2, h3⟩ := hC
  refine ⟨h1, h2, fun h0 => ?_⟩
  obtain ⟨ad, ha, hr⟩ := h3 h0
  refine ⟨ad, ha, fun j x hj => ?_⟩
  obtain ⟨cs, hl, hK, hc⟩ := hr j x hj
  exact ⟨cs, hl, hK, fun i u hu => h.cell (hc i u hu)⟩
def crlfB (b : Nat) (v : Value) (w : World) : Prop := ∃ g fr, v = .slice (some ⟨g, 0, none⟩) 2 2 ∧ b ≤ g ∧ w.heap[g]? = some (.cells #[.int .u8 13, .int .u8 10] 5 fr)
theorem crlfB.same {b : Nat} {v : Value} {w w' : World} (h : crlfB b v w) (hs : Sm b w w') : crlfB b v w' := by
  obtain ⟨g, fr, e, hg, hk⟩ := h
  obtain ⟨fr', h2⟩ := hs.cells _ _ _ _ hk
  exact ⟨g, fr', e, hg, h2⟩
def chunkT (o ys : List Int) : List Int := o ++ (hexT 15 ys.length ++ ([13, 10] ++ (ys ++ [13, 10])))
/-- What an operation has made. -/
def good (b : Nat) (v0 : Value) (A : Option Addr) (o ys : List Int) (v : Value) (w : World) : Nat → Prop
  | 0 => v = v0
  | 1 => v = .slice A ys.length ys.length
  | 2 => v = .int .i64 (ys.length : Int)
  | 3 => v = .string (strOfNums (hexT 15 ys.length))
  | 4 => ∃ A4 c4, v = .slice A4 (hexT 15 ys.length).length c4 ∧ Kd.C (Kd.int .u8) w A4 (hexT 15 ys.length).length (hexT 15 ys.length)
  | 5 => crlfB b v w
  | 6 => crlfB b v w
  | 7 => v = .slice A ys.length ys.length
  | 8 => crlfB b v w
  | 9 => crlfB b v w
  | 10 => ∃ (g : Nat) (ty : TypeId) (L : List Pt), v = .slice (some ⟨g, 0, none⟩) L.length L.length ∧ w.heap[g]? = some (.cells (L.map sv).toArray ty (0, 0)) ∧ (∀ x ∈ L, Kd.C (Kd.int .u8) w x.1 x.2.2.length x.2.2) ∧ joined L = chunkT o ys ∧ L.length = 5
  | 11 => Rw w b v (chunkT o ys)
  | _ => False
theorem good_same {b : Nat} {v0 v : Value} {A : Option Addr} {o ys : List Int} {w w' : World} {i : Nat} (hi : i < 10) (h : good b v0 A o ys v w i) (hs : Sm b w w') : good b v0 A o ys v w' i := by
  rcases (show i = 0 ∨ i = 1 ∨ i = 2 ∨ i = 3 ∨ i = 4 ∨ i = 5 ∨ i = 6 ∨ i = 7 ∨ i = 8 ∨ i = 9 by omega) with rfl | rfl | rfl | rfl | rfl | rfl | rfl | rfl | rfl | rfl
  · exact h
  · exact h
  · exact h
  · exact h
  · obtain ⟨A4, c4, e, hC⟩ := h
    exact ⟨A4, c4, e, C_same hs hC⟩
  · exact crlfB.same h hs
  · exact crlfB.same h hs
  · exact h
  · exact crlfB.same h hs
  · exact crlfB.same h hs
structure Rg (W : World) (P b : Nat) (v0 : Value) (A : Option Addr) (o ys : List Int) (listed : Array Bool) (a : Act) (w : World) : Prop where
  sz : a.tmps.size = 26
  lsz : listed.size = 13
  t5 : a.tmps[5]? = some (.pointer (some ⟨P, 0, none⟩))
  t6 : a.tmps[6]? = some (.slice A ys.length ys.length)
  cl : ∀ (i : Nat) (op : Oper), ops4[i]? = some op → listed[i]? = some true → ∀ e ∈ op.after, Region.binds .any e = true → listed[e.on]? = some true
  pre : listed[12]? = some false → Sm b W w ∧ ∀ i : Nat, i < 12 → listed[i]? = some true → ∃ v, a.tmps[12 + i]? = some v ∧ good b v0 A o ys v w i
  fin : listed[12]? = some true → ∃ w1 v, Sm b W w1 ∧ Rw w1 b v (chunkT o ys) ∧ w = w1.setCell ⟨P, 0, none⟩ v
section
variable {W : World} {P b : Nat} {v0 : Value} {A : Option Addr} {o ys : List Int} {listed : Array Bool} {a : Act} {w w' : World}
theorem Rg.on (h : Rg W P b v0 A o ys listed a w) {i : Nat} (j : Nat) (hl : listed[i]? = some true) (hc : (ops4[i]?.any fun op => op.after.any fun e => Region.binds .any e && e.on == j) = true) : listed[j]? = some true := by
  cases ho : ops4[i]? with
  | none => rw [ho] at hc; cases hc
  | some op =>
    rw [ho] at hc
    obtain ⟨e, he, hb⟩ := Array.any_eq_true'.1 hc
    simp only [Bool.and_eq_true, beq_iff_eq] at hb
    exact hb.2 ▸ h.cl i op ho hl e he hb.1
theorem rdy_on {i : Nat} (hr : i ∈ Region.ready .any ops4 listed) (j : Nat) (hs : listed.size = 13) (hj : j < 13) (hc : (ops4[i]?.any fun op => op.after.any fun e => Region.binds .any e && e.on == j) = true) : listed[j]? = some true := by
  unfold Region.ready at hr
  rw [List.mem_filter] at hr
  have h2 := hr.2
  rw [Bool.and_eq_true] at h2
  cases ho : ops4[i]? with
  | none => rw [ho] at hc; cases hc
  | some op =>
    rw [ho] at hc h2
    obtain ⟨e, he, hb⟩ := Array.any_eq_true'.1 hc
    simp only [Bool.and_eq_true, beq_iff_eq] at hb
    have h3 := h2.2
    simp only [Option.map_some, Option.getD_some] at h3
    have h4 := Array.all_eq_true'.1 h3 e he
    rw [hb.1, hb.2] at h4
    simp only [Bool.not_true, Bool.false_or] at h4
    rw [Array.getD_eq_getD_getElem?, Array.getElem?_eq_getElem (by omega)] at h4
    rw [Array.getElem?_eq_getElem (by omega)]
    simpa using h4
theorem set_at (h : listed.size = 13) {i : Nat} (hi : i < 13) (j : Nat) : (listed.setIfInBounds i true)[j]? = if i = j then some true else listed[j]? := by
  rw [Array.getElem?_setIfInBounds]
  split
  · rename_i e; rw [if_pos (by omega)]
  · rfl
theorem cl_step (h : Rg W P b v0 A o ys listed a w) {i : Nat} (hi : i < 13) (hr : i ∈ Region.ready .any ops4 listed) (hof : ∀ (j : Nat) (op : Oper), ops4[j]? = some op → ∀ e ∈ op.after, e.on < 13) :
    ∀ (j : Nat) (op : Oper), ops4[j]? = some op → (listed.setIfInBounds i true)[j]? = some true → ∀ e ∈ op.after, Region.binds .any e = true → (listed.setIfInBounds i true)[e.on]? = some true := by
  intro j op ho hl e he hb
  rw [set_at h.lsz hi] at hl ⊢
  by_cases hie : i = e.on
  · rw [if_pos hie]
  · rw [if_neg hie]
    by_cases hij : i = j
    · subst hij
      refine rdy_on hr e.on h.lsz (hof _ _ ho e he) ?_
      rw [ho]
      exact Array.any_eq_true'.2 ⟨e, he, by simp [hb]⟩
    · rw [if_neg hij] at hl
      exact h.cl j op ho hl e he hb
theorem Rg.step (h : Rg W P b v0 A o ys listed a w) {i : Nat} (hi : i < 12) (hr : i ∈ Region.ready .any ops4 listed) (hof : ∀ (j : Nat) (op : Oper), ops4[j]? = some op → ∀ e ∈ op.after, e.on < 13) {v : Value} (hl : listed[i]? = some false)
    (hs : listed[12]? = some false → Sm b w w' ∧ good b v0 A o ys v w' i) (h10 : listed[10]? = some true → Below w.heap.size w w') : Rg W P b v0 A o ys (listed.setIfInBounds i true) (a.put (some (12 + i)) v) w' := by
  have hput : ∀ j, (a.put (some (12 + i)) v).tmps[j]? = if 12 + i = j then some v else a.tmps[j]? := fun j => by
    show (a.tmps.setIfInBounds (12 + i) v)[j]? = _
    rw [Array.getElem?_setIfInBounds]
    split
    · rename_i e; rw [if_pos (by rw [h.sz]; omega)]
    · rfl
  have h12f : listed[12]? = some true → False := fun h12 => by
    rcases (show i = 0 ∨ i = 1 ∨ i = 2 ∨ i = 3 ∨ i = 4 ∨ i = 5 ∨ i = 6 ∨ i = 7 ∨ i = 8 ∨ i = 9 ∨ i = 10 ∨ i = 11 by omega) with rfl | rfl | rfl | rfl | rfl | rfl | rfl | rfl | rfl | rfl | rfl | rfl
    all_goals (rw [h.on _ h12 (by kernel_rfl)] at hl; cases hl)
  refine ⟨?_, by rw [Array.size_setIfInBounds]; exact h.lsz, ?_, ?_, cl_step h (by omega) hr hof, ?_, ?_⟩
  · show (a.tmps.setIfInBounds (12 + i) v).size = 26
    rw [Array.size_setIfInBounds]; exact h.sz
  · rw [hput, if_neg (by omega)]; exact h.t5
  · rw [hput, if_neg (by omega)]; exact h.t6
  · intro h12
    rw [set_at h.lsz (by omega), if_neg (by omega)] at h12
    obtain ⟨hs1, hs2⟩ := hs h12
    obtain ⟨hp1, hp2⟩ := h.pre h12
    refine ⟨hp1.trans hs1, fun j hj hlj => ?_⟩
    rw [hput]
    by_cases hij : i = j
    · subst hij
      rw [if_pos rfl]
      exact ⟨v, rfl, hs2⟩
    · rw [if_neg (by omega)]
      rw [set_at h.lsz (by omega), if_neg hij] at hlj
      obtain ⟨vj, hv, hg⟩ := hp2 j hj hlj
      refine ⟨vj, hv, ?_⟩
      rcases (show j < 10 ∨ j = 10 ∨ j = 11 by omega) with hj | rfl | rfl
      · exact good_same hj hg hs1
      · have hbl := h10 hlj
        obtain ⟨g, ty, L, e, hk, hC, hjn, hL⟩ := hg
        exact ⟨g, ty, L, e, (hbl.block g (blk_lt hk)).trans hk, fun x hx => Kd.C_below (hC x hx) hbl, hjn, hL⟩
      · exfalso
        have h10l := h.on 10 hlj (by kernel_rfl)
        have h0 := h.on 0 h10l (by kernel_rfl)
        have h4 := h.on 4 h10l (by kernel_rfl)
        have h3 := h.on 3 h4 (by kernel_rfl)
        have h2 := h.on 2 h3 (by kernel_rfl)
        have h1 := h.on 1 h2 (by kernel_rfl)
        have h6 := h.on 6 h10l (by kernel_rfl)
        have h5 := h.on 5 h6 (by kernel_rfl)
        have h7 := h.on 7 h10l (by kernel_rfl)
        have h9 := h.on 9 h10l (by kernel_rfl)
        have h8 := h.on 8 h9 (by kernel_rfl)
        rcases (show i = 0 ∨ i = 1 ∨ i = 2 ∨ i = 3 ∨ i = 4 ∨ i = 5 ∨ i = 6 ∨ i = 7 ∨ i = 8 ∨ i = 9 ∨ i = 10 by omega) with rfl | rfl | rfl | rfl | rfl | rfl | rfl | rfl | rfl | rfl | rfl
        all_goals simp_all
  · intro h12
    rw [set_at h.lsz (by omega), if_neg (by omega)] at h12
    exact (h12f h12).elim
end
end Go.Proofs.YtdhajdgcgjbdnaaDoor.Chunk

namespace Go.Proofs.YtdhajdgcgjbdnaaDoor.Chunk
open Go.RowKit Go.Shelf Go.Proofs.YtdhajdgcgjbdnaaDoor.G Go.Proofs.YtdhajdgcgjbdnaaDoorW.PrintWords Go.Proofs.YtdhajdgcgjbdnaaDoorW.PrintMore Go.Proofs.YtdhajdgcgjbdnaaDoor.Foot Go.Proofs.YtdhajdgcgjbdnaaDoor.Plain
attribute [local go_sem] Oper.semAt_some
section
variable {W : World} {P b : Nat} {v0 : Value} {A : Option Addr} {o ys : List Int} {listed : Array Bool} {a : Act} {w w' : World}
theorem Rg.opened (h : Rg W P b v0 A o ys listed a w) {i : Nat} (hi : i < 12) (hl : listed[i]? = some false) : listed[12]? = some false := by
  cases hx : listed[12]? with
  | none =>
    rw [Array.getElem?_eq_none_iff, h.lsz] at hx
    omega
  | some x =>
    cases x with
    | false => rfl
    | true =>
      exfalso
      rcases (show i = 0 ∨ i = 1 ∨ i = 2 ∨ i = 3 ∨ i = 4 ∨ i = 5 ∨ i = 6 ∨ i = 7 ∨ i = 8 ∨ i = 9 ∨ i = 10 ∨ i = 11 by omega) with rfl | rfl | rfl | rfl | rfl | rfl | rfl | rfl | rfl | rfl | rfl | rfl
      all_goals (rw [h.on _ hx (by kernel_rfl)] at hl; cases hl)
theorem of_on (j : Nat) (op : Oper) (h : ops4[j]? = some op) : ∀ e ∈ op.after, e.on < 13 := by
  have key : (ops4.all fun op => op.after.all fun e => decide (e.on < 13)) = true := by kernel_rfl
  intro e he
  have h1 := Array.all_eq_true'.1 key op (Array.mem_of_getElem? h)
  have h2 := Array.all_eq_true'.1 h1 e he
  simpa using h2
/-- What the region begins with. -/
structure Hw (W : World) (P b : Nat) (A0 : Option Addr) (c0 : Nat) (A : Option Addr) (o ys : List Int) : Prop where
  size : W.heap.size = b
  blk : W.heap[P]? = some (.cells #[.slice A0 o.length c0] 22 (0, 0))
  row : Kd.C (Kd.int .u8) W A0 o.length o
  arg : Kd.C (Kd.int .u8) W A ys.length ys
  tz : Tz W
  y1 : 1 ≤ ys.length
  yl : ys.length ≤ 1000000
  ol : o.length ≤ 900000000
variable {A0 : Option Addr} {c0 n l : Nat} {Q : Exit → Act → World → Prop}
theorem Sm.size {b : Nat} {w w' : World} (h : Sm b w w') : w.heap.size ≤ w'.heap.size := h.below.size
theorem step0 (hw : Hw W P b A0 c0 A o ys) (h : Rg W P b (.slice A0 o.length c0) A o ys listed a w) (hr : 0 ∈ Region.ready .any ops4 listed) (hl : listed[0]? = some false) :
    wpOpIn (FR l) n Tryd.prog ops4 Q 0 (fun a' w' => Rg W P b (.slice A0 o.length c0) A o ys (listed.setIfInBounds 0 true) a' w') a w := by
  have h12 := h.opened (by decide) hl
  have hS := (h.pre h12).1
  have e5 := h.t5
  have hc := hS.cell (show W.cell? ⟨P, 0, none⟩ = some (.slice A0 o.length c0) from blk_cell hw.blk 0)
  exact op_val (o := o0) rfl rfl (v := .slice A0 o.length c0) (w' := w) (by unfold o0; go_simp) (h.step (i := 0) (by decide) hr of_on hl (fun _ => ⟨Sm.refl _ _, rfl⟩) (fun _ => Below.refl _ _))
theorem step1 (hw : Hw W P b A0 c0 A o ys) (h : Rg W P b (.slice A0 o.length c0) A o ys listed a w) (hr : 1 ∈ Region.ready .any ops4 listed) (hl : listed[1]? = some false) :
    wpOpIn (FR l) n Tryd.prog ops4 Q 1 (fun a' w' => Rg W P b (.slice A0 o.length c0) A o ys (listed.setIfInBounds 1 true) a' w') a w := by
  have e6 := h.t6
  exact op_val (o := o1) rfl rfl (v := .slice A ys.length ys.length) (w' := w) (by unfold o1; go_simp) (h.step (i := 1) (by decide) hr of_on hl (fun _ => ⟨Sm.refl _ _, rfl⟩) (fun _ => Below.refl _ _))
theorem step7 (hw : Hw W P b A0 c0 A o ys) (h : Rg W P b (.slice A0 o.length c0) A o ys listed a w) (hr : 7 ∈ Region.ready .any ops4 listed) (hl : listed[7]? = some false) :
    wpOpIn (FR l) n Tryd.prog ops4 Q 7 (fun a' w' => Rg W P b (.slice A0 o.length c0) A o ys (listed.setIfInBounds 7 true) a' w') a w := by
  have e6 := h.t6
  exact op_val (o := o7) rfl rfl (v := .slice A ys.length ys.length) (w' := w) (by unfold o7; go_simp) (h.step (i := 7) (by decide) hr of_on hl (fun _ => ⟨Sm.refl _ _, rfl⟩) (fun _ => Below.refl _ _))
theorem step2 (hw : Hw W P b A0 c0 A o ys) (h : Rg W P b (.slice A0 o.length c0) A o ys listed a w) (hr : 2 ∈ Region.ready .any ops4 listed) (hl : listed[2]? = some false) :
    wpOpIn (FR l) n Tryd.prog ops4 Q 2 (fun a' w' => Rg W P b (.slice A0 o.length c0) A o ys (listed.setIfInBounds 2 true) a' w') a w := by
  obtain ⟨v, hv, rfl⟩ := (h.pre (h.opened (by decide) hl)).2 1 (by decide) (rdy_on hr 1 h.lsz (by decide) (by kernel_rfl))
  have e1 : a.tmps[13]? = _ := hv
  exact op_val (o := o2) rfl rfl (v := .int .i64 (ys.length : Int)) (w' := w) (by unfold o2; go_simp) (h.step (i := 2) (by decide) hr of_on hl (fun _ => ⟨Sm.refl _ _, rfl⟩) (fun _ => Below.refl _ _))
theorem step3 (hw : Hw W P b A0 c0 A o ys) (h : Rg W P b (.slice A0 o.length c0) A o ys listed a w) (hr : 3 ∈ Region.ready .any ops4 listed) (hl : listed[3]? = some false) :
    wpOpIn (FR l) n Tryd.prog ops4 Q 3 (fun a' w' => Rg W P b (.slice A0 o.length c0) A o ys (listed.setIfInBounds 3 true) a' w') a w := by
  have h12 := h.opened (by decide) hl
  have hS := (h.pre h12).1
  obtain ⟨v, hv, rfl⟩ := (h.pre h12).2 2 (by decide) (rdy_on hr 2 h.lsz (by decide) (by kernel_rfl))
  have e1 : a.tmps[14]? = _ := hv
  have hT : Tz w := hS.cell hw.tz
  have eg := enters_of Tryd.func20 (by kernel_rfl) rfl
  have hrun : (o3.semAt (FR l).round a.eval).run Tryd.prog w = .ok (.enter 20 #[.int .i64 (ys.length : Int), .int .i64 16]) w := by unfold o3; go_simp
  refine op_in (o := o3) rfl rfl ?_
  rw [hrun, Oper.uponIn_enter]
  refine ⟨fun hd => (by cases hd), (CallsIn.inRound l (callsIn_wide.2 (fmt16 ys.length w hT (by have := hw.yl; omega)))).mono ?_⟩
  rintro e w1 ⟨rfl, hb⟩
  exact h.step (i := 3) (by decide) hr of_on hl (fun _ => ⟨Sm.of_below hb (by rw [← hw.size]; exact hS.size), rfl⟩) (fun _ => hb)
theorem hexC_rng (d : Nat) (h : d < 16) : 0 ≤ hexC d ∧ hexC d ≤ 255 := by unfold hexC; split <;> omega
theorem hexT_rng : ∀ (f u : Nat), u < 16 ^ f → ∀ c ∈ hexT f u, 0 ≤ c ∧ c ≤ 255 := by
  intro f
  induction f with
  | zero =>
    intro u hu c hc
    rw [hexT, List.mem_singleton] at hc
    subst hc
    exact hexC_rng u (by omega)
  | succ f ih =>
    intro u hu c hc
    rw [hexT] at hc
    split at hc
    · rename_i h
      rw [List.mem_singleton] at hc
      subst hc
      exact hexC_rng u h
    · rw [List.mem_append, List.mem_singleton] at hc
      rcases hc with hc | rfl
      · exact ih (u / 16) (by rw [Nat.div_lt_iff_lt_mul (by decide), ← Nat.pow_succ]; exact hu) c hc
      · exact hexC_rng _ (Nat.mod_lt _ (by decide))
theorem hexT_length : ∀ (f u : Nat), (hexT f u).length ≤ f + 1 ∧ 1 ≤ (hexT f u).length := by
  intro f
  induction f with
  | zero => intro u; simp [hexT]
  | succ f ih =>
    intro u
    rw [hexT]
    split
    · simp
    · have := ih (u / 16)
      simp only [List.length_append, List.length_singleton]
      omega
theorem step5 (hw : Hw W P b A0 c0 A o ys) (h : Rg W P b (.slice A0 o.length c0) A o ys listed a w) (hr : 5 ∈ Region.ready .any ops4 listed) (hl : listed[5]? = some false) :
    wpOpIn (FR l) n Tryd.prog ops4 Q 5 (fun a' w' => Rg W P b (.slice A0 o.length c0) A o ys (listed.setIfInBounds 5 true) a' w') a w := by
  have hS := (h.pre (h.opened (by decide) hl)).1
  exact op_val (o := o5) rfl rfl (v := .slice (some ⟨w.heap.size, 0, none⟩) 2 2) (w' := w.alloc (.cells #[.int .u8 13, .int .u8 10] 5)) (by unfold o5; go_simp) (h.step (i := 5) (by decide) hr of_on hl (fun _ => ⟨Sm.of_below (below_alloc (Below.refl _ _) _) (by rw [← hw.size]; exact hS.size), _, _, rfl, by rw [← hw.size]; exact hS.size, blk_new w _⟩) (fun _ => below_alloc (Below.refl _ _) _))
theorem step8 (hw : Hw W P b A0 c0 A o ys) (h : Rg W P b (.slice A0 o.length c0) A o ys listed a w) (hr : 8 ∈ Region.ready .any ops4 listed) (hl : listed[8]? = some false) :
    wpOpIn (FR l) n Tryd.prog ops4 Q 8 (fun a' w' => Rg W P b (.slice A0 o.length c0) A o ys (listed.setIfInBounds 8 true) a' w') a w := by
  have hS := (h.pre (h.opened (by decide) hl)).1
  exact op_val (o := o8) rfl rfl (v := .slice (some ⟨w.heap.size, 0, none⟩) 2 2) (w' := w.alloc (.cells #[.int .u8 13, .int .u8 10] 5)) (by unfold o8; go_simp) (h.step (i := 8) (by decide) hr of_on hl (fun _ => ⟨Sm.of_below (below_alloc (Below.refl _ _) _) (by rw [← hw.size]; exact hS.size), _, _, rfl, by rw [← hw.size]; exact hS.size, blk_new w _⟩) (fun _ => below_alloc (Below.refl _ _) _))
theorem bytesWorld_bl (w : World) (e : TypeId) (s : ByteArray) : Below w.heap.size w (Lib.bytesWorld w e s) := by
  refine ⟨?_, ?_, ?_, by rw [Lib.bytesWorld_size]; omega, fun k hk => Lib.bytesWorld_at_old w e s k hk⟩ <;> (unfold Lib.bytesWorld World.freeze; rw [if_neg (by decide)]; rfl)
theorem step4 (hw : Hw W P b A0 c0 A o ys) (h : Rg W P b (.slice A0 o.length c0) A o ys listed a w) (hr : 4 ∈ Region.ready .any ops4 listed) (hl : listed[4]? = some false) :
    wpOpIn (FR l) n Tryd.prog ops4 Q 4 (fun a' w' => Rg W P b (.slice A0 o.length c0) A o ys (listed.setIfInBounds 4 true) a' w') a w := by
  have h12 := h.opened (by decide) hl
  have hS := (h.pre h12).1
  obtain ⟨v, hv, rfl⟩ := (h.pre h12).2 3 (by decide) (rdy_on hr 3 h.lsz (by decide) (by kernel_rfl))
  have e1 : a.tmps[15]? = _ := hv
  obtain ⟨s, hs⟩ : ∃ s, strOfNums (hexT 15 ys.length) = s := ⟨_, rfl⟩
  rw [hs] at e1
  refine op_in (o := o4) rfl rfl ?_
  unfold o4
  go_simp
  rw [Lib.run_convert_string_bytes w 9 22 5 s Tryd.underlying9 Tryd.underlying22 Tryd.underlying5]
  have hrg := hexT_rng 15 ys.length (pow15 (by have := hw.yl; omega))
  have hsz : s.size = (hexT 15 ys.length).length := by rw [← hs]; exact str_size _ hrg
  have hbo : bytesOf s = hexT 15 ys.length := by rw [← hs]; exact bytes_of_nums hrg
  have hln := (hexT_length 15 ys.length).1
  have hC := (CS.made w 5 s (by omega)).now
  rw [hsz, hbo] at hC
  have hbl : Below w.heap.size w (Lib.bytesWorld w 5 s) := bytesWorld_bl w 5 s
  rw [hsz]
  exact h.step (i := 4) (by decide) hr of_on hl (fun _ => ⟨Sm.of_below hbl (by rw [← hw.size]; exact hS.size), _, _, rfl, hC⟩) (fun _ => hbl)
theorem run_mark (w : World) (g : Nat) (fr : Nat × Nat) (h : w.heap[g]? = some (.cells #[.int .u8 13, .int .u8 10] 5 fr)) :
    Sem.run Tryd.prog (convert 22 22 (.slice (some ⟨g, 0, none⟩) 2 2)) w = Result.ok (.slice (some ⟨g, 0, none⟩) 2 2) (w.freeze ⟨g, 2, none⟩ 1) := by
  have hsh : w.shape? g = some (5, 2) := by
    unfold World.shape?
    rw [h]
    rfl
  simp [convert, run_underlying Tryd.underlying22, run_underlying Tryd.underlying5, markStringish, hsh]
theorem mark_heap (w : World) (g k : Nat) (C : Array Value) (e : TypeId) (fr : Nat × Nat) (h : w.heap[k]? = some (.cells C e fr)) : ∃ fr', (w.freeze ⟨g, 2, none⟩ 1).heap[k]? = some (.cells C e fr') := by
  unfold World.freeze
  rw [if_neg (by decide)]
  dsimp only
  rw [Array.getElem?_modify]
  by_cases hk : g = k
  · rw [if_pos hk, h]
    exact ⟨_, rfl⟩
  · rw [if_neg hk]
    exact ⟨fr, h⟩
theorem mark_same (b : Nat) (w : World) (g : Nat) (hg : b ≤ g) : Sm b w (w.freeze ⟨g, 2, none⟩ 1) := by
  refine ⟨?_, fun k C e fr h => mark_heap w g k C e fr h⟩
  refine ⟨rfl, rfl, rfl, ?_, fun k hk => ?_⟩
  · unfold World.freeze
    rw [if_neg (by decide)]
    simp
  · unfold World.freeze
    rw [if_neg (by decide)]
    dsimp only
    rw [Array.getElem?_modify, if_neg (by omega)]
theorem no10 (h : Rg W P b (.slice A0 o.length c0) A o ys listed a w) {i : Nat} (hi : i < 10) (hl : listed[i]? = some false) : listed[10]? = some true → False := fun h10l => by
  have h0 := h.on 0 h10l (by kernel_rfl)
  have h4 := h.on 4 h10l (by kernel_rfl)
  have h3 := h.on 3 h4 (by kernel_rfl)
  have h2 := h.on 2 h3 (by kernel_rfl)
  have h1 := h.on 1 h2 (by kernel_rfl)
  have h6 := h.on 6 h10l (by kernel_rfl)
  have h5 := h.on 5 h6 (by kernel_rfl)
  have h7 := h.on 7 h10l (by kernel_rfl)
  have h9 := h.on 9 h10l (by kernel_rfl)
  have h8 := h.on 8 h9 (by kernel_rfl)
  rcases (show i = 0 ∨ i = 1 ∨ i = 2 ∨ i = 3 ∨ i = 4 ∨ i = 5 ∨ i = 6 ∨ i = 7 ∨ i = 8 ∨ i = 9 by omega) with rfl | rfl | rfl | rfl | rfl | rfl | rfl | rfl | rfl | rfl
  all_goals simp_all
theorem step6 (hw : Hw W P b A0 c0 A o ys) (h : Rg W P b (.slice A0 o.length c0) A o ys listed a w) (hr : 6 ∈ Region.ready .any ops4 listed) (hl : listed[6]? = some false) :
    wpOpIn (FR l) n Tryd.prog ops4 Q 6 (fun a' w' => Rg W P b (.slice A0 o.length c0) A o ys (listed.setIfInBounds 6 true) a' w') a w := by
  obtain ⟨v, hv, g, fr, rfl, hg, hk⟩ := (h.pre (h.opened (by decide) hl)).2 5 (by decide) (rdy_on hr 5 h.lsz (by decide) (by kernel_rfl))
  have e1 : a.tmps[17]? = _ := hv
  have hrun := run_mark w g fr hk
  obtain ⟨fr', hk'⟩ := mark_heap w g g _ _ fr hk
  exact op_val (o := o6) rfl rfl (v := .slice (some ⟨g, 0, none⟩) 2 2) (w' := w.freeze ⟨g, 2, none⟩ 1) (by unfold o6; go_simp) (h.step (i := 6) (by decide) hr of_on hl (fun _ => ⟨mark_same b w g hg, g, fr', rfl, hg, hk'⟩) (fun h10 => (no10 h (by decide) hl h10).elim))
theorem step9 (hw : Hw W P b A0 c0 A o ys) (h : Rg W P b (.slice A0 o.length c0) A o ys listed a w) (hr : 9 ∈ Region.ready .any ops4 listed) (hl : listed[9]? = some false) :
    wpOpIn (FR l) n Tryd.prog ops4 Q 9 (fun a' w' => Rg W P b (.slice A0 o.length c0) A o ys (listed.setIfInBounds 9 true) a' w') a w := by
  obtain ⟨v, hv, g, fr, rfl, hg, hk⟩ := (h.pre (h.opened (by decide) hl)).2 8 (by decide) (rdy_on hr 8 h.lsz (by decide) (by kernel_rfl))
  have e1 : a.tmps[20]? = _ := hv
  have hrun := run_mark w g fr hk
  obtain ⟨fr', hk'⟩ := mark_heap w g g _ _ fr hk
  exact op_val (o := o9) rfl rfl (v := .slice (some ⟨g, 0, none⟩) 2 2) (w' := w.freeze ⟨g, 2, none⟩ 1) (by unfold o9; go_simp) (h.step (i := 9) (by decide) hr of_on hl (fun _ => ⟨mark_same b w g hg, g, fr', rfl, hg, hk'⟩) (fun h10 => (no10 h (by decide) hl h10).elim))
theorem C_crlf {v : Value} (h : crlfB b v w) : ∃ g, v = sv (some ⟨g, 0, none⟩, 2, [13, 10]) ∧ Kd.C (Kd.int .u8) w (some ⟨g, 0, none⟩) ([13, 10] : List Int).length [13, 10] := by
  obtain ⟨g, fr, rfl, _, hk⟩ := h
  exact ⟨g, rfl, C_row hk rfl (by decide)⟩
theorem chunkT_length (o ys : List Int) : 1 ≤ (chunkT o ys).length ∧ (chunkT o ys).length ≤ o.length + ys.length + 20 := by
  have := hexT_length 15 ys.length
  unfold chunkT
  simp only [List.length_append, List.length_cons, List.length_nil]
  omega
theorem step10 (hw : Hw W P b A0 c0 A o ys) (h : Rg W P b (.slice A0 o.length c0) A o ys listed a w) (hr : 10 ∈ Region.ready .any ops4 listed) (hl : listed[10]? = some false) :
    wpOpIn (FR l) n Tryd.prog ops4 Q 10 (fun a' w' => Rg W P b (.slice A0 o.length c0) A o ys (listed.setIfInBounds 10 true) a' w') a w := by
  have h12 := h.opened (by decide) hl
  have hS := (h.pre h12).1
  obtain ⟨_, hv0, rfl⟩ := (h.pre h12).2 0 (by decide) (rdy_on hr 0 h.lsz (by decide) (by kernel_rfl))
  obtain ⟨_, hv4, A4, c4, rfl, hC4⟩ := (h.pre h12).2 4 (by decide) (rdy_on hr 4 h.lsz (by decide) (by kernel_rfl))
  obtain ⟨v6, hv6, hg6⟩ := (h.pre h12).2 6 (by decide) (rdy_on hr 6 h.lsz (by decide) (by kernel_rfl))
  obtain ⟨_, hv7, rfl⟩ := (h.pre h12).2 7 (by decide) (rdy_on hr 7 h.lsz (by decide) (by kernel_rfl))
  obtain ⟨v9, hv9, hg9⟩ := (h.pre h12).2 9 (by decide) (rdy_on hr 9 h.lsz (by decide) (by kernel_rfl))
  obtain ⟨g6, rfl, hC6⟩ := C_crlf hg6
  obtain ⟨g9, rfl, hC9⟩ := C_crlf hg9
  have e12 : a.tmps[12]? = _ := hv0
  have e16 : a.tmps[16]? = _ := hv4
  have e18 : a.tmps[18]? = some (.slice (some ⟨g6, 0, none⟩) 2 2) := hv6
  have e19 : a.tmps[19]? = _ := hv7
  have e21 : a.tmps[21]? = some (.slice (some ⟨g9, 0, none⟩) 2 2) := hv9
  clear hv0 hv4 hv6 hv7 hv9
  have hbl : ∀ C : Array Value, Below w.heap.size w (w.alloc (.cells C 22)) := fun C => below_alloc (Below.refl _ _) _
  refine op_val (o := o10) rfl rfl (v := .slice (some ⟨w.heap.size, 0, none⟩) 5 5) (w' := w.alloc (.cells #[.slice A0 o.length c0, .slice A4 (hexT 15 ys.length).length c4, .slice (some ⟨g6, 0, none⟩) 2 2, .slice A ys.length ys.length, .slice (some ⟨g9, 0, none⟩) 2 2] 22)) (by unfold o10; go_simp) ?_
  refine h.step (i := 10) (by decide) hr of_on hl (fun _ => ⟨Sm.of_below (hbl _) (by rw [← hw.size]; exact hS.size), w.heap.size, 22, [(A0, c0, o), (A4, c4, hexT 15 ys.length), (some ⟨g6, 0, none⟩, 2, [13, 10]), (A, ys.length, ys), (some ⟨g9, 0, none⟩, 2, [13, 10])], rfl, blk_new w _, ?_, ?_, rfl⟩) (fun h10 => by rw [hl] at h10; cases h10)
  · intro x hx
    simp only [List.mem_cons, List.not_mem_nil, or_false] at hx
    rcases hx with rfl | rfl | rfl | rfl | rfl
    · exact Kd.C_below (C_same hS hw.row) (hbl _)
    · exact Kd.C_below hC4 (hbl _)
    · exact Kd.C_below hC6 (hbl _)
    · exact Kd.C_below (C_same hS hw.arg) (hbl _)
    · exact Kd.C_below hC9 (hbl _)
  · simp [joined, chunkT]
theorem step11 (hw : Hw W P b A0 c0 A o ys) (h : Rg W P b (.slice A0 o.length c0) A o ys listed a w) (hr : 11 ∈ Region.ready .any ops4 listed) (hl : listed[11]? = some false) :
    wpOpIn (FR l) n Tryd.prog ops4 Q 11 (fun a' w' => Rg W P b (.slice A0 o.length c0) A o ys (listed.setIfInBounds 11 true) a' w') a w := by
  have h12 := h.opened (by decide) hl
  have hS := (h.pre h12).1
  have hbw : b ≤ w.heap.size := by rw [← hw.size]; exact hS.size
  obtain ⟨_, hv, g, ty, L, rfl, hk, hC, hj, hL⟩ := (h.pre h12).2 10 (by decide) (rdy_on hr 10 h.lsz (by decide) (by kernel_rfl))
  have e1 : a.tmps[22]? = _ := hv
  have eg := enters_of Tryd.func19 (by kernel_rfl) rfl
  have hln := chunkT_length o ys
  have hy := hw.yl
  have ho := hw.ol
  have hrun : (o11.semAt (FR l).round a.eval).run Tryd.prog w = .ok (.enter 19 #[.slice (some ⟨g, 0, none⟩) L.length L.length]) w := by unfold o11; go_simp
  refine op_in (o := o11) rfl rfl ?_
  rw [hrun, Oper.uponIn_enter]
  refine ⟨fun hd => (by cases hd), (CallsIn.inRound l (callsIn_wide.2 (concat_calls g ty L w.heap.size w rfl hk hC (by rw [hj]; exact hln.1) (by rw [hj]; omega) (by omega)))).mono ?_⟩
  rintro e w1 ⟨v, rfl, hR, hb⟩
  rw [hj] at hR
  exact h.step (i := 11) (by decide) hr of_on hl (fun _ => ⟨Sm.of_below hb hbw, Kd.R_mono (Kd.R_lower hR hbw) (fun k hk => Nat.le_trans hbw hk)⟩) (fun _ => hb)
theorem step12 (hw : Hw W P b A0 c0 A o ys) (h : Rg W P b (.slice A0 o.length c0) A o ys listed a w) (hr : 12 ∈ Region.ready .any ops4 listed) (hl : listed[12]? = some false) :
    wpOpIn (FR l) n Tryd.prog ops4 Q 12 (fun a' w' => Rg W P b (.slice A0 o.length c0) A o ys (listed.setIfInBounds 12 true) a' w') a w := by
  have hS := (h.pre hl).1
  obtain ⟨v, hv, hR⟩ := (h.pre hl).2 11 (by decide) (rdy_on hr 11 h.lsz (by decide) (by kernel_rfl))
  obtain ⟨A9, c9, rfl⟩ := Kd.R_slice hR
  have e1 : a.tmps[23]? = _ := hv
  have e5 := h.t5
  have hPb : P < b := by rw [← hw.size]; exact blk_lt hw.blk
  have hbp := (hS.below.block P hPb).trans hw.blk
  have hc := blk_cell hbp 0
  have hz := blk_frozen hbp 0
  refine op_in (o := o12) rfl rfl ?_
  unfold o12
  go_simp
  refine ⟨h.sz, by rw [Array.size_setIfInBounds]; exact h.lsz, h.t5, h.t6, cl_step h (by decide) hr of_on, fun h12 => ?_, fun _ => ⟨w, _, hS, hR, rfl⟩⟩
  rw [set_at h.lsz (by decide), if_pos rfl] at h12
  cases h12
theorem ready_all (hs : listed.size = 13) (hr : Region.ready .any ops4 listed = []) : ∀ i, i < 13 → listed[i]? = some true := by
  have hlt : ∀ (j : Nat) (op : Oper), ops4[j]? = some op → ∀ e ∈ op.after, e.on < j := by
    have key : ((List.range 13).all fun j => (ops4[j]?).all fun op => op.after.all fun e => decide (e.on < j)) = true := by kernel_rfl
    intro j op ho e he
    have hj : j < 13 := (Array.getElem?_eq_some_iff.1 ho).1
    have h1 := List.all_eq_true.1 key j (List.mem_range.2 hj)
    rw [ho] at h1
    have h2 := Array.all_eq_true'.1 h1 e he
    simpa using h2
  intro i
  induction i using Nat.strongRecOn with
  | ind i ih =>
    intro hi
    cases hx : listed[i]? with
    | none => rw [Array.getElem?_eq_none_iff] at hx; omega
    | some x =>
      cases x with
      | true => rfl
      | false =>
        exfalso
        have hmem : i ∈ Region.ready .any ops4 listed := by
          unfold Region.ready
          rw [List.mem_filter, List.mem_range]
          refine ⟨hi, ?_⟩
          rw [Bool.and_eq_true]
          refine ⟨by rw [Array.getD_eq_getD_getElem?, hx]; rfl, ?_⟩
          obtain ⟨op, ho⟩ : ∃ op, ops4[i]? = some op := ⟨_, Array.getElem?_eq_getElem (show i < ops4.size from hi)⟩
          rw [ho]
          simp only [Option.map_some, Option.getD_some]
          refine Array.all_eq_true'.2 (fun e he => ?_)
          have := hlt i op ho e he
          rw [Array.getD_eq_getD_getElem?, ih e.on this (by omega)]
          simp
        rw [hr] at hmem
        cases hmem
theorem steps (hw : Hw W P b A0 c0 A o ys) (listed : Array Bool) (a : Act) (w : World) (i : Nat) (hs : listed.size = ops4.size) (hr : i ∈ Region.ready .any ops4 listed) (h : Rg W P b (.slice A0 o.length c0) A o ys listed a w) :
    wpOpIn (FR l) n Tryd.prog ops4 Q i (fun a' w' => Rg W P b (.slice A0 o.length c0) A o ys (listed.setIfInBounds i true) a' w') a w := by
  obtain ⟨hi, hl⟩ := ready_mem hr hs
  have hi13 : i < 13 := hi
  rcases (show i = 0 ∨ i = 1 ∨ i = 2 ∨ i = 3 ∨ i = 4 ∨ i = 5 ∨ i = 6 ∨ i = 7 ∨ i = 8 ∨ i = 9 ∨ i = 10 ∨ i = 11 ∨ i = 12 by omega) with rfl | rfl | rfl | rfl | rfl | rfl | rfl | rfl | rfl | rfl | rfl | rfl | rfl
  · exact step0 hw h hr hl
  · exact step1 hw h hr hl
  · exact step2 hw h hr hl
  · exact step3 hw h hr hl
  · exact step4 hw h hr hl
  · exact step5 hw h hr hl
  · exact step6 hw h hr hl
  · exact step7 hw h hr hl
  · exact step8 hw h hr hl
  · exact step9 hw h hr hl
  · exact step10 hw h hr hl
  · exact step11 hw h hr hl
  · exact step12 hw h hr hl
/-- The region, in a round: whatever order comes. -/
theorem region4 (hw : Hw W P b A0 c0 A o ys) (hsz : a.tmps.size = 26) (h5 : a.tmps[5]? = some (.pointer (some ⟨P, 0, none⟩))) (h6 : a.tmps[6]? = some (.slice A ys.length ys.length))
    (hQ : ∀ a' w1 v, Sm b W w1 → Rw w1 b v (chunkT o ys) → Q .normal a' (w1.setCell ⟨P, 0, none⟩ v)) : (Code.region 4 ops4 true).wpIn (FR l) n Tryd.prog Q a W := by
  refine wpIn_region_any (by kernel_rfl) ?_
  refine anyIn_inv (fun listed a w => Rg W P b (.slice A0 o.length c0) A o ys listed a w) ?_ (fun listed a w i hs hr h => steps hw listed a w i hs hr h) _ _ _ _ (by decide +kernel) (by simp) ?_
  · intro listed a w hr h
    obtain ⟨w1, v, hS, hR, rfl⟩ := h.fin (ready_all h.lsz hr 12 (by decide))
    exact hQ a w1 v hS hR
  · have hnone : ∀ i : Nat, (Array.replicate ops4.size false)[i]? = some true → False := fun i h => by
      rw [Array.getElem?_replicate] at h
      split at h <;> cases h
    refine ⟨hsz, by kernel_rfl, h5, h6, fun i op _ hl => (hnone i hl).elim, fun _ => ⟨Sm.of_below (below_drew (Below.refl _ _)) (Nat.le_of_eq hw.size.symm), fun i _ hl => (hnone i hl).elim⟩, fun hl => (hnone 12 hl).elim⟩
end
end Go.Proofs.YtdhajdgcgjbdnaaDoor.Chunk

namespace Go.Proofs.YtdhajdgcgjbdnaaDoor.Chunk
open Go.RowKit Go.Shelf Go.Proofs.YtdhajdgcgjbdnaaDoor.G Go.Proofs.YtdhajdgcgjbdnaaDoorW.PrintWords Go.Proofs.YtdhajdgcgjbdnaaDoorW.PrintMore Go.Proofs.YtdhajdgcgjbdnaaDoor.Foot Go.Proofs.YtdhajdgcgjbdnaaDoor.Plain
attribute [local go_sem] Oper.semAt_some

/-- A chunk's bytes. -/
def piece (xs : List Int) (z i : Nat) : List Int := (xs.drop i).take (min z (xs.length - i))
theorem piece_length (xs : List Int) (z i : Nat) : (piece xs z i).length = min z (xs.length - i) := by
  unfold piece
  rw [List.length_take, List.length_drop]
  omega
/-- What stands when chunks that begin there have been written. -/
def encS (xs : List Int) (z : Nat) (l : List Nat) : List Int := l.foldl (fun o i => chunkT o (piece xs z i)) []
theorem encS_snoc (xs : List Int) (z : Nat) (l : List Nat) (i : Nat) : encS xs z (l ++ [i]) = chunkT (encS xs z l) (piece xs z i) := by simp [encS]
abbrev Ix (n : Nat) := { x : Nat // x < n }
def encX (xs : List Int) (z : Nat) (l : List (Ix xs.length)) : List Int := encS xs z (l.map (·.1))
/-- Between two rounds. -/
def Ip (xs : List Int) (z P : Nat) (w : World) (pre : List (Ix xs.length)) (W : World) : Prop :=
  ((∃ v, W.heap[P]? = some (.cells #[v] 22 (0, 0)) ∧ Kd.R (Kd.int .u8) 5 W (P + 3) (fun k => P + 3 ≤ k) v (encX xs z pre)) ∧ (encX xs z pre).length ≤ pre.length * (xs.length + 20) ∧ P + 3 ≤ W.heap.size) ∧ Below P w W
theorem Ip_own (xs : List Int) (z P : Nat) (w : World) (hw : P ≤ w.heap.size) {B : Nat} (hB : P ≤ B) : OwnFrom B (Ip xs z P w) := by
  refine OwnFrom.and (Own.from ?_ _) (ownFrom_below hw hB)
  rintro pre W W' row ⟨⟨v, hb, hR⟩, hl, hs⟩ hg hr
  have hne : ∀ k C e fr, W.heap[k]? = some (Obj.cells C e fr) → W'.heap[k]? = some (Obj.cells C e fr) := fun k C e fr hk => by
    refine (hg.block k (blk_lt hk) (fun e2 => ?_)).trans hk
    obtain ⟨o, ho, hc⟩ := hr k e2.symm
    rw [hk] at ho
    cases ho
    cases hc
  refine ⟨⟨v, hne _ _ _ _ hb, ?_⟩, hl, Nat.le_trans hs hg.size⟩
  have hRb := Kd.R_bound hR
  refine Kd.R_mono (Kd.R_move hRb (fun k hk => ?_)) (fun k hk => hk.1)
  obtain ⟨_, _, _, q, _, cells, hc⟩ := hk
  rw [hc]
  exact hne _ _ _ _ hc
theorem C_cut {w : World} {A : Option Addr} {xs : List Int} (h : Kd.C (Kd.int .u8) w A xs.length xs) (i m : Nat) (hm : i + m ≤ xs.length) : Kd.C (Kd.int .u8) w (A.map (fun a => a.add i)) m ((xs.drop i).take m) := by
  obtain ⟨h1, h2, h3⟩ := h
  have hl : ((xs.drop i).take m).length = m := by rw [List.length_take, List.length_drop]; omega
  refine ⟨hl, by omega, fun h0 => ?_⟩
  obtain ⟨ad, ha, hr⟩ := h3 (by omega)
  subst ha
  refine ⟨ad.add i, rfl, fun j x hj => ?_⟩
  have hjm : j < m := by rw [← hl]; exact (List.getElem?_eq_some_iff.1 hj).1
  rw [List.getElem?_take, if_pos hjm, List.getElem?_drop] at hj
  obtain ⟨cs, hcl, hK, hc⟩ := hr (i + j) x hj
  refine ⟨cs, hcl, hK, fun k u hu => ?_⟩
  rw [add_add]
  have := hc k u hu
  rwa [show (i + j) * (Kd.int .u8).sz + k = i + (j * (Kd.int .u8).sz + k) by show (i + j) * 1 + k = i + (j * 1 + k); omega] at this
section
variable {xs : List Int} {z P l B m : Nat} {w W : World} {A : Option Addr} {a : Act}
theorem round_bytes (hP : w.heap.size = P) (hC : Kd.C (Kd.int .u8) w A xs.length xs) (hT : Tz w) (hz : 1 ≤ z) (hn : xs.length ≤ 5000) (hB : P < B) (pre : List (Ix xs.length)) (x : Ix xs.length) (hI : Ip xs z P w pre W) (hpl : pre.length < xs.length)
    (hsz : a.tmps.size = 26) (h5 : a.tmps[5]? = some (.pointer (some ⟨P, 0, none⟩))) (h6 : a.tmps[6]? = some (cutV A xs.length z x.1)) :
    (Code.block 1 (Code.region 4 ops4 true)).wpIn (FR l) m Tryd.prog (ownPostG B (Kc P (P + 3)) (Ip xs z P w) (fun _ _ _ => False) (pre ++ [x]) W) a W := by
  obtain ⟨⟨⟨v, hb, hR⟩, hl, hs⟩, hbl⟩ := hI
  obtain ⟨A0, c0, rfl⟩ := Kd.R_slice hR
  have hy := piece_length xs z x.1
  have hx := x.2
  have hCW : Kd.C (Kd.int .u8) W A xs.length xs := Kd.C_below hC (by rw [hP]; exact hbl)
  have hTW : Tz W := hT.below (by rw [hP]; exact hbl)
  have hmul : pre.length * (xs.length + 20) ≤ 5000 * 5020 := Nat.mul_le_mul (by omega) (by omega)
  have hw : Hw W P W.heap.size A0 c0 (A.map (fun a => a.add x.1)) (encX xs z pre) (piece xs z x.1) := by
    refine ⟨rfl, hb, (Kd.R_reads' hR).2.2, ?_, hTW, by omega, by omega, by omega⟩
    rw [hy]
    exact C_cut hCW x.1 _ (by omega)
  refine wpIn_block ?_
  refine region4 hw hsz h5 (by rw [hy]; exact h6) ?_
  intro a' w1 v1 hS hR1
  have hb1 := (hS.below.block P (by omega)).trans hb
  show KeepsFrom B W (w1.setCell ⟨P, 0, none⟩ v1) ∧ Kc P (P + 3) W (w1.setCell ⟨P, 0, none⟩ v1) ∧ Ip xs z P w (pre ++ [x]) (w1.setCell ⟨P, 0, none⟩ v1)
  have hsize : (w1.setCell ⟨P, 0, none⟩ v1).heap.size = w1.heap.size := by simp [World.setCell]
  have hfar : ∀ k, k ≠ P → (w1.setCell ⟨P, 0, none⟩ v1).heap[k]? = w1.heap[k]? := fun k hk => Below.heap_setCell _ _ _ _ hk
  have hws := hS.below.size
  refine ⟨⟨by rw [hsize]; exact hws, fun k o hk ho hc => ?_⟩, ⟨by rw [hsize]; exact hws, fun k hk hkp => ?_⟩, ⟨⟨v1, blk_put hb1 0 v1 rfl, ?_⟩, ?_, by rw [hsize]; omega⟩, ?_⟩
  · rw [hfar k (by omega), hS.below.block k (Array.getElem?_eq_some_iff.1 ho).1]
    exact ho
  · rw [hfar k hkp, hS.below.block k (by omega)]
  · have := Kd.R_far (Kd.R_lower hR1 hs) (p := ⟨P, 0, none⟩) (fun k hk => by show k ≠ P; omega) v1
    unfold encX at *
    rw [List.map_append, List.map_singleton, encS_snoc]
    exact Kd.R_mono this (fun k hk => Nat.le_trans hs hk)
  · have hct := (chunkT_length (encX xs z pre) (piece xs z x.1)).2
    unfold encX at *
    rw [List.map_append, List.map_singleton, encS_snoc, List.length_append, List.length_singleton, Nat.succ_mul]
    omega
  · exact (hbl.trans (hS.below.mono (by omega))).setCell (p := ⟨P, 0, none⟩) (Nat.le_refl _) v1
end
end Go.Proofs.YtdhajdgcgjbdnaaDoor.Chunk

namespace Go.Proofs.YtdhajdgcgjbdnaaDoor.Chunk
open Go.RowKit Go.Shelf Go.Proofs.YtdhajdgcgjbdnaaDoor.G Go.Proofs.YtdhajdgcgjbdnaaDoorW.PrintWords Go.Proofs.YtdhajdgcgjbdnaaDoorW.PrintMore Go.Proofs.YtdhajdgcgjbdnaaDoor.Foot Go.Proofs.YtdhajdgcgjbdnaaDoor.Plain
attribute [local go_sem] Oper.semAt_some

def BytesPost (xs : List Int) (z b : Nat) (w : World) (e : Ending) (w' : World) : Prop :=
  Below b w w' ∧ ∃ v k, e = .returned v ∧ Rw w' b v (encS xs z (starts z k) ++ [48, 13, 10, 13, 10]) ∧ xs.length ≤ k * z ∧ (k = 0 ∨ (k - 1) * z < xs.length)
set_option maxHeartbeats 4000000 in
set_option maxRecDepth 100000 in
theorem bytes_calls (A : Option Addr) (c z P : Nat) (size : Int) (xs : List Int) (w : World) (hP : w.heap.size = P) (hC : Kd.C (Kd.int .u8) w A xs.length xs) (hc : xs.length ≤ c) (hT : Tz w) (hn : xs.length ≤ 5000) (hz : max size 1 = (z : Int)) (hs : size ≤ 9223372036854775807) :
    Calls Tryd.prog 9 #[.slice A xs.length c, .int .i64 size] w (BytesPost xs z P w) := by
  refine (callsIn_wide (n := 6)).1 ?_
  have hz1 : 1 ≤ z := by omega
  have hz2 : z ≤ 9223372036854775807 := by omega
  have hzi : (1 : Int) ≤ (z : Int) := by omega
  have hmax : max size 1 = (z : Int) := hz
  let a1 : World := w.alloc (.cells #[.slice none 0 0] 22)
  let a2 : World := a1.alloc (.cells #[.slice A xs.length c] 22)
  let a3 : World := a2.alloc (.cells #[.int .i64 (z : Int)] 3)
  have z1 : a1.heap.size = P + 1 := by show (w.alloc _).heap.size = _; rw [World.size_alloc, hP]
  have z2 : a2.heap.size = P + 2 := by show (a1.alloc _).heap.size = _; rw [World.size_alloc, z1]
  have z3 : a3.heap.size = P + 3 := by show (a2.alloc _).heap.size = _; rw [World.size_alloc, z2]
  have b0 : a3.heap[P]? = some (.cells #[.slice none 0 0] 22 (0, 0)) := blk_alloc (blk_alloc (by have := blk_new w (.cells #[.slice none 0 0] 22); rw [hP] at this; exact this) _) _
  have b1 : a3.heap[P + 1]? = some (.cells #[.slice A xs.length c] 22 (0, 0)) := blk_alloc (by have := blk_new a1 (.cells #[.slice A xs.length c] 22); rw [z1] at this; exact this) _
  have b2 : a3.heap[P + 2]? = some (.cells #[.int .i64 (z : Int)] 3 (0, 0)) := by have := blk_new a2 (.cells #[.int .i64 (z : Int)] 3); rw [z2] at this; exact this
  have bb : Below P w a3 := by rw [← hP]; exact below_alloc (below_alloc (below_alloc (Below.refl w.heap.size w) _) _) _
  have H0 := Aside0.mk b0
  have H1 := Aside0.mk b1
  have H2 := Aside0.mk b2
  have HB := Aside0.mk bb
  have HZ := Lib.hid z3
  have HP := Lib.hid hP
  have HC := Aside0.mk hC
  have HT := Aside0.mk hT
  have HN := Lib.hid (show xs.length ≤ 5000 ∧ 1 ≤ z ∧ z ≤ 9223372036854775807 ∧ xs.length ≤ c from ⟨hn, hz1, hz2, hc⟩)
  have ha1 : w.alloc (.cells #[.slice none 0 0] 22) = a1 := rfl
  have ha3 : (a1.alloc (.cells #[.slice A xs.length c] 22)).alloc (.cells #[.int .i64 (z : Int)] 3) = a3 := rfl
  clear_value a3
  have hz1' : a1.heap.size = P + 1 := z1
  clear_value a1
  have HA1 := Lib.hid ha1
  have HA3 := Lib.hid ha3
  have HS1 := Lib.hid hz1'
  clear b0 b1 b2 bb z1 z2 z3 hC hc hT hn hz hs ha1 ha3 hz1' a2 hz1 hz2
  refine callsIn_of_wp_marks Tryd.func9 rfl trivial ?_ rfl
  simp only [Tryd.ntmps9, List.size_toArray, List.length_cons, List.length_nil, Nat.reduceAdd, Nat.reduceSub, Array.replicate_succ, Array.replicate_zero, List.push_toArray, List.append_toArray, List.nil_append, List.cons_append]
  gi_wp2
  refine ⟨trivial, ?_⟩
  rw [HA1.out]
  refine (chunk_calls A xs.length c z _ hzi).mono ?_
  rintro e w' ⟨rfl, hw'⟩
  rw [HA3.out] at hw'
  rw [hw', HS1.out]
  clear hw' w' hzi hmax
  gi_wp2
  refine wpIn_rangeFunc_ownG (w0 := a3) rfl (by decide) (gf := 29) (lb := #[.pointer (some ⟨P + 1, 0, none⟩), .pointer (some ⟨P + 1 + 1, 0, none⟩)]) rfl trivial (enters_of Tryd.func29 (by kernel_rfl) rfl)
    (chunk_stops P (P + 1) (P + 3) A xs.length c z (by omega) (by omega) (by omega) HN.out.2.1 HN.out.2.2.1 (by have := HN.out; omega) HN.out.2.2.2 a3 (Nat.le_of_eq HZ.out.symm) H1.out H2.out) kc_t (kc_b (Nat.le_of_eq HZ.out.symm)) (Below.refl _ _) (fun _ => rfl)
    (Ip xs z P w) (fun _ _ _ => False) (Ip_own xs z P w (Nat.le_of_eq HP.out.symm) (by rw [HZ.out]; omega)) (fun _ _ _ _ _ hs _ _ => hs)
    ⟨⟨⟨_, H0.out, Kd.R_nil _ _ _ _ _⟩, by simp [encX, encS], Nat.le_of_eq HZ.out.symm⟩, HB.out⟩
    (fun x => { tmps := #[.slice A xs.length c, .int .i64 size, undef, undef, .slice none 0 0, .pointer (some ⟨P, 0, none⟩), cutV A xs.length z x.1, .slice A xs.length c, .int .i64 size, .int .i64 (z : Int), .func (.func 29) #[] #[.pointer (some ⟨P + 1, 0, none⟩), .pointer (some ⟨P + 1 + 1, 0, none⟩)], cutV A xs.length z x.1, undef, undef, undef, undef, undef, undef, undef, undef, undef, undef, undef, undef, undef, undef], defers := [] }) ?assign ?body ?done ?stop
  case assign =>
    intro l x W K hK
    gi_wp2
    exact hK
  case body =>
    intro l pre x W hI hpl
    exact round_bytes HP.out HC.out HT.out HN.out.2.1 HN.out.1 (by rw [HZ.out]; omega) pre x hI hpl rfl rfl rfl
  case done =>
    rintro D ys W hD ⟨k, hk1, hk2, hk3⟩ ⟨⟨⟨v, hb, hR⟩, hl, hs⟩, hbl⟩ hK
    obtain ⟨A9, c9, rfl⟩ := Kd.R_slice hR
    have hc0 : W.cell? ⟨P, 0, none⟩ = some (.slice A9 (encX xs z ys).length c9) := blk_cell hb 0
    rename_i K0 ha
    refine ha _ _ ?_
    clear ha
    refine wpIn_seq ?_
    refine wpIn_wide.2 ?_
    have hap : (encX xs z ys).length + (⟨#[48, 13, 10, 13, 10]⟩ : ByteArray).size ≤ 140737488355328 := by
      have h5 : (⟨#[48, 13, 10, 13, 10]⟩ : ByteArray).size = 5 := rfl
      have hy : ys.length ≤ 5000 := by
        have h1 : ys.length = k := by
          have := congrArg List.length hk1
          rw [List.length_map, starts_length] at this
          exact this
        rcases hk3 with h | h
        · omega
        · have h2 := Nat.mul_le_mul_left (k - 1) HN.out.2.1
          have := HN.out.1
          omega
      have := Nat.mul_le_mul hy (show xs.length + 20 ≤ 5020 by have := HN.out.1; omega)
      omega
    have HAP := Lib.hid hap
    have HR := Aside0.mk hR
    have HBL := Aside0.mk hbl
    have HSZ := Lib.hid hs
    have hdr : ∀ k, (P + 3 ≤ k ∧ P + 3 ≤ k ∧ k < W.heap.size ∧ ∃ q, q ∈ 5 :: (Kd.int .u8).E ∧ ∃ cells, W.heap[k]? = some (.cells cells q (0, 0))) → k ≠ D := fun k hk e => by
      obtain ⟨_, _, _, q, _, cells, hc⟩ := hk
      rw [e, hK] at hc
      cases hc
    have HDR := Lib.hid hdr
    have HKD := Lib.hid hK
    clear hap hR hbl hs hdr hK hb hl
    go_wp2_with (first
      | ((with_reducible refine gate_builtin (b := .append) (xs := #[.tmp 24, .const (.string ⟨#[48, 13, 10, 13, 10]⟩)]) rfl ?_); at_builtin; go_must (refine print_append_str (w0 := W) (P + 3) rfl (.tmp 24) (.const (.string ⟨#[48, 13, 10, 13, 10]⟩)) 22 9 5 rfl Tryd.underlying22 Tryd.underlying9 info5 (.slice A9 (encX xs z ys).length c9) (encX xs z ys) ⟨#[48, 13, 10, 13, 10]⟩ rfl rfl ?bO (Below.refl _ _) HSZ.out HAP.out ?_); (case bO => exact Kd.own_of_R (enc := Value.int .u8) (h1 := fun _ => rfl) HR.out); intro v' w9 ho9 hb9 hg9)
      | fail)
    have hKD := HKD.out
    have hK9 : w9.heap[D]? = some (.deferred (some [])) := by
      refine (hg9.block D (Array.getElem?_eq_some_iff.1 hKD).1 (fun e => ?_)).trans hKD
      obtain ⟨cells, hc⟩ := own_typed (Kd.own_of_R (enc := Value.int .u8) (h1 := fun _ => rfl) HR.out) D e.symm
      rw [hKD] at hc
      cases hc
    have hR9 : Rw w9 (P + 3) v' (encX xs z ys ++ [48, 13, 10, 13, 10]) := Kd.R_of_own (enc := Value.int .u8) (h1 := fun _ => rfl) ho9 (own_base ho9)
    have hRf : Rw (w9.putObj D (.deferred none)) P v' (encX xs z ys ++ [48, 13, 10, 13, 10]) := by
      refine Kd.R_mono (Kd.R_lower (Kd.R_move (Kd.R_bound hR9) (fun k hk => World.putObj_heap_other (fun e => ?_))) (by omega)) (fun k hk => by have := hk.1; omega)
      obtain ⟨_, _, _, q, _, cells, hc⟩ := hk
      rw [e, hK9] at hc
      cases hc
    have hbf : Below P w (w9.putObj D (.deferred none)) := HBL.out.trans ((hb9.mono (by omega)).trans (belowK_b (w := w) (Nat.le_of_eq HP.out.symm) w9 D _ _ (by have := HZ.out; have := HP.out; omega) hK9 rfl rfl))
    rw [show encX xs z ys = encS xs z (starts z k) by unfold encX; rw [hk1]] at hRf
    gi_wp2
    refine ⟨by simp, .inl ⟨_, _, rfl, run_takeDeferred hK9, ?_⟩⟩
    exact ⟨_, results_tmp (show (Tryd.f9).results = #[ResultVar.tmp 4] from rfl) _ _ _, hbf, v', k, rfl, hRf, hk2, hk3⟩
  case stop =>
    rintro D c pre W _ _ h _
    exact h.elim
end Go.Proofs.YtdhajdgcgjbdnaaDoor.Chunk
