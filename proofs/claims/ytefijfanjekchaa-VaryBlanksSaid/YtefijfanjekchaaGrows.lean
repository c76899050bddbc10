/- append onto a slice without room, at a step of a region that draws its order. -/
import Derived.ArgAppend
import Derived.Deep.AppendLies
import Derived.Test.YtefijfanjekchaaDrawn
set_option linter.unusedVariables false
namespace Go.Proofs.Ytefijfanjekchaa.Leaf
open Go
theorem step_append_grows {P : Program} (w : World) {ops : Array Oper} {o : Oper} {a : Act} {K : Act → World → Prop} {Q : Exit → Act → World → Prop} {E : Prop}
    (hg : o.guard = none) (s x : Operand) (t : TypeId) (hop : o.op = Op.call { callee := Callee.builtin Builtin.append, args := #[s, x], argTypes := #[t, t] })
    (e : TypeId) (i : TypeInfo) (z : Value) (size bytes : Nat) (h1 : P.underlying t = some (.slice e)) (h2 : P.info? e = some i) (h3 : i.zero = some z) (h4 : i.size = size) (h5 : i.bytes = bytes) (h6 : z.cells.size = size) (h7 : 0 < size)
    (ao : Option Addr) (n cap : Nat) (olds : List Value) (hs : a.eval s = .slice ao n cap) (hnone : ao = none → n = 0 ∧ cap = 0) (hlo : olds.length = n * size) (holds : ∀ b, ao = some b → ∀ j u, olds[j]? = some u → w.cell? (b.add j) = some u)
    (ad : Addr) (m c : Nat) (news : List Value) (hx : a.eval x = .slice (some ad) m c) (hn : news.length = m * size) (hc : ∀ j u, news[j]? = some u → w.cell? (ad.add j) = some u) (h1c : ∀ u ∈ news, u.oneCell' = true)
    (hfull : cap < n + m) (b1 : n + m ≤ maxLen) (b2 : (n + m) * bytes ≤ 140737488355328)
    (hK : ∀ v' w', w'.ownsRow w.heap.size e size v' (n + m) (olds ++ news) → w.grownBy w' none → K (a.put o.dst v') w') :
    if Region.wanted o (yielded ops a.tmps) = true then Oper.wp P o a w K Q else E := by
  have hw : Region.wanted o (yielded ops a.tmps) = true := by simp [Region.wanted, hg]
  rw [if_pos hw]
  cases ao with
  | some b =>
    obtain ⟨v', w', hrun, r1, r2⟩ := run_append_arg_grows (P := P) w t o.type e i z size bytes h1 h2 h3 h4 h5 h6 h7 b n cap olds hlo (holds b rfl) ad m c news hn hc hfull b1 b2
    unfold Oper.wp
    simp [execOp, hop, resolve, invoke, builtin, hs, hx, hrun, Result.andThen]
    exact hK v' w' r1 r2
  | none =>
    obtain ⟨rfl, rfl⟩ := hnone rfl
    obtain rfl : olds = [] := List.eq_nil_of_length_eq_zero (by simpa using hlo)
    obtain ⟨v', w', hrun, r1, r2, _⟩ := run_append_own (P := P) w w.heap.size t o.type e i z size bytes h1 h2 h3 h4 h5 h6 h7 (.slice none 0 0) 0 [] (World.ownsRow_nil w _ e size) ad m c news hn hc h1c b1 b2 (Nat.le_refl _)
    unfold Oper.wp
    simp [execOp, hop, resolve, invoke, builtin, hs, hx, hrun, Result.andThen]
    exact hK v' w' r1 r2
/-- append(v, y...) onto a row of one's own, y whatever is read, none too. -/
theorem run_append_zero {P : Program} (w : World) (base : Nat) (t ty e : TypeId) (i : TypeInfo) (size : Nat) (ht : P.underlying t = some (.slice e)) (hi : P.info? e = some i)
    (v : Value) (n : Nat) (xs : List Value) (hown : w.ownsRow base e size v n xs) (ao : Option Addr) (c : Nat) :
    (Builtin.append_ #[t, t] ty #[v, .slice ao 0 c]).run P w = .ok v w := by
  rcases hown.2 with ⟨rfl, rfl⟩ | ⟨g, cap, cur, rfl, _, _, hnc, _⟩
  · cases ao <;> simp [Builtin.append_, run_underlying ht, sizeOf, typeInfo, hi, Builtin.lenOf, Builtin.firstCells, loadCells, loadCellsFrom, Result.andThen]
  · cases ao <;> simp [Builtin.append_, run_underlying ht, sizeOf, typeInfo, hi, Builtin.lenOf, Builtin.firstCells, hnc, storeCells, loadCells, loadCellsFrom, Result.andThen]
theorem step_append_tail {P : Program} (w : World) {ops : Array Oper} {o : Oper} {a : Act} {K : Act → World → Prop} {Q : Exit → Act → World → Prop} {E : Prop}
    (hg : o.guard = none) (s x : Operand) (t : TypeId) (hop : o.op = Op.call { callee := Callee.builtin Builtin.append, args := #[s, x], argTypes := #[t, t] })
    (base : Nat) (e : TypeId) (i : TypeInfo) (z : Value) (size bytes : Nat) (h1 : P.underlying t = some (.slice e)) (h2 : P.info? e = some i) (h3 : i.zero = some z) (h4 : i.size = size) (h5 : i.bytes = bytes) (h6 : z.cells.size = size) (h7 : 0 < size)
    (v : Value) (n : Nat) (xs : List Value) (hs : a.eval s = v) (hown : w.ownsRow base e size v n xs)
    (ao : Option Addr) (m c : Nat) (news : List Value) (hx : a.eval x = .slice ao m c) (hn : news.length = m * size) (hnone : ao = none → m = 0) (hc : ∀ ad, ao = some ad → ∀ j u, news[j]? = some u → w.cell? (ad.add j) = some u) (h1c : ∀ u ∈ news, u.oneCell' = true)
    (b1 : n + m ≤ maxLen) (b2 : (n + m) * bytes ≤ 140737488355328) (hbase : base ≤ w.heap.size)
    (hK : ∀ v' w', w'.ownsRow base e size v' (n + m) (xs ++ news) → w.grownBy w' v.ownBlock → K (a.put o.dst v') w') :
    if Region.wanted o (yielded ops a.tmps) = true then Oper.wp P o a w K Q else E := by
  have hw : Region.wanted o (yielded ops a.tmps) = true := by simp [Region.wanted, hg]
  rw [if_pos hw]
  rcases Nat.eq_zero_or_pos m with rfl | hm
  · obtain rfl : news = [] := List.eq_nil_of_length_eq_zero (by simpa using hn)
    have hrun := run_append_zero (P := P) w base t o.type e i size h1 h2 v n xs hown ao c
    unfold Oper.wp
    simp [execOp, hop, resolve, invoke, builtin, hs, hx, hrun, Result.andThen]
    exact hK v w (by simpa using hown) (World.grownBy.refl w _)
  · cases ao with
    | none => have := hnone rfl; omega
    | some ad =>
      obtain ⟨v', w', hrun, r1, r2, _⟩ := run_append_own (P := P) w base t o.type e i z size bytes h1 h2 h3 h4 h5 h6 h7 v n xs hown ad m c news hn (hc ad rfl) h1c b1 b2 hbase
      unfold Oper.wp
      simp [execOp, hop, resolve, invoke, builtin, hs, hx, hrun, Result.andThen]
      exact hK v' w' r1 r2
open Go.RowKit Go.Proofs.YtefijfanjekchaaW.PrintWords in
theorem reads_cells {w : World} {A : Option Addr} {n : Nat} {xs : List ByteArray} (h : ReadsOf Value.string ByteArray.empty w A n xs) :
    (A = none → n = 0) ∧ ∀ ad, A = some ad → ∀ j u, (xs.map Value.string)[j]? = some u → w.cell? (ad.add j) = some u := by
  refine ⟨fun e => ?_, fun ad e j u hj => ?_⟩
  · rcases Nat.eq_zero_or_pos n with h0 | h0
    · exact h0
    · obtain ⟨ad, e2, _⟩ := h.2.2 h0
      rw [e] at e2; cases e2
  · rw [List.getElem?_map] at hj
    obtain ⟨x, hx, rfl⟩ := Option.map_eq_some_iff.1 hj
    have hl : j < n := by rw [← h.1]; exact (List.getElem?_eq_some_iff.1 hx).1
    obtain ⟨ad2, e2, hc⟩ := h.2.2 (by omega)
    rw [e] at e2
    cases e2
    rw [hc j hl, List.getD_eq_getElem?_getD, hx]; rfl
open Go.RowKit in
theorem cells_on {w W3 w3 : World} {a : Addr} {v : Value} (h : w.cell? a = some v) (hb : Below w.heap.size w W3) (hg : W3.grownBy w3 (some w.heap.size)) : w3.cell? a = some v := by
  refine hg.cell (Go.Proofs.YtefijfanjekchaaW.PrintWords.pw_cell_below hb h) ?_
  have := World.block_lt_of_cell? w a h
  intro e
  injection e with e
  omega
theorem strs_one (l : List ByteArray) : ∀ u ∈ l.map Value.string, u.oneCell' = true := by
  intro u hu
  obtain ⟨x, _, rfl⟩ := List.mem_map.1 hu
  rfl
open Go.RowKit Go.Proofs.YtefijfanjekchaaW.PrintWords in
theorem R_ins {w : World} {base base' N : Nat} {v : Value} {a b : List ByteArray} {n : ByteArray} (h : w.ownsRow base' 9 1 v N (a.map Value.string ++ ([.string n] ++ b.map Value.string))) (hb : base ≤ base') (hN : N = (a ++ n :: b).length) :
    Kd.R Kd.string 9 w base (fun _ => True) v (a ++ n :: b) := by
  subst hN
  refine Kd.R_of_own (enc := Value.string) (h1 := fun _ => rfl) (own_weaken ?_ hb) (fun _ _ => trivial)
  have e : encs Value.string (a ++ n :: b) = a.map Value.string ++ ([.string n] ++ b.map Value.string) := by simp [encs]
  rw [e]
  exact h
open Go.RowKit Go.Proofs.YtefijfanjekchaaW.PrintWords in
theorem below_ins {w1 w2 w3 w4 : World} {o : Obj} (h : Below w1.heap.size w1 w2) (h3 : ((w2.alloc o).drew).grownBy w3 (some w2.heap.size)) (h4 : w3.grownBy w4 none) : Below w1.heap.size w1 w4 := by
  have hs := h.size
  have hb := below_drew (h.alloc hs o)
  have hs3 : w1.heap.size ≤ ((w2.alloc o).drew).heap.size := by show _ ≤ (w2.alloc o).heap.size; simp; omega
  have hb3 := hb.grown h3 hs3 (fun k hk => by injection hk with hk; omega)
  exact hb3.grown h4 hb3.size (fun k hk => by cases hk)
end Go.Proofs.Ytefijfanjekchaa.Leaf
