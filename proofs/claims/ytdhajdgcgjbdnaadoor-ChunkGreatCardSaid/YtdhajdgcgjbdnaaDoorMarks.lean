/- A row of bytes that a conversion of a string has made (marked behind its capacity): appended to and read. -/
import Derived.Lib.FrozenHead2
import Derived.Test.YtdhajdgcgjbdnaaDoorFoot2
set_option linter.unusedVariables false
set_option linter.unusedSimpArgs false
namespace Go.Proofs.YtdhajdgcgjbdnaaDoor.Marks
open Go.RowKit Go.Proofs.YtdhajdgcgjbdnaaDoorW.PrintWords Go.Proofs.YtdhajdgcgjbdnaaDoor.Foot

/-- The slice v owns bytes xs; what is frozen of its block, if anything, lies behind its capacity. -/
def MRow (w : World) (base e : Nat) (v : Value) (xs : List Int) : Prop :=
  ∃ g cap cur fz, v = .slice (some ⟨g, 0, none⟩) xs.length cap ∧ base ≤ g ∧ w.heap[g]? = some (.cells cur e fz) ∧ (fz.2 ≤ fz.1 ∨ cap ≤ fz.1) ∧ xs.length ≤ cap ∧ cap ≤ maxLen ∧ cur.size = cap ∧ cur.toList.take xs.length = xs.map (Value.int .u8)
theorem store_free (P : Program) (g o : Nat) (t : TypeId) (fz : Nat × Nat) : ∀ (vs : List Value) (i : Nat) (cur : Array Value) (w : World), w.heap[g]? = some (.cells cur t fz) → (fz.2 ≤ fz.1 ∨ cur.size ≤ fz.1) → o + i + vs.length ≤ cur.size → (∀ v ∈ vs, v.oneCell' = true) →
    (storeCells ⟨g, o, none⟩ vs i).run P w = .ok () (w.setRow g (cur.toList.take (o + i) ++ vs ++ cur.toList.drop (o + i + vs.length)).toArray)
  | [], i, cur, w, hg, _, _, _ => by
    simp only [storeCells, List.append_nil, List.length_nil, Nat.add_zero, List.take_append_drop, Array.toArray_toList]
    rw [setRow_self w g cur t fz hg]
    rfl
  | v :: rest, i, cur, w, hg, hfz, hl, h1 => by
    have hi : o + i < cur.size := by simp at hl; omega
    have hadd : (⟨g, o, none⟩ : Addr).add i = ⟨g, o + i, none⟩ := by unfold Addr.add; split <;> simp_all
    have hcell : w.cell? ⟨g, o + i, none⟩ = some cur[o + i] := by simp [World.cell?, hg, hi]
    have hfro : w.frozen? ⟨g, o + i, none⟩ = false := by
      obtain ⟨lo, hi'⟩ := fz
      simp only at hfz
      simp only [World.frozen?, hg, Bool.and_eq_false_iff, decide_eq_false_iff_not]
      omega
    have hst : (store ((⟨g, o, none⟩ : Addr).add i) v).run P w = .ok () (w.setRow g (cur.setIfInBounds (o + i) v)) := by
      rw [hadd, run_store P w _ v _ (h1 v (by simp)), hcell]
      simp [hfro, setCell_eq_setRow w g (o + i) cur t fz v hg]
    have ih := store_free P g o t fz rest (i + 1) (cur.setIfInBounds (o + i) v) (w.setRow g (cur.setIfInBounds (o + i) v)) (setRow_heap w g cur _ t _ hg) (by simpa using hfz) (by simp at hl ⊢; omega) (fun x hx => h1 x (by simp [hx]))
    simp only [storeCells, Sem.run_bind, hst, Result.andThen_ok, ih, setRow_setRow]
    congr 3
    have e := list_seg_step cur.toList (o + i) v rest (by simp at hl ⊢; omega)
    simpa [Array.toList_setIfInBounds, Nat.add_assoc] using e
section
variable {P : Program} {w : World} {base e : Nat} {v : Value} {xs ys : List Int}
theorem MRow.cells {g n c : Nat} (h : MRow w base e (.slice (some ⟨g, 0, none⟩) n c) xs) : ∀ j u, (xs.map (Value.int .u8))[j]? = some u → w.cell? ((⟨g, 0, none⟩ : Addr).add j) = some u := by
  intro j u hu
  obtain ⟨g', cap, cur, fz, hv, _, hgg, _, _, _, _, htake⟩ := h
  injection hv with h1 h2 h3
  injection h1 with h1
  injection h1 with h1
  subst h1
  have hadd : (⟨g, 0, none⟩ : Addr).add j = ⟨g, j, none⟩ := by unfold Addr.add; split <;> simp_all
  rw [hadd, cell_of_row w g j cur e fz hgg]
  rw [← htake, List.getElem?_take] at hu
  split at hu
  · simpa using hu
  · cases hu
/-- What can be read of it. -/
theorem MRow.reads (h : MRow w base e v xs) : ∃ A c, v = .slice A xs.length c ∧ xs.length ≤ c ∧ Kd.C (Kd.int .u8) w A xs.length xs := by
  obtain ⟨g, cap, cur, fz, rfl, hb, hg, hf, hn, hm, hs, ht⟩ := h
  have hc := MRow.cells (w := w) (base := base) (e := e) (xs := xs) ⟨g, cap, cur, fz, rfl, hb, hg, hf, hn, hm, hs, ht⟩
  refine ⟨some ⟨g, 0, none⟩, cap, rfl, hn, Kd.C_of_reads (enc := Value.int .u8) (d := 0) ⟨rfl, by simp only [maxLen] at hm; omega, fun h0 => ⟨⟨g, 0, none⟩, rfl, fun j hj => ?_⟩⟩⟩
  exact hc j _ (by rw [List.getElem?_map, List.getD_eq_getElem?_getD, List.getElem?_eq_getElem hj]; rfl)
theorem take_nums (cur : Array Value) (xs ys : List Int) (h : cur.toList.take xs.length = xs.map (Value.int .u8)) (rest : List Value) :
    (cur.toList.take xs.length ++ ys.map (Value.int .u8) ++ rest).take (xs ++ ys).length = (xs ++ ys).map (Value.int .u8) := by
  rw [h, ← List.map_append]
  conv => lhs; rw [show (xs ++ ys).length = ((xs ++ ys).map (Value.int .u8)).length by simp]
  exact List.take_left
theorem run_m_row (t ty : TypeId) (i : TypeInfo) (ht : P.underlying t = some (.slice e)) (hi : P.info? e = some i) (hz : i.zero = some (.int .u8 0)) (hs1 : i.size = 1) (hby : i.bytes = 1)
    (h : MRow w base e v xs) (A : Option Addr) (m c : Nat) (hC : Kd.C (Kd.int .u8) w A m ys) (hbytes : xs.length + m ≤ 140737488355328) (hbase : base ≤ w.heap.size) :
    ∃ v1 w1, (Builtin.append_ #[t, t] ty #[v, .slice A m c]).run P w = .ok v1 w1 ∧ MRow w1 base e v1 (xs ++ ys) ∧ w.grownBy w1 v.ownBlock ∧ ∀ k, v.ownBlock = some k → base ≤ k := by
  have h' := h
  obtain ⟨g, cap, cur, fz, rfl, hb, hg, hf, hn, hm, hs, htk⟩ := h
  have hown : ∀ k, (Value.slice (some ⟨g, 0, none⟩) xs.length cap).ownBlock = some k → base ≤ k := fun k hk => by
    simp [Value.ownBlock] at hk
    omega
  have hyl : ys.length = m := hC.1
  have hl2 : (xs ++ ys).length = xs.length + m := by rw [List.length_append, hyl]
  rcases A with _ | ad
  · have h0 : m = 0 := by
      rcases Nat.eq_zero_or_pos m with h0 | h0
      · exact h0
      · obtain ⟨ad, h, _⟩ := hC.2.2 h0
        cases h
    subst h0
    obtain rfl : ys = [] := List.eq_nil_of_length_eq_zero hyl
    refine ⟨_, w, ?_, by simpa using h', World.grownBy.refl w _, hown⟩
    simp [Builtin.append_, run_underlying ht, sizeOf, typeInfo, hi, Builtin.lenOf, Builtin.firstCells, hn, storeCells]
  · have hnews : ∀ j u, (ys.map (Value.int .u8))[j]? = some u → w.cell? (ad.add j) = some u := by
      intro j u hu
      have hj : j < ys.length := by
        rcases Nat.lt_or_ge j ys.length with h | h
        · exact h
        · rw [List.getElem?_eq_none (by simpa using h)] at hu
          cases hu
      obtain ⟨ad', h2, hc⟩ := (Kd.reads_of_C (enc := Value.int .u8) (d := 0) hC).2.2 (by omega)
      injection h2 with h2
      subst h2
      rw [List.getElem?_map, List.getElem?_eq_getElem hj] at hu
      injection hu with hu
      subst hu
      have := hc j (by omega)
      rwa [List.getD_eq_getElem?_getD, List.getElem?_eq_getElem hj] at this
    have hone : ∀ u ∈ ys.map (Value.int .u8), u.oneCell' = true := by
      intro u hu
      obtain ⟨x, _, rfl⟩ := List.mem_map.1 hu
      rfl
    by_cases hroom : xs.length + m ≤ cap
    · have hff := run_firstCells_some (P := P) w 1 m ad m c (ys.map (Value.int .u8)) (by simp [hyl]) hnews
      have hst := store_free P g xs.length e fz (ys.map (Value.int .u8)) 0 cur w hg (by rw [hs]; exact hf) (by simp [hyl]; omega) hone
      simp only [Nat.add_zero, List.length_map, hyl] at hst
      have hr : (Builtin.append_ #[t, t] ty #[.slice (some ⟨g, 0, none⟩) xs.length cap, .slice (some ad) m c]).run P w = .ok (.slice (some ⟨g, 0, none⟩) (xs.length + m) cap) (w.setRow g (cur.toList.take xs.length ++ ys.map (Value.int .u8) ++ cur.toList.drop (xs.length + m)).toArray) := by
        simp [Builtin.append_, run_underlying ht, sizeOf, typeInfo, hi, hs1, Builtin.lenOf, hroom, hff, Addr.add_lit, hst]
      refine ⟨_, _, hr, ⟨g, cap, _, fz, by rw [hl2], hb, setRow_heap w g cur _ e _ hg, hf, by omega, hm, ?_, ?_⟩, ⟨rfl, rfl, rfl, by simp, fun k _ hk => setRow_other w g k _ (fun e => hk (by simp [Value.ownBlock, e]))⟩, hown⟩
      · simp only [List.size_toArray, List.length_append, List.length_take, List.length_drop, Array.length_toList, List.length_map, hyl]
        omega
      · exact take_nums cur xs ys htk _
    · have holds := h'.cells
      have hr := run_append_grow (P := P) w t ty e i (.int .u8 0) ht hi hz ⟨g, 0, none⟩ xs.length cap (xs.map (Value.int .u8)) (by rw [hs1]; simp) holds ad m c (ys.map (Value.int .u8)) (by rw [hs1]; simp [hyl]) hnews (by omega) (by omega) (growslice_fits (by omega) (by rw [hby]; omega))
      have hge := grownCap_ge w (xs.length + m) cap e
      have hcm2 : grownCap w (xs.length + m) cap e ≤ maxLen := grownCap_le_maxLen w _ cap e (by simp only [maxLen]; omega)
      refine ⟨_, _, hr, ⟨w.heap.size, _, _, (0, 0), by rw [hl2], hbase, Go.heap_alloc_new w.drew _, .inl (Nat.le_refl _), by omega, hcm2, ?_, ?_⟩, ⟨rfl, rfl, rfl, by simp, fun k hk _ => Go.heap_alloc_old w.drew _ (by simpa using hk)⟩, hown⟩
      · have hz1 : (Value.int IntKind.u8 0).cells.size = 1 := rfl
        simp only [Array.size_append, List.size_toArray, size_zeroCells, hz1, List.length_map, hyl]
        omega
      · have hx : (xs.map (Value.int .u8)).take xs.length = xs.map (Value.int .u8) := List.take_of_length_le (by simp)
        have := take_nums (xs.map (Value.int .u8)).toArray xs ys (List.take_of_length_le (by simp)) (Builtin.zeroCells (Value.int .u8 0).cells (grownCap w (xs.length + m) cap e - (xs.length + m))).toList
        simpa [hx] using this
theorem run_m_str (t u ty : TypeId) (i : TypeInfo) (ht : P.underlying t = some (.slice e)) (hu : P.underlying u = some .string) (hi : P.info? e = some i) (hz : i.zero = some (.int .u8 0)) (hs1 : i.size = 1) (hby : i.bytes = 1)
    (h : MRow w base e v xs) (s : ByteArray) (hbytes : xs.length + s.size ≤ 140737488355328) (hbase : base ≤ w.heap.size) :
    ∃ v1 w1, (Builtin.append_ #[t, u] ty #[v, .string s]).run P w = .ok v1 w1 ∧ MRow w1 base e v1 (xs ++ bytesOf s) ∧ w.grownBy w1 v.ownBlock ∧ ∀ k, v.ownBlock = some k → base ≤ k := by
  have h' := h
  obtain ⟨g, cap, cur, fz, rfl, hb, hg, hf, hn, hm, hs, htk⟩ := h
  have hown : ∀ k, (Value.slice (some ⟨g, 0, none⟩) xs.length cap).ownBlock = some k → base ≤ k := fun k hk => by
    simp [Value.ownBlock] at hk
    omega
  have hsc : Lib.strCells s = (bytesOf s).map (Value.int .u8) := by simp [bytesOf, Lib.strCells]
  have hl2 : (xs ++ bytesOf s).length = xs.length + s.size := by rw [List.length_append, bytesOf_length]
  by_cases hroom : xs.length + s.size ≤ cap
  · have hff := Lib.run_firstCells_string (P := P) w 1 s
    have hst := store_free P g xs.length e fz (Lib.strCells s) 0 cur w hg (by rw [hs]; exact hf) (by simp [Lib.strCells_length]; omega) (Lib.strCells_oneCell s)
    simp only [Nat.add_zero, Lib.strCells_length] at hst
    have hr : (Builtin.append_ #[t, u] ty #[.slice (some ⟨g, 0, none⟩) xs.length cap, .string s]).run P w = .ok (.slice (some ⟨g, 0, none⟩) (xs.length + s.size) cap) (w.setRow g (cur.toList.take xs.length ++ Lib.strCells s ++ cur.toList.drop (xs.length + s.size)).toArray) := by
      simp [Builtin.append_, run_underlying ht, run_underlying hu, sizeOf, typeInfo, hi, hs1, Builtin.lenOf, hroom, hff, Addr.add_lit, hst]
    refine ⟨_, _, hr, ⟨g, cap, _, fz, by rw [hl2], hb, setRow_heap w g cur _ e _ hg, hf, by omega, hm, ?_, ?_⟩, ⟨rfl, rfl, rfl, by simp, fun k _ hk => setRow_other w g k _ (fun e => hk (by simp [Value.ownBlock, e]))⟩, hown⟩
    · simp only [List.size_toArray, List.length_append, List.length_take, List.length_drop, Array.length_toList, Lib.strCells_length]
      omega
    · rw [hsc]
      exact take_nums cur xs (bytesOf s) htk _
  · have holds := h'.cells
    have hr := Lib.run_append_grow_string (P := P) w t u ty e i (.int .u8 0) ht hu hi hz ⟨g, 0, none⟩ xs.length cap (xs.map (Value.int .u8)) (by rw [hs1]; simp) holds s (by omega) (by omega) (growslice_fits (by omega) (by rw [hby]; omega))
    have hge := grownCap_ge w (xs.length + s.size) cap e
    have hcm2 : grownCap w (xs.length + s.size) cap e ≤ maxLen := grownCap_le_maxLen w _ cap e (by simp only [maxLen]; omega)
    refine ⟨_, _, hr, ⟨w.heap.size, _, _, (0, 0), by rw [hl2], hbase, Go.heap_alloc_new w.drew _, .inl (Nat.le_refl _), by omega, hcm2, ?_, ?_⟩, ⟨rfl, rfl, rfl, by simp, fun k hk _ => Go.heap_alloc_old w.drew _ (by simpa using hk)⟩, hown⟩
    · have hz1 : (Value.int IntKind.u8 0).cells.size = 1 := rfl
      simp only [Array.size_append, List.size_toArray, size_zeroCells, hz1, List.length_map, Lib.strCells_length]
      omega
    · have hx : (xs.map (Value.int .u8)).take xs.length = xs.map (Value.int .u8) := List.take_of_length_le (by simp)
      have := take_nums (xs.map (Value.int .u8)).toArray xs (bytesOf s) (List.take_of_length_le (by simp)) (Builtin.zeroCells (Value.int .u8 0).cells (grownCap w (xs.length + s.size) cap e - (xs.length + s.size))).toList
      rw [hsc]
      simpa [hx] using this
/-- What a conversion makes. -/
theorem conv_row (w : World) (base e : Nat) (s : ByteArray) (hb : base ≤ w.heap.size) (hs : s.size ≤ 140737488355328) : MRow (Lib.bytesWorld w e s) base e (.slice (some ⟨w.heap.size, 0, none⟩) s.size (grownCap w s.size 0 e)) (bytesOf s) := by
  have hge := grownCap_ge w s.size 0 e
  have hz : (Lib.bytesCells w e s).size = grownCap w s.size 0 e := by
    unfold Lib.bytesCells
    rw [Array.size_append, Array.size_replicate, Array.size_map, show s.data.size = s.size from rfl]
    omega
  refine ⟨w.heap.size, _, _, _, by rw [bytesOf_length], hb, Lib.bytesWorld_at_new w e s, .inr (by show _ ≤ (Lib.bytesCells w e s).size; omega), by rw [bytesOf_length]; exact hge, grownCap_le_maxLen w _ 0 e (by simp only [maxLen]; omega), hz, ?_⟩
  rw [bytesOf_length]
  unfold Lib.bytesCells
  rw [Array.toList_append, List.take_append_of_le_length (by simp), List.take_of_length_le (by simp)]
  simp [bytesOf]
theorem conv_below (w : World) (base e : Nat) (s : ByteArray) (hb : base ≤ w.heap.size) : Below base w (Lib.bytesWorld w e s) := by
  refine (Below.refl base w).grown (row := none) ⟨rfl, rfl, rfl, by rw [Lib.bytesWorld_size]; omega, fun k hk _ => Lib.bytesWorld_at_old w e s k hk⟩ hb (fun k h => by cases h)
end
section
variable {P : Program} {ops : Array Oper} {rest : List Oper} {o : Oper} {a : Act} {Q : Exit → Act → World → Prop}
theorem append_m_row {W : World} (base : Nat) (hgd : o.guard = none) (s x : Operand) (t e : TypeId)
    (ho : o.op = .call { callee := .builtin .append, args := #[s, x], argTypes := #[t, t] })
    (ht : P.underlying t = some (.slice e)) (hinfo : (P.info? e).map (fun i => (i.zero, i.size, i.bytes)) = some (some (.int .u8 0), 1, 1))
    (v : Value) (xs ys : List Int) (A : Option Addr) (m c : Nat) (hs : a.eval s = v) (hx : a.eval x = .slice A m c)
    (h : MRow W base e v xs) (hC : Kd.C (Kd.int .u8) W A m ys) (hbase : base ≤ W.heap.size) (hl : xs.length + m ≤ 140737488355328)
    (hk : ∀ v1 w1, MRow w1 base e v1 (xs ++ ys) → Below base W w1 → wpList P ops Q rest (a.put o.dst v1) w1) :
    wpList P ops Q (o :: rest) a W := by
  obtain ⟨i0, hi, hzz⟩ := Option.map_eq_some_iff.1 hinfo
  simp only [Prod.mk.injEq] at hzz
  obtain ⟨hz0, hz1, hz2⟩ := hzz
  obtain ⟨v1, w1, hr, hown, hg, hb⟩ := run_m_row (P := P) t o.type i0 ht hi hz0 hz1 hz2 h A m c hC hl hbase
  refine wpList_plain hgd fun K hK => ?_
  unfold Oper.wp execOp
  simp only [ho, resolve, invoke, builtin, Sem.run_bind, Sem.run_pure, Result.andThen_ok, List.map_toArray, List.map_cons, List.map_nil, hs, hx, hr]
  exact hK _ _ (hk v1 w1 hown ((Below.refl base W).grown hg hbase hb))
theorem append_m_str {W : World} (base : Nat) (hgd : o.guard = none) (s x : Operand) (t u e : TypeId)
    (ho : o.op = .call { callee := .builtin .append, args := #[s, x], argTypes := #[t, u] })
    (ht : P.underlying t = some (.slice e)) (hu : P.underlying u = some .string) (hinfo : (P.info? e).map (fun i => (i.zero, i.size, i.bytes)) = some (some (.int .u8 0), 1, 1))
    (v : Value) (xs : List Int) (y : ByteArray) (hs : a.eval s = v) (hx : a.eval x = .string y)
    (h : MRow W base e v xs) (hbase : base ≤ W.heap.size) (hl : xs.length + y.size ≤ 140737488355328)
    (hk : ∀ v1 w1, MRow w1 base e v1 (xs ++ bytesOf y) → Below base W w1 → wpList P ops Q rest (a.put o.dst v1) w1) :
    wpList P ops Q (o :: rest) a W := by
  obtain ⟨i0, hi, hzz⟩ := Option.map_eq_some_iff.1 hinfo
  simp only [Prod.mk.injEq] at hzz
  obtain ⟨hz0, hz1, hz2⟩ := hzz
  obtain ⟨v1, w1, hr, hown, hg, hb⟩ := run_m_str (P := P) t u o.type i0 ht hu hi hz0 hz1 hz2 h y hl hbase
  refine wpList_plain hgd fun K hK => ?_
  unfold Oper.wp execOp
  simp only [ho, resolve, invoke, builtin, Sem.run_bind, Sem.run_pure, Result.andThen_ok, List.map_toArray, List.map_cons, List.map_nil, hs, hx, hr]
  exact hK _ _ (hk v1 w1 hown ((Below.refl base W).grown hg hbase hb))
end
section
variable {P : Program} {o : Oper} {a : Act} {K : Act → World → Prop} {Q : Exit → Act → World → Prop}
/-- No row yet, or one of its own. -/
def ARow (w : World) (base e : Nat) (v : Value) (xs : List Int) : Prop := (v = .slice none 0 0 ∧ xs = []) ∨ MRow w base e v xs
theorem ARow.step {w w1 : World} {base e : Nat} {v : Value} {xs : List Int} (h : ARow w base e v xs) (hb : ∀ k, base ≤ k → k < w.heap.size → w1.heap[k]? = w.heap[k]?) : ARow w1 base e v xs := by
  rcases h with h | ⟨g, cap, cur, fz, hv, hbg, hg, rest⟩
  · exact .inl h
  · exact .inr ⟨g, cap, cur, fz, hv, hbg, by rw [hb g hbg (Array.getElem?_eq_some_iff.1 hg).1]; exact hg, rest⟩
theorem MRow.below {w w1 : World} {base e : Nat} {v : Value} {xs : List Int} (h : MRow w base e v xs) (hb : Below w.heap.size w w1) : MRow w1 base e v xs := by
  obtain ⟨g, cap, cur, fz, hv, hbg, hg, rest⟩ := h
  exact ⟨g, cap, cur, fz, hv, hbg, by rw [hb.block g (Array.getElem?_eq_some_iff.1 hg).1]; exact hg, rest⟩
theorem ARow.below {w w1 : World} {base e : Nat} {v : Value} {xs : List Int} (h : ARow w base e v xs) (hb : Below w.heap.size w w1) : ARow w1 base e v xs := by
  rcases h with h | h
  · exact .inl h
  · exact .inr (h.below hb)
theorem ARow.reads {w : World} {base e : Nat} {v : Value} {xs : List Int} (h : ARow w base e v xs) : ∃ A c, v = .slice A xs.length c ∧ xs.length ≤ c ∧ Kd.C (Kd.int .u8) w A xs.length xs := by
  rcases h with ⟨rfl, rfl⟩ | h
  · exact ⟨none, 0, rfl, Nat.le_refl _, rfl, Nat.zero_le _, fun h => absurd h (by simp)⟩
  · exact h.reads
theorem run_a_str {w : World} {base e : Nat} {v : Value} {xs : List Int} (t u ty : TypeId) (i : TypeInfo) (ht : P.underlying t = some (.slice e)) (hu : P.underlying u = some .string) (hi : P.info? e = some i) (hz : i.zero = some (.int .u8 0)) (hs1 : i.size = 1) (hby : i.bytes = 1)
    (h : ARow w base e v xs) (s : ByteArray) (h1 : 1 ≤ s.size) (hbytes : xs.length + s.size ≤ 140737488355328) (hbase : base ≤ w.heap.size) :
    ∃ v1 w1, (Builtin.append_ #[t, u] ty #[v, .string s]).run P w = .ok v1 w1 ∧ MRow w1 base e v1 (xs ++ bytesOf s) ∧ w.grownBy w1 v.ownBlock ∧ ∀ k, v.ownBlock = some k → base ≤ k := by
  rcases h with ⟨rfl, rfl⟩ | h
  · obtain ⟨v', w', h1', h2, h3, h4⟩ := Lib.run_append_own_string (P := P) w base t u ty e i ht hu hi hz hs1 hby (.slice none 0 0) 0 [] ⟨rfl, .inl ⟨rfl, rfl⟩⟩ s (by simp only [maxLen]; simp at hbytes; omega) (by simpa using hbytes) hbase
    have hsc : Lib.strCells s = (bytesOf s).map (Value.int .u8) := by simp [bytesOf, Lib.strCells]
    refine ⟨v', w', h1', ?_, h3, fun k hk => by cases hk⟩
    rcases h2.2 with ⟨_, h0⟩ | ⟨g, cap, cur, hv, hbg, hg, hn, hm, hs, htk⟩
    · omega
    · rw [Nat.zero_add] at hv hn htk
      refine ⟨g, cap, cur, (0, 0), by rw [List.nil_append, bytesOf_length]; exact hv, hbg, hg, .inl (Nat.le_refl _), by rw [List.nil_append, bytesOf_length]; exact hn, hm, by simpa using hs, ?_⟩
      rw [List.nil_append, bytesOf_length, ← hsc]
      simpa using htk
  · exact run_m_str t u ty i ht hu hi hz hs1 hby h s hbytes hbase
theorem a_str_step {W : World} (base : Nat) (s x : Operand) (t u e : TypeId)
    (ho : o.op = .call { callee := .builtin .append, args := #[s, x], argTypes := #[t, u] })
    (ht : P.underlying t = some (.slice e)) (hu : P.underlying u = some .string) (hinfo : (P.info? e).map (fun i => (i.zero, i.size, i.bytes)) = some (some (.int .u8 0), 1, 1))
    (v : Value) (xs : List Int) (y : ByteArray) (hs : a.eval s = v) (hx : a.eval x = .string y)
    (h : ARow W base e v xs) (h1 : 1 ≤ y.size) (hbase : base ≤ W.heap.size) (hl : xs.length + y.size ≤ 140737488355328)
    (hk : ∀ v1 w1, MRow w1 base e v1 (xs ++ bytesOf y) → Below base W w1 → K (a.put o.dst v1) w1) :
    Oper.wp P o a W K Q := by
  obtain ⟨i0, hi, hzz⟩ := Option.map_eq_some_iff.1 hinfo
  simp only [Prod.mk.injEq] at hzz
  obtain ⟨hz0, hz1, hz2⟩ := hzz
  obtain ⟨v1, w1, hr, hown, hg, hb⟩ := run_a_str (P := P) t u o.type i0 ht hu hi hz0 hz1 hz2 h y h1 hl hbase
  unfold Oper.wp execOp
  simp only [ho, resolve, invoke, builtin, Sem.run_bind, Sem.run_pure, Result.andThen_ok, List.map_toArray, List.map_cons, List.map_nil, hs, hx, hr]
  exact hk v1 w1 hown ((Below.refl base W).grown hg hbase hb)
theorem m_row_step {W : World} (base : Nat) (s x : Operand) (t e : TypeId)
    (ho : o.op = .call { callee := .builtin .append, args := #[s, x], argTypes := #[t, t] })
    (ht : P.underlying t = some (.slice e)) (hinfo : (P.info? e).map (fun i => (i.zero, i.size, i.bytes)) = some (some (.int .u8 0), 1, 1))
    (v : Value) (xs ys : List Int) (A : Option Addr) (m c : Nat) (hs : a.eval s = v) (hx : a.eval x = .slice A m c)
    (h : MRow W base e v xs) (hC : Kd.C (Kd.int .u8) W A m ys) (hbase : base ≤ W.heap.size) (hl : xs.length + m ≤ 140737488355328)
    (hk : ∀ v1 w1, MRow w1 base e v1 (xs ++ ys) → Below base W w1 → K (a.put o.dst v1) w1) :
    Oper.wp P o a W K Q := by
  obtain ⟨i0, hi, hzz⟩ := Option.map_eq_some_iff.1 hinfo
  simp only [Prod.mk.injEq] at hzz
  obtain ⟨hz0, hz1, hz2⟩ := hzz
  obtain ⟨v1, w1, hr, hown, hg, hb⟩ := run_m_row (P := P) t o.type i0 ht hi hz0 hz1 hz2 h A m c hC hl hbase
  unfold Oper.wp execOp
  simp only [ho, resolve, invoke, builtin, Sem.run_bind, Sem.run_pure, Result.andThen_ok, List.map_toArray, List.map_cons, List.map_nil, hs, hx, hr]
  exact hk v1 w1 hown ((Below.refl base W).grown hg hbase hb)
theorem append_a_str {ops : Array Oper} {rest : List Oper} {W : World} (base : Nat) (hgd : o.guard = none) (s x : Operand) (t u e : TypeId)
    (ho : o.op = .call { callee := .builtin .append, args := #[s, x], argTypes := #[t, u] })
    (ht : P.underlying t = some (.slice e)) (hu : P.underlying u = some .string) (hinfo : (P.info? e).map (fun i => (i.zero, i.size, i.bytes)) = some (some (.int .u8 0), 1, 1))
    (v : Value) (xs : List Int) (y : ByteArray) (hs : a.eval s = v) (hx : a.eval x = .string y)
    (h : ARow W base e v xs) (h1 : 1 ≤ y.size) (hbase : base ≤ W.heap.size) (hl : xs.length + y.size ≤ 140737488355328)
    (hk : ∀ v1 w1, MRow w1 base e v1 (xs ++ bytesOf y) → Below base W w1 → wpList P ops Q rest (a.put o.dst v1) w1) :
    wpList P ops Q (o :: rest) a W :=
  wpList_plain hgd fun K hK => a_str_step base s x t u e ho ht hu hinfo v xs y hs hx h h1 hbase hl (fun v1 w1 h1 h2 => hK _ _ (hk v1 w1 h1 h2))
end
end Go.Proofs.YtdhajdgcgjbdnaaDoor.Marks
