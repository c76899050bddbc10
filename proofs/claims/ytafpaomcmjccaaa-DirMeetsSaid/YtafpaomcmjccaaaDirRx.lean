/- A row of the document's directory grows; a bucket is put back. An entry is set into the document's directory. The document's directory tells the entries of a key. An entry is taken out of the document's directory. -/
import Derived.Test.YtafpaomcmjccaaaDirRn
import Derived.ArgAppend
set_option linter.unusedVariables false
set_option linter.unusedSimpArgs false
set_option linter.unusedSectionVars false
namespace Go.Proofs.Ytafpaomcmjccaaa.Dir
open Go.RowKit Go.Proofs.Ytafpaomcmjccaaa.G Go.Proofs.YtafpaomcmjccaaaW.PrintWords Go.Proofs.YtafpaomcmjccaaaW.PrintMore Go.Proofs.Ytafpaomcmjccaaa.Foot

theorem grown_weak {w w' : World} {r : Option Nat} (h : w.grownBy w' none) : w.grownBy w' r := ⟨h.os, h.tape, h.output, h.size, fun k hk _ => h.block k hk (by simp)⟩
theorem grown_set (w : World) (g : Nat) (cs : Array Value) : w.grownBy (w.setRow g cs) (some g) := ⟨rfl, rfl, rfl, by simp, fun k hk hn => setRow_other w g k cs (fun e => hn (by rw [e]))⟩
theorem rowU_append {w : World} {v : Value} {xs ys : List S55} {A : Option Addr} {ty : TypeId} (h : RowU w v xs) (c : Nat) (hC : dE.C w A ys) (hl : xs.length + ys.length ≤ 1000000) :
    ∃ v' w', (Builtin.append_ #[45, 45] ty #[v, .slice A ys.length c]).run Try.prog w = .ok v' w' ∧ RowU w' v' (xs ++ ys) ∧ w.grownBy w' v.ownBlock ∧ (v'.ownBlock = v.ownBlock ∨ ∀ k, v'.ownBlock = some k → w.heap.size ≤ k) := by
  obtain ⟨i0, hi0', hz, hsz, hby⟩ := szE
  rcases h with ⟨rfl, rfl⟩ | ⟨g, cap, cur, rfl, h1, h2, h3, h4, h5⟩
  · obtain ⟨v', w', r1, r2, r3, r4⟩ := Fl.run_append (P := Try.prog) (d := dE) (ty := ty) (w := w) (base := w.heap.size) (e := 55) Try.underlying45 hi0' hz hsz hby rfl c (Fl.R_nil (d := dE)) hC (by simp at hl ⊢; omega) (by simp at hl ⊢; omega) (Nat.le_refl _)
    exact ⟨v', w', r1, .of_R r2, r3, r4.imp id (fun e k hk => by rw [e] at hk; cases hk; exact Nat.le_refl _)⟩
  · rcases Nat.eq_zero_or_pos ys.length with h0 | h0
    · have hy := List.eq_nil_of_length_eq_zero h0
      subst hy
      refine ⟨_, w, ?_, by rw [List.append_nil]; exact .inr ⟨g, cap, cur, rfl, h1, h2, h3, h4, h5⟩, ⟨rfl, rfl, rfl, Nat.le_refl _, fun _ _ _ => rfl⟩, .inl rfl⟩
      cases A <;> simp [Builtin.append_, run_underlying Try.underlying45, sizeOf, typeInfo, hi0', Builtin.lenOf, Builtin.firstCells, h1, storeCells, loadCells, loadCellsFrom, Result.andThen]
    · obtain ⟨ad, rfl, hc⟩ := hC h0
      by_cases hr : xs.length + ys.length ≤ cap
      · have hf := Fl.run_first (P := Try.prog) (d := dE) ys.length c hC
        have hst := Fl.store_run (P := Try.prog) g (xs.length * 4) (dE.flat ys) cur h3 (by rw [Fl.flat_length]; show _ + ys.length * 4 ≤ _; omega) (Fl.flat_one ys)
        refine ⟨.slice (some ⟨g, 0, none⟩) (xs.length + ys.length) cap, w.setRow g (cur.toList.take (xs.length * 4) ++ dE.flat ys ++ cur.toList.drop (xs.length * 4 + (dE.flat ys).length)).toArray, ?_, .inr ⟨g, cap, _, by rw [List.length_append], by rw [List.length_append]; exact hr, h2, setRow_heap w g _ _ _ _ h3, ?_, ?_⟩, grown_set _ _ _, .inl rfl⟩
        · simp [Builtin.append_, run_underlying Try.underlying45, sizeOf, typeInfo, hi0', hsz, Builtin.lenOf, hr, hf, Addr.add_lit]
          rw [show (dE.sz : Nat) = 4 from rfl, hst, List.append_assoc]
          rfl
        · simp only [List.size_toArray, List.length_append, List.length_take, List.length_drop, Array.length_toList, Fl.flat_length]
          show _ ≤ min (xs.length * 4) cur.size + ys.length * 4 + (cur.size - (xs.length * 4 + ys.length * 4))
          omega
        · rw [List.length_append, h5, Fl.flat_append, List.toList_toArray, Nat.add_mul]
          rw [List.take_append_of_le_length (by rw [List.length_append, Fl.flat_length, Fl.flat_length]; exact Nat.le_refl _), List.take_of_length_le (by rw [List.length_append, Fl.flat_length, Fl.flat_length]; exact Nat.le_refl _)]
      · obtain ⟨v', w', r1, r2, r3⟩ := run_append_arg_grows (P := Try.prog) w 45 ty 55 i0 _ 4 24 Try.underlying45 hi0' hz hsz hby rfl (by decide) ⟨g, 0, none⟩ xs.length cap (dE.flat xs) (Fl.flat_length xs)
          (fun j u hu => by
            rw [Addr.add_lit, blk_cell h3, Nat.zero_add, ← Array.getElem?_toList]
            rw [← h5, List.getElem?_take] at hu
            split at hu
            · exact hu
            · cases hu) ad ys.length c (dE.flat ys) (Fl.flat_length ys) hc (by omega) (by simp only [maxLen]; omega) (by omega)
        refine ⟨v', w', r1, RowU.of_R (base := w.heap.size) ?_, grown_weak r3, ?_⟩
        · unfold Fl.R
          rw [List.length_append, Fl.flat_append]
          exact r2
        · exact .inr fun k hk => own_base r2 k hk
theorem blk_vals {w : World} {q : Nat} {vs : List Value} (h : w.heap[q]? = some (.cells vs.toArray 45 (0, 0))) (i : Nat) (v : Value) : (w.setCell ⟨q, i, none⟩ v).heap[q]? = some (.cells (vs.set i v).toArray 45 (0, 0)) :=
  blk_put h i _ (by simp only [List.setIfInBounds_toArray])
/-- A bucket is put back. -/
theorem RefW.put {w w' : World} {p q : Nat} {vs : List Value} {D : Di} (h : RefW w p q vs D) (i : Nat) (hi : i < vs.length) (v v' : Value) (hv : vs[i]? = some v) (xs : List S55) (hok : (layD D i xs).Ok)
    (hk : Keeps (fun j => j = q ∨ v.ownBlock = some j) w w') (hq : w'.heap[q]? = some (.cells (vs.set i v').toArray 45 (0, 0))) (hr : RowU w' v' xs) (hn : v'.ownBlock = v.ownBlock ∨ ∀ k, v'.ownBlock = some k → w.heap.size ≤ k) :
    RefW w' p q (vs.set i v') (layD D i xs) := by
  have hvm := List.mem_of_getElem? hv
  have hlt : ∀ k, blks p q vs k → k < w.heap.size := fun k hk => Firm.lt (P := RefH p D) (w := w) ⟨q, vs, rfl, h⟩ k hk
  have hnew : ∀ k, blks p q vs k → v'.ownBlock = some k → v.ownBlock = some k := fun k hb e => hn.elim (fun h => h ▸ e) (fun h => by have := h k e; have := hlt k hb; omega)
  have hset : ∀ j u, (vs.set i v')[j]? = some u → (j = i ∧ u = v') ∨ (j ≠ i ∧ vs[j]? = some u) := by
    intro j u hu
    by_cases hj : j = i
    · subst hj
      rw [List.getElem?_set_self hi] at hu
      cases hu
      exact .inl ⟨rfl, rfl⟩
    · rw [List.getElem?_set_ne (Ne.symm hj)] at hu
      exact .inr ⟨hj, hu⟩
  refine ⟨⟨?_, hq, ?_, hok⟩, h.pq, ?_, ?_, ?_⟩
  · rw [List.length_set]
    exact (hk.block p (hlt p (.inl rfl)) (fun e => e.elim h.pq (fun e => (h.far v hvm).1 e))).trans h.at_.box
  · rw [List.length_set, h.at_.len]
    exact (List.length_set ..).symm
  · intro j u b hu hb
    rcases hset j u hu with ⟨rfl, rfl⟩ | ⟨hj, hu'⟩
    · have hb' : (D.L.set j xs)[j]? = some b := hb
      rw [List.getElem?_set_self (by rw [← h.at_.len]; exact hi)] at hb'
      cases hb'
      exact hr
    · have hb' : (D.L.set i xs)[j]? = some b := hb
      rw [List.getElem?_set_ne (Ne.symm hj)] at hb'
      refine (h.rows j u b hu' hb').move fun k hk' => hk.block k (hlt k (.inr (.inr ⟨u, List.mem_of_getElem? hu', hk'⟩))) (fun e => ?_)
      rcases e with rfl | e
      · exact (h.far u (List.mem_of_getElem? hu')).2 hk'
      · exact h.alone j i u v k hj hu' hv hk' e
  · intro u hu
    obtain ⟨j, hj⟩ := List.getElem?_of_mem hu
    rcases hset j u hj with ⟨rfl, rfl⟩ | ⟨_, hu'⟩
    · exact ⟨fun e => (h.far v hvm).1 (hnew _ (.inl rfl) e), fun e => (h.far v hvm).2 (hnew _ (.inr (.inl rfl)) e)⟩
    · exact h.far u (List.mem_of_getElem? hu')
  · intro j1 j2 u1 u2 g hne h1 h2 e1 e2
    rcases hset j1 u1 h1 with ⟨rfl, rfl⟩ | ⟨n1, h1'⟩ <;> rcases hset j2 u2 h2 with ⟨rfl, rfl⟩ | ⟨n2, h2'⟩
    · exact hne rfl
    · exact h.alone _ _ v u2 g hne hv h2' (hnew g (.inr (.inr ⟨u2, List.mem_of_getElem? h2', e2⟩)) e1) e2
    · exact h.alone _ _ u1 v g hne h1' hv e1 (hnew g (.inr (.inr ⟨u1, List.mem_of_getElem? h1', e1⟩)) e2)
    · exact h.alone _ _ u1 u2 g hne h1' h2' e1 e2
/-- What a method of the document's directory leaves. -/
def RefPost (p q : Nat) (vs : List Value) (D' : Di) (v : Value) (w : World) (e : Ending) (w' : World) : Prop :=
  e = .returned v ∧ (∃ vs', RefW w' p q vs' D' ∧ ∀ u ∈ vs', ∀ j, u.ownBlock = some j → blks p q vs j ∨ w.heap.size ≤ j) ∧ Keeps (blks p q vs) w w'
theorem RefPost.frame {p q : Nat} {vs : List Value} {D' : Di} {v : Value} {w w' : World} {e : Ending} (h : RefPost p q vs D' v w e w') :
    e = .returned v ∧ ∃ F', RefH p D' w' F' ∧ (∀ j, F' j → blks p q vs j ∨ w.heap.size ≤ j) ∧ Keeps (blks p q vs) w w' := by
  obtain ⟨he, ⟨vs', hW, hF⟩, hk⟩ := h
  refine ⟨he, _, ⟨q, vs', rfl, hW⟩, fun j hj => ?_, hk⟩
  rcases hj with rfl | rfl | ⟨u, hu, hj⟩
  · exact .inl (.inl rfl)
  · exact .inl (.inr (.inl rfl))
  · exact hF u hu j hj
theorem RefPost.same {p q : Nat} {vs : List Value} {D : Di} {v : Value} {w w' : World} (h : RefW w p q vs D) (hb : Below w.heap.size w w') : RefPost p q vs D v w (.returned v) w' := by
  have hlt : ∀ k, blks p q vs k → k < w.heap.size := fun k hk => Firm.lt (P := RefH p D) (w := w) ⟨q, vs, rfl, h⟩ k hk
  exact ⟨rfl, ⟨vs, h.move fun k hk => hb.block k (hlt k hk), fun u hu j hj => .inl (.inr (.inr ⟨u, hu, hj⟩))⟩, .of_below hb⟩
end Go.Proofs.Ytafpaomcmjccaaa.Dir

namespace Go.Proofs.Ytafpaomcmjccaaa.Dir
open Go.RowKit Go.Proofs.Ytafpaomcmjccaaa.G Go.Proofs.YtafpaomcmjccaaaW.PrintWords Go.Proofs.YtafpaomcmjccaaaW.PrintMore Go.Proofs.Ytafpaomcmjccaaa.Foot
theorem Di.Ok.lay {D : Di} (h : D.Ok) (i : Nat) {xs : List S55} (hx : xs.length ≤ D.s) (hok : ∀ x ∈ xs, OkE x) : (layD D i xs).Ok := by
  have hl : (layD D i xs).L.length = D.L.length := List.length_set ..
  refine ⟨h.s1, h.s2, by rw [hl]; exact h.b1, by rw [hl]; exact h.b2, fun b hb => ?_, fun b hb => ?_⟩
  · rcases List.mem_or_eq_of_mem_set hb with hb | rfl
    · exact h.fit b hb
    · exact hx
  · rcases List.mem_or_eq_of_mem_set hb with hb | rfl
    · exact h.ok b hb
    · exact hok
section
variable {w : World} {p q : Nat} {vs : List Value} {D : Di} {k : Key} {a f2 f3 : Int}
set_option maxHeartbeats 2000000 in
theorem rInsert_bad (h : RefW w p q vs D) (hbad : f2 = 0 ∨ 9223372036854775808 ≤ f3) :
    Calls Try.prog 21 #[.pointer (some ⟨p, 0, none⟩), .agg k.cells, .int .u32 a, .int .u16 f2, .int .u64 f3] w (RefPost p q vs D (.int .i64 40) w) := by
  have HH := Aside0.mk h
  clear h
  by_cases h0 : f2 = 0
  · subst h0
    clear hbad
    go_enter Try.func21, Try.ntmps21
    go_wp2
    go_ret
    exact .same HH.out (below_alloc (Below.refl _ _) _)
  · have h1 : 9223372036854775807 < f3 := by omega
    have h2 : (f2 == 0) = false := by simpa using h0
    clear hbad h0
    go_enter Try.func21, Try.ntmps21
    go_wp2
    go_ret
    exact .same HH.out (below_alloc (Below.refl _ _) _)
/-- What one bucket's row is. -/
theorem RefW.bucket (h : RefW w p q vs D) (k : Key) : ∃ A c v, vs[D.at_ k]? = some v ∧ v = .slice A (D.of k).length c ∧ (D.of k).length ≤ c ∧ dE.C w A (D.of k) ∧ RowU w v (D.of k) ∧ w.cell? ⟨q, D.at_ k, none⟩ = some v := by
  have hi := h.at_.ok.at_lt k
  have hv : vs[D.at_ k]? = some (vs[D.at_ k]'(by rw [h.at_.len]; exact hi)) := List.getElem?_eq_getElem _
  have hU := h.rows _ _ _ hv (h.at_.ok.of_eq k)
  obtain ⟨A, c, he, hl, _, hC⟩ := hU.reads
  refine ⟨A, c, _, hv, he, hl, hC, hU, ?_⟩
  rw [blk_cell h.at_.row, List.getElem?_toArray]
  exact hv
theorem RefW.c0 (h : RefW w p q vs D) : w.cell? ⟨p, 0, none⟩ = some (.slice (some ⟨q, 0, none⟩) D.L.length D.L.length) := by
  have := blk_cell h.at_.box 0
  rw [h.at_.len] at this
  exact this
theorem RefW.c1 (h : RefW w p q vs D) : w.cell? ⟨p, 1, none⟩ = some (.int .i64 D.s) := blk_cell h.at_.box 1
theorem RefW.below {w' : World} (h : RefW w p q vs D) (hb : Below w.heap.size w w') : RefW w' p q vs D :=
  h.move fun k hk => hb.block k (Firm.lt (P := RefH p D) (w := w) ⟨q, vs, rfl, h⟩ k hk)
set_option maxHeartbeats 2000000 in
theorem rInsert_full (h : RefW w p q vs D) (h0 : ¬ f2 = 0) (h1 : ¬ 9223372036854775808 ≤ f3) (hf : (D.of k).length = D.s) :
    Calls Try.prog 21 #[.pointer (some ⟨p, 0, none⟩), .agg k.cells, .int .u32 a, .int .u16 f2, .int .u64 f3] w (RefPost p q vs D (.int .i64 50) w) := by
  have HH := Aside0.mk h
  have h2 : (f2 == 0) = false := by simpa using h0
  have h3 : decide (9223372036854775807 < f3) = false := decide_eq_false (by omega)
  have hb := blk_new w (.cells k.cells 23)
  have HA := Aside0.mk (h.below (below_alloc (Below.refl _ _) (.cells k.cells 23)))
  have HB := Aside0.mk (below_alloc (Below.refl w.heap.size w) (.cells k.cells 23))
  have hi := h.at_.ok.at_lt k
  have hie := h.at_.ok.at_eq k
  have hb2 := h.at_.ok.b2
  have HF := Lib.hid hf
  have HKB := Aside0.mk hb
  clear h h0 h1 hb hf
  go_enter Try.func21, Try.ntmps21
  go_wp2_with (first | (refine wpList_load_key k _ HKB.out rfl (.tmp 6) rfl rfl ?_) | fail)
  with_reducible refine (rBucket_calls k _ p _ D.L.length _ HA.out.c0 HA.out.at_.ok.b1 HA.out.at_.ok.b2).mono ?_
  rintro e w1 ⟨rfl, hB⟩
  rw [hie]
  have HB1 := Aside0.mk (HB.out.trans (hB.mono HB.out.size))
  have HD := Aside0.mk (HA.out.below hB)
  have c0 := HD.out.c0
  have c1 := HD.out.c1
  obtain ⟨A, c, v, hv, rfl, hlc, hC, hU, c3⟩ := HD.out.bucket k
  rw [HF.out] at c3
  clear hv hlc hC hU
  generalize D.at_ k = i at hi c3 ⊢
  generalize D.L.length = B at hi hb2 c0 ⊢
  have hi0 : (0 : Int) ≤ (i : Int) := by omega
  have hi1 : (i : Int) < (B : Int) := by omega
  clear hie hB HB HA
  go_wp2_with fail
  go_quiet (fail)
  go_wp2
  go_ret
  exact .same HH.out (pw_below_drewN HB1.out _)
set_option maxHeartbeats 4000000 in
set_option maxRecDepth 100000 in
theorem rInsert_ok (h : RefW w p q vs D) (h0 : ¬ f2 = 0) (h1 : ¬ 9223372036854775808 ≤ f3) (hf : ¬ (D.of k).length = D.s) (hok : OkE ⟨k.tag, a, f2, f3⟩) :
    Calls Try.prog 21 #[.pointer (some ⟨p, 0, none⟩), .agg k.cells, .int .u32 a, .int .u16 f2, .int .u64 f3] w (RefPost p q vs (layD D (D.at_ k) (D.of k ++ [⟨k.tag, a, f2, f3⟩])) (.int .i64 0) w) := by
  have HH := Aside0.mk h
  have h2 : (f2 == 0) = false := by simpa using h0
  have h3 : decide (9223372036854775807 < f3) = false := decide_eq_false (by omega)
  have hb := blk_new w (.cells k.cells 23)
  have HA := Aside0.mk (h.below (below_alloc (Below.refl _ _) (.cells k.cells 23)))
  have HB := Aside0.mk (below_alloc (Below.refl w.heap.size w) (.cells k.cells 23))
  have hi := h.at_.ok.at_lt k
  have hie := h.at_.ok.at_eq k
  have hoe := h.at_.ok.of_eq k
  have hb2 := h.at_.ok.b2
  have hle := h.at_.ok.fit _ (List.mem_of_getElem? hoe)
  have hs2 := h.at_.ok.s2
  have HOK := Lib.hid (show (layD D (D.at_ k) (D.of k ++ [⟨k.tag, a, f2, f3⟩])).Ok from h.at_.ok.lay _ (by rw [List.length_append]; show _ + 1 ≤ _; omega) fun x hx => by
    rcases List.mem_append.1 hx with hx | hx
    · exact h.at_.ok.ok _ (List.mem_of_getElem? hoe) x hx
    · rw [List.mem_singleton.1 hx]; exact hok)
  have HKB := Aside0.mk hb
  clear h h0 h1 hb hok hoe
  go_enter Try.func21, Try.ntmps21
  go_wp2_with (first | (refine wpList_load_key k _ HKB.out rfl (.tmp 6) rfl rfl ?_) | fail)
  with_reducible refine (rBucket_calls k _ p _ D.L.length _ HA.out.c0 HA.out.at_.ok.b1 HA.out.at_.ok.b2).mono ?_
  rintro e w1 ⟨rfl, hB⟩
  rw [hie]
  have HB1 := Aside0.mk (HB.out.trans (hB.mono HB.out.size))
  have HD := Aside0.mk (HA.out.below hB)
  have HKB := Aside0.mk (blk_below HKB.out hB)
  have c0 := HD.out.c0
  have c1 := HD.out.c1
  obtain ⟨A, c, v, hv, rfl, hlc, hC, hU, c3⟩ := HD.out.bucket k
  obtain ⟨i, hiq⟩ : ∃ i, D.at_ k = i := ⟨_, rfl⟩
  rw [hiq] at hi hv c3 HOK ⊢
  obtain ⟨b, hbq⟩ : ∃ b, D.of k = b := ⟨_, rfl⟩
  rw [hbq] at hf hle hv hlc hC hU c3 HOK ⊢
  obtain ⟨n, hn⟩ : ∃ n, b.length = n := ⟨_, rfl⟩
  rw [hn] at hf hle hv hlc hU c3
  obtain ⟨s, hs⟩ : ∃ s, D.s = s := ⟨_, rfl⟩
  rw [hs] at hf hle hs2 c1
  have HN := Lib.hid hn
  have HV := Lib.hid hv
  have HU := Lib.hid hU
  obtain ⟨B, hBL⟩ : ∃ B, D.L.length = B := ⟨_, rfl⟩
  rw [hBL] at hi hb2 c0
  have hi0 : (0 : Int) ≤ (i : Int) := by omega
  have hi1 : (i : Int) < (B : Int) := by omega
  have hns : decide ((s : Int) ≤ (n : Int)) = false := decide_eq_false (by omega)
  have hiq' := hiq
  have hbq' := hbq
  clear hie hB HB HA hv hU hC hn hs
  have HGO := Lib.hid (show (Value.slice A n c).ownBlock = some w.heap.size → False from fun e => by
    have h1 := HH.out.rows i _ b HV.out (by rw [← hbq']; rw [← hiq']; exact HH.out.at_.ok.of_eq k)
    have := h1.lt _ e
    omega)
  go_wp2_with fail
  go_quiet (fail)
  have HB := Aside0.mk (pw_below_drewN HB1.out nq)
  have HD := Aside0.mk (HD.out.below (pw_below_drewN (Below.refl _ _) nq))
  have HU := Lib.hid (HU.out.move (w' := w1.drewN nq) (fun _ _ => rfl))
  have HS := Aside0.mk (show ((w1.drewN nq).heap[w.heap.size]? = some (.cells k.cells 23 (0, 0)) ∧ (w1.drewN nq).cell? ⟨p, 0, none⟩ = some (.slice (some ⟨q, 0, none⟩) B B)) ∧ (w1.drewN nq).cell? ⟨q, i, none⟩ = some (.slice A n c) from ⟨⟨HKB.out, c0⟩, c3⟩)
  clear c0 c1 c3 HKB HB1
  generalize w1.drewN nq = w2 at HB HD HU HS ⊢
  obtain ⟨g, hg⟩ : ∃ g, w.heap.size = g := ⟨_, rfl⟩
  rw [hg] at HS HGO ⊢
  have HG := Lib.hid hg
  clear hg
  go_wp2_with fail
  --REGION
  refine OrdE.beginS (fun w' => (w'.heap[g]? = some (.cells k.cells 23 (0, 0)) ∧ w'.cell? ⟨p, 0, none⟩ = some (.slice (some ⟨q, 0, none⟩) B B)) ∧ w'.cell? ⟨q, i, none⟩ = some (.slice A n c)) (fun i => i != 21) (by kernel_rfl) ?_
  have HB := Aside0.mk (below_drew HB.out)
  have HD := Aside0.mk (HD.out.below (below_drew (Below.refl _ _)))
  have HU := Lib.hid (HU.out.move (w' := w2.drew) (fun _ _ => rfl))
  have HS := Aside0.mk (show (w2.drew.heap[g]? = some (.cells k.cells 23 (0, 0)) ∧ w2.drew.cell? ⟨p, 0, none⟩ = some (.slice (some ⟨q, 0, none⟩) B B)) ∧ w2.drew.cell? ⟨q, i, none⟩ = some (.slice A n c) from HS.out)
  generalize w2.drew = w3 at HB HD HU HS ⊢
  refine OrdE.takeK (i := 0) (oi := { dst := some 34, op := Go.Op.move (Go.Operand.tmp 0), type := 31, pos := "ambryref5.go:39", after := #[], guard := none }) (v := (.pointer (some ⟨p, 0, none⟩))) rfl (by kernel_rfl) (by kernel_rfl) (by kernel_rfl) (by kernel_rfl) (fun _ _ _ h => h) (by rfl) ?_ (HS.out) ?_
  · intro w hS; obtain ⟨⟨hx0, hx1⟩, hx2⟩ := hS; go_simp
  try simp only [Act.put, List.setIfInBounds_toArray, List.set_cons_zero, List.set_cons_succ]
  refine OrdE.takeK (i := 1) (oi := { dst := some 35, op := Go.Op.nilCheck (Go.Operand.tmp 34), type := 0, pos := "ambryref5.go:39", after := #[{ on := 0, ground := Go.Ground.data }], guard := none }) (v := (.pointer (some ⟨p, 0, none⟩))) rfl (by kernel_rfl) (by kernel_rfl) (by kernel_rfl) (by kernel_rfl) (fun _ _ _ h => h) (by rfl) ?_ (HS.out) ?_
  · intro w hS; obtain ⟨⟨hx0, hx1⟩, hx2⟩ := hS; go_simp
  try simp only [Act.put, List.setIfInBounds_toArray, List.set_cons_zero, List.set_cons_succ]
  refine OrdE.takeK (i := 2) (oi := { dst := some 36, op := Go.Op.fieldAddr 72 (Go.Operand.tmp 35) 0, type := 0, pos := "ambryref5.go:39", after := #[{ on := 1, ground := Go.Ground.data }], guard := none }) (v := (.pointer (some ⟨p, 0, none⟩))) rfl (by kernel_rfl) (by kernel_rfl) (by kernel_rfl) (by kernel_rfl) (fun _ _ _ h => h) (by rfl) ?_ (HS.out) ?_
  · intro w hS; obtain ⟨⟨hx0, hx1⟩, hx2⟩ := hS; go_simp
  try simp only [Act.put, List.setIfInBounds_toArray, List.set_cons_zero, List.set_cons_succ]
  refine OrdE.takeK (i := 3) (oi := { dst := some 37, op := Go.Op.load 70 (Go.Operand.tmp 36), type := 70, pos := "ambryref5.go:39", after := #[{ on := 2, ground := Go.Ground.data }], guard := none }) (v := (.slice (some ⟨q, 0, none⟩) B B)) rfl (by kernel_rfl) (by kernel_rfl) (by kernel_rfl) (by kernel_rfl) (fun _ _ _ h => h) (by rfl) ?_ (HS.out) ?_
  · intro w hS; obtain ⟨⟨hx0, hx1⟩, hx2⟩ := hS; go_simp
  try simp only [Act.put, List.setIfInBounds_toArray, List.set_cons_zero, List.set_cons_succ]
  refine OrdE.takeK (i := 4) (oi := { dst := some 38, op := Go.Op.move (Go.Operand.tmp 11), type := 3, pos := "ambryref5.go:39", after := #[], guard := none }) (v := (.int .i64 (i : Int))) rfl (by kernel_rfl) (by kernel_rfl) (by kernel_rfl) (by kernel_rfl) (fun _ _ _ h => h) (by rfl) ?_ (HS.out) ?_
  · intro w hS; obtain ⟨⟨hx0, hx1⟩, hx2⟩ := hS; go_simp
  try simp only [Act.put, List.setIfInBounds_toArray, List.set_cons_zero, List.set_cons_succ]
  refine OrdE.takeK (i := 5) (oi := { dst := some 39, op := Go.Op.move (Go.Operand.tmp 0), type := 31, pos := "ambryref5.go:39", after := #[], guard := none }) (v := (.pointer (some ⟨p, 0, none⟩))) rfl (by kernel_rfl) (by kernel_rfl) (by kernel_rfl) (by kernel_rfl) (fun _ _ _ h => h) (by rfl) ?_ (HS.out) ?_
  · intro w hS; obtain ⟨⟨hx0, hx1⟩, hx2⟩ := hS; go_simp
  try simp only [Act.put, List.setIfInBounds_toArray, List.set_cons_zero, List.set_cons_succ]
  refine OrdE.takeK (i := 6) (oi := { dst := some 40, op := Go.Op.nilCheck (Go.Operand.tmp 39), type := 0, pos := "ambryref5.go:39", after := #[{ on := 5, ground := Go.Ground.data }], guard := none }) (v := (.pointer (some ⟨p, 0, none⟩))) rfl (by kernel_rfl) (by kernel_rfl) (by kernel_rfl) (by kernel_rfl) (fun _ _ _ h => h) (by rfl) ?_ (HS.out) ?_
  · intro w hS; obtain ⟨⟨hx0, hx1⟩, hx2⟩ := hS; go_simp
  try simp only [Act.put, List.setIfInBounds_toArray, List.set_cons_zero, List.set_cons_succ]
  refine OrdE.takeK (i := 7) (oi := { dst := some 41, op := Go.Op.fieldAddr 72 (Go.Operand.tmp 40) 0, type := 0, pos := "ambryref5.go:39", after := #[{ on := 6, ground := Go.Ground.data }], guard := none }) (v := (.pointer (some ⟨p, 0, none⟩))) rfl (by kernel_rfl) (by kernel_rfl) (by kernel_rfl) (by kernel_rfl) (fun _ _ _ h => h) (by rfl) ?_ (HS.out) ?_
  · intro w hS; obtain ⟨⟨hx0, hx1⟩, hx2⟩ := hS; go_simp
  try simp only [Act.put, List.setIfInBounds_toArray, List.set_cons_zero, List.set_cons_succ]
  refine OrdE.takeK (i := 8) (oi := { dst := some 42, op := Go.Op.load 70 (Go.Operand.tmp 41), type := 70, pos := "ambryref5.go:39", after := #[{ on := 7, ground := Go.Ground.data }], guard := none }) (v := (.slice (some ⟨q, 0, none⟩) B B)) rfl (by kernel_rfl) (by kernel_rfl) (by kernel_rfl) (by kernel_rfl) (fun _ _ _ h => h) (by rfl) ?_ (HS.out) ?_
  · intro w hS; obtain ⟨⟨hx0, hx1⟩, hx2⟩ := hS; go_simp
  try simp only [Act.put, List.setIfInBounds_toArray, List.set_cons_zero, List.set_cons_succ]
  refine OrdE.takeK (i := 9) (oi := { dst := some 43, op := Go.Op.move (Go.Operand.tmp 11), type := 3, pos := "ambryref5.go:39", after := #[], guard := none }) (v := (.int .i64 (i : Int))) rfl (by kernel_rfl) (by kernel_rfl) (by kernel_rfl) (by kernel_rfl) (fun _ _ _ h => h) (by rfl) ?_ (HS.out) ?_
  · intro w hS; obtain ⟨⟨hx0, hx1⟩, hx2⟩ := hS; go_simp
  try simp only [Act.put, List.setIfInBounds_toArray, List.set_cons_zero, List.set_cons_succ]
  refine OrdE.takeK (i := 10) (oi := { dst := some 44, op := Go.Op.indexAddr 70 (Go.Operand.tmp 42) (Go.Operand.tmp 43), type := 0, pos := "ambryref5.go:39", after := #[{ on := 8, ground := Go.Ground.data }, { on := 9, ground := Go.Ground.data }], guard := none }) (v := (.pointer (some ⟨q, i, none⟩))) rfl (by kernel_rfl) (by kernel_rfl) (by kernel_rfl) (by kernel_rfl) (fun _ _ _ h => h) (by rfl) ?_ (HS.out) ?_
  · intro w hS; obtain ⟨⟨hx0, hx1⟩, hx2⟩ := hS; go_simp
  try simp only [Act.put, List.setIfInBounds_toArray, List.set_cons_zero, List.set_cons_succ]
  refine OrdE.takeK (i := 11) (oi := { dst := some 45, op := Go.Op.load 45 (Go.Operand.tmp 44), type := 45, pos := "ambryref5.go:39", after := #[{ on := 10, ground := Go.Ground.data }], guard := none }) (v := (.slice A n c)) rfl (by kernel_rfl) (by kernel_rfl) (by kernel_rfl) (by kernel_rfl) (fun _ _ _ h => h) (by rfl) ?_ (HS.out) ?_
  · intro w hS; obtain ⟨⟨hx0, hx1⟩, hx2⟩ := hS; go_simp
  try simp only [Act.put, List.setIfInBounds_toArray, List.set_cons_zero, List.set_cons_succ]
  refine OrdE.takeK (i := 12) (oi := { dst := some 46, op := Go.Op.load 23 (Go.Operand.tmp 6), type := 23, pos := "ambryref5.go:39", after := #[], guard := none }) (v := (.agg k.cells)) rfl (by kernel_rfl) (by kernel_rfl) (by kernel_rfl) (by kernel_rfl) (fun _ _ _ h => h) (by rfl) ?_ (HS.out) ?_
  · intro w hS; obtain ⟨⟨hx0, hx1⟩, hx2⟩ := hS; exact exec_load_key k g hx0 (.tmp 6) rfl rfl
  try simp only [Act.put, List.setIfInBounds_toArray, List.set_cons_zero, List.set_cons_succ]
  refine OrdE.takeK (i := 14) (oi := { dst := some 48, op := Go.Op.move (Go.Operand.tmp 2), type := 37, pos := "ambryref5.go:39", after := #[], guard := none }) (v := (.int .u32 a)) rfl (by kernel_rfl) (by kernel_rfl) (by kernel_rfl) (by kernel_rfl) (fun _ _ _ h => h) (by rfl) ?_ (HS.out) ?_
  · intro w hS; obtain ⟨⟨hx0, hx1⟩, hx2⟩ := hS; go_simp
  try simp only [Act.put, List.setIfInBounds_toArray, List.set_cons_zero, List.set_cons_succ]
  refine OrdE.takeK (i := 15) (oi := { dst := some 49, op := Go.Op.move (Go.Operand.tmp 3), type := 26, pos := "ambryref5.go:39", after := #[], guard := none }) (v := (.int .u16 f2)) rfl (by kernel_rfl) (by kernel_rfl) (by kernel_rfl) (by kernel_rfl) (fun _ _ _ h => h) (by rfl) ?_ (HS.out) ?_
  · intro w hS; obtain ⟨⟨hx0, hx1⟩, hx2⟩ := hS; go_simp
  try simp only [Act.put, List.setIfInBounds_toArray, List.set_cons_zero, List.set_cons_succ]
  refine OrdE.takeK (i := 16) (oi := { dst := some 50, op := Go.Op.move (Go.Operand.tmp 4), type := 38, pos := "ambryref5.go:39", after := #[], guard := none }) (v := (.int .u64 f3)) rfl (by kernel_rfl) (by kernel_rfl) (by kernel_rfl) (by kernel_rfl) (fun _ _ _ h => h) (by rfl) ?_ (HS.out) ?_
  · intro w hS; obtain ⟨⟨hx0, hx1⟩, hx2⟩ := hS; go_simp
  try simp only [Act.put, List.setIfInBounds_toArray, List.set_cons_zero, List.set_cons_succ]
  refine OrdE.oneE (i := 13) (o := { dst := some 47, op := Go.Op.call { callee := Go.Callee.value (Go.Operand.func 12), args := #[Go.Operand.tmp 46], argTypes := #[23] }, type := 26, pos := "ambryref5.go:39", after := #[{ on := 12, ground := Go.Ground.data }], guard := none }) (by kernel_rfl) rfl (fun K hK => ?_)
  go_simp
  refine (rTag_calls k _).mono ?_
  rintro e w5 ⟨rfl, hB⟩
  have HB5 := Aside0.mk (HB.out.trans (hB.mono HB.out.size))
  have HD5 := Aside0.mk (HD.out.below hB)
  have HU5 := Lib.hid (HU.out.move (w' := w5) (fun j hj => hB.block j (HU.out.lt j hj)))
  have HS5 := Aside0.mk (And.intro (And.intro (blk_below HS.out.1.1 hB) (pw_cell_below hB HS.out.1.2)) (pw_cell_below hB HS.out.2))
  clear hB HB HD HU HS
  refine hK.out _ _ (fun _ => HS5.out) ?_
  clear hK K
  try simp only [Act.put, List.setIfInBounds_toArray, List.set_cons_zero, List.set_cons_succ]
  refine OrdE.takeK (i := 17) (oi := { dst := some 51, op := Go.Op.build 55 #[(0, Go.Operand.tmp 47), (1, Go.Operand.tmp 48), (2, Go.Operand.tmp 49), (3, Go.Operand.tmp 50)], type := 55, pos := "ambryref5.go:39", after := #[{ on := 13, ground := Go.Ground.data }, { on := 14, ground := Go.Ground.data }, { on := 15, ground := Go.Ground.data }, { on := 16, ground := Go.Ground.data }], guard := none }) (v := (.agg #[.int .u16 k.tag, .int .u32 a, .int .u16 f2, .int .u64 f3])) rfl (by kernel_rfl) (by kernel_rfl) (by kernel_rfl) (by kernel_rfl) (fun _ _ _ h => h) (by rfl) ?_ (HS5.out) ?_
  · intro w hS; obtain ⟨⟨hx0, hx1⟩, hx2⟩ := hS; go_simp
  try simp only [Act.put, List.setIfInBounds_toArray, List.set_cons_zero, List.set_cons_succ]
  refine OrdE.oneE (i := 18) (o := { dst := some 52, op := Go.Op.buildSlice 45 1 #[(0, Go.Operand.tmp 51)], type := 45, pos := "ambryref5.go:39", after := #[{ on := 17, ground := Go.Ground.data }], guard := none }) (by kernel_rfl) rfl (fun K hK => ?_)
  go_simp
  have hB6 := below_alloc (Below.refl w5.heap.size w5) (.cells #[.int .u16 k.tag, .int .u32 a, .int .u16 f2, .int .u64 f3] 55)
  have HB6 := Aside0.mk (HB5.out.trans (hB6.mono HB5.out.size))
  have HD6 := Aside0.mk (HD5.out.below hB6)
  have HU6 := Lib.hid (HU5.out.move (w' := w5.alloc (.cells #[.int .u16 k.tag, .int .u32 a, .int .u16 f2, .int .u64 f3] 55)) (fun j hj => hB6.block j (HU5.out.lt j hj)))
  have HS6 := Aside0.mk (And.intro (And.intro (blk_below HS5.out.1.1 hB6) (pw_cell_below hB6 HS5.out.1.2)) (pw_cell_below hB6 HS5.out.2))
  have HX := Aside0.mk (show dE.C (w5.alloc (.cells #[.int .u16 k.tag, .int .u32 a, .int .u16 f2, .int .u64 f3] 55)) (some ⟨w5.heap.size, 0, none⟩) [⟨k.tag, a, f2, f3⟩] from
    Fl.C_blk (d := dE) (M := [⟨k.tag, a, f2, f3⟩]) (e := 55) (blk_new w5 (.cells #[.int .u16 k.tag, .int .u32 a, .int .u16 f2, .int .u64 f3] 55)) 0 1 (Nat.le_refl _))
  clear hB6 HB5 HD5 HU5 HS5
  generalize w5.heap.size = h5 at HX ⊢
  generalize w5.alloc (.cells #[.int .u16 k.tag, .int .u32 a, .int .u16 f2, .int .u64 f3] 55) = w6 at HB6 HD6 HU6 HS6 HX ⊢
  refine hK.out _ _ (fun _ => HS6.out) ?_
  clear hK K
  try simp only [Act.put, List.setIfInBounds_toArray, List.set_cons_zero, List.set_cons_succ]
  obtain ⟨v7, w7, hrun, hU7, hg7, ho7⟩ := rowU_append (ty := 45) HU6.out 1 HX.out (by rw [HN.out]; show n + 1 ≤ _; omega)
  obtain ⟨A7, m7, c7, rfl⟩ : ∃ A m c, v7 = .slice A m c := by obtain ⟨A, c, h, _⟩ := hU7.reads; exact ⟨_, _, _, h⟩
  have hk7 : Keeps (fun j => (Value.slice A n c).ownBlock = some j) w6 w7 := ⟨hg7.os, hg7.tape, hg7.output, hg7.size, fun j hj hn => hg7.block j hj (fun e => hn e.symm)⟩
  have hfar := HD6.out.far _ (List.mem_of_getElem? HV.out)
  have hgo : (Value.slice A n c).ownBlock ≠ some g := fun e => HGO.out e
  have hq7 := hk7.blk HD6.out.at_.row hfar.2
  have HS7 := Aside0.mk (And.intro (And.intro (hk7.blk HS6.out.1.1 hgo) (show w7.cell? ⟨p, 0, none⟩ = some (.slice (some ⟨q, 0, none⟩) B B) from by rw [blk_cell (hk7.blk HD6.out.at_.box hfar.1) 0]; rw [← blk_cell HD6.out.at_.box 0]; exact HS6.out.1.2)) (show w7.cell? ⟨q, i, none⟩ = some (.slice A n c) from by rw [blk_cell hq7 i]; rw [← blk_cell HD6.out.at_.row i]; exact HS6.out.2))
  have HQ7 := Aside0.mk hq7
  have HK7 := Aside0.mk hk7
  have HU7 := Lib.hid hU7
  have HO7 := Lib.hid ho7
  have HRUN := Lib.hid hrun
  clear hrun hU7 hg7 ho7 hk7 hfar hgo hq7 HX HU6
  refine OrdE.oneE (i := 19) (o := { dst := some 53, op := Go.Op.call { callee := Go.Callee.builtin Go.Builtin.append, args := #[Go.Operand.tmp 45, Go.Operand.tmp 52], argTypes := #[45, 45] }, type := 45, pos := "ambryref5.go:39", after := #[{ on := 11, ground := Go.Ground.data }, { on := 18, ground := Go.Ground.data }, { on := 13, ground := Go.Ground.chain }], guard := none }) (by kernel_rfl) rfl (fun K hK => ?_)
  refine Fl.step_append_run rfl (.tmp 45) (.tmp 52) 45 45 rfl _ _ _ rfl rfl HRUN.out ?_
  refine hK.out _ _ (fun _ => HS7.out) ?_
  clear hK K
  try simp only [Act.put, List.setIfInBounds_toArray, List.set_cons_zero, List.set_cons_succ]
  refine OrdE.takeK (i := 20) (oi := { dst := some 54, op := Go.Op.indexAddr 70 (Go.Operand.tmp 37) (Go.Operand.tmp 38), type := 0, pos := "ambryref5.go:39", after := #[{ on := 3, ground := Go.Ground.data }, { on := 4, ground := Go.Ground.data }, { on := 0, ground := Go.Ground.phase }, { on := 1, ground := Go.Ground.phase }, { on := 2, ground := Go.Ground.phase }, { on := 3, ground := Go.Ground.phase }, { on := 4, ground := Go.Ground.phase }, { on := 5, ground := Go.Ground.phase }, { on := 6, ground := Go.Ground.phase }, { on := 7, ground := Go.Ground.phase }, { on := 8, ground := Go.Ground.phase }, { on := 9, ground := Go.Ground.phase }, { on := 10, ground := Go.Ground.phase }, { on := 11, ground := Go.Ground.phase }, { on := 12, ground := Go.Ground.phase }, { on := 13, ground := Go.Ground.phase }, { on := 14, ground := Go.Ground.phase }, { on := 15, ground := Go.Ground.phase }, { on := 16, ground := Go.Ground.phase }, { on := 17, ground := Go.Ground.phase }, { on := 18, ground := Go.Ground.phase }, { on := 19, ground := Go.Ground.phase }], guard := none }) (v := (.pointer (some ⟨q, i, none⟩))) rfl (by kernel_rfl) (by kernel_rfl) (by kernel_rfl) (by kernel_rfl) (fun _ _ _ h => h) (by rfl) ?_ (HS7.out) ?_
  · intro w hS; obtain ⟨⟨hx0, hx1⟩, hx2⟩ := hS; go_simp
  try simp only [Act.put, List.setIfInBounds_toArray, List.set_cons_zero, List.set_cons_succ]
  have hcq := HS7.out.2
  have hfq : w7.frozen? ⟨q, i, none⟩ = false := blk_frozen HQ7.out i
  refine OrdE.oneE (i := 21) (o := { dst := none, op := Go.Op.store 45 (Go.Operand.tmp 54) (Go.Operand.tmp 53), type := 0, pos := "ambryref5.go:39", after := #[{ on := 20, ground := Go.Ground.data }, { on := 19, ground := Go.Ground.data }, { on := 19, ground := Go.Ground.chain }, { on := 0, ground := Go.Ground.phase }, { on := 1, ground := Go.Ground.phase }, { on := 2, ground := Go.Ground.phase }, { on := 3, ground := Go.Ground.phase }, { on := 4, ground := Go.Ground.phase }, { on := 5, ground := Go.Ground.phase }, { on := 6, ground := Go.Ground.phase }, { on := 7, ground := Go.Ground.phase }, { on := 8, ground := Go.Ground.phase }, { on := 9, ground := Go.Ground.phase }, { on := 10, ground := Go.Ground.phase }, { on := 11, ground := Go.Ground.phase }, { on := 12, ground := Go.Ground.phase }, { on := 13, ground := Go.Ground.phase }, { on := 14, ground := Go.Ground.phase }, { on := 15, ground := Go.Ground.phase }, { on := 16, ground := Go.Ground.phase }, { on := 17, ground := Go.Ground.phase }, { on := 18, ground := Go.Ground.phase }, { on := 19, ground := Go.Ground.phase }], guard := none }) (by kernel_rfl) rfl (fun K hK => ?_)
  go_simp
  have hW : RefW (w7.setCell ⟨q, i, none⟩ (Value.slice A7 m7 c7)) p q (vs.set i (Value.slice A7 m7 c7)) (layD D i (b ++ [⟨k.tag, a, f2, f3⟩])) := by
    refine HD6.out.put i (by rw [HD6.out.at_.len, hBL]; exact hi) _ (Value.slice A7 m7 c7) HV.out _ HOK.out ?_ (blk_vals HQ7.out i (Value.slice A7 m7 c7)) ?_ ?_
    · exact ((HK7.out.mono (G := fun j => j = q ∨ (Value.slice A n c).ownBlock = some j) (fun j hj => .inl (.inr hj))).setCell (p := ⟨q, i, none⟩) (.inl (.inl rfl)) (Value.slice A7 m7 c7))
    · refine HU7.out.move fun j hj => Below.heap_setCell _ _ _ _ ?_
      intro e
      have e2 : j = q := e
      rw [e2] at hj
      rcases HO7.out with h | h
      · rw [h] at hj; exact (HD6.out.far _ (List.mem_of_getElem? HV.out)).2 hj
      · have h3 : w6.heap.size ≤ q := h _ hj; have h4 := blk_lt HD6.out.at_.row; omega
    · exact HO7.out
  have HW := Lib.hid hW
  have hK9 : Keeps (blks p q vs) w (w7.setCell ⟨q, i, none⟩ (Value.slice A7 m7 c7)) := ((Keeps.of_below HB6.out).trans (HK7.out) (fun j hj => .inl (.inr (.inr ⟨_, List.mem_of_getElem? HV.out, hj⟩)))).setCell (p := ⟨q, i, none⟩) (.inl (.inr (.inl rfl))) (Value.slice A7 m7 c7)
  have HK9 := Lib.hid hK9
  clear hW hK9
  have HS9 := Aside0.mk (show True from trivial)
  generalize w7.setCell ⟨q, i, none⟩ (Value.slice A7 m7 c7) = w9 at HW HK9 ⊢
  refine hK.out _ _ (fun h => by cases h) ?_
  clear hK K
  refine OrdE.doneE (by kernel_rfl) ?_ _
  go_wp2_with fail
  go_ret
  rw [hiq', hbq']
  refine ⟨rfl, ⟨_, HW.out, fun u hu j hj => ?_⟩, HK9.out⟩
  rcases List.mem_or_eq_of_mem_set hu with hu | rfl
  · exact .inl (.inr (.inr ⟨u, hu, hj⟩))
  · rcases HO7.out with h | h
    · exact .inl (.inr (.inr ⟨_, List.mem_of_getElem? HV.out, by rw [← h]; exact hj⟩))
    · exact .inr (Nat.le_trans HB6.out.size (h j hj))
--END
end
end Go.Proofs.Ytafpaomcmjccaaa.Dir

namespace Go.Proofs.Ytafpaomcmjccaaa.Dir
open Go.RowKit Go.Proofs.Ytafpaomcmjccaaa.G Go.Proofs.YtafpaomcmjccaaaW.PrintWords Go.Proofs.YtafpaomcmjccaaaW.PrintMore Go.Proofs.Ytafpaomcmjccaaa.Foot
theorem probe_step (t : Int) (xs : List S55) (m : Nat) (x : S55) (h : xs[m]? = some x) : probe t (xs.drop m) = probe t (xs.drop (m + 1)) ++ (if x.f0 == t then [x] else []) := by
  obtain ⟨hm, rfl⟩ := List.getElem?_eq_some_iff.1 h
  unfold probe
  rw [List.drop_eq_getElem_cons hm, List.reverse_cons, List.filter_append]
  congr 1
  simp only [List.filter_cons, List.filter_nil]
section
variable {w : World} {p q : Nat} {vs : List Value} {D : Di} {k : Key}
set_option maxHeartbeats 4000000 in
set_option maxRecDepth 100000 in
theorem rProbe_calls (h : RefW w p q vs D) :
    Calls Try.prog 25 #[.pointer (some ⟨p, 0, none⟩), .agg k.cells] w (RowPost (probe k.tag (D.of k)) w) := by
  have hb := blk_new w (.cells k.cells 23)
  have HA := Aside0.mk (h.below (below_alloc (Below.refl _ _) (.cells k.cells 23)))
  have HB := Aside0.mk (below_alloc (Below.refl w.heap.size w) (.cells k.cells 23))
  have hi := h.at_.ok.at_lt k
  have hie := h.at_.ok.at_eq k
  have hoe := h.at_.ok.of_eq k
  have hb1 := h.at_.ok.b1
  have hb2 := h.at_.ok.b2
  have hle := h.at_.ok.fit _ (List.mem_of_getElem? hoe)
  have hs2 := h.at_.ok.s2
  have HKB := Aside0.mk hb
  have HCH := Lib.hid (show ∀ A c, vs[D.at_ k]? = some (.slice A (D.of k).length c) → dE.C w A (D.of k) from by
    obtain ⟨A0, c0, v0, hv0, rfl, _, hC0, _⟩ := h.bucket k
    intro A c hv
    rw [hv0] at hv
    cases hv
    exact hC0)
  clear h hb hoe
  have hcs := k.size
  go_enter Try.func25, Try.ntmps25
  go_upto_region 1 with (fail)
  generalize w.alloc (.cells k.cells 23) = w1 at HB HA HKB ⊢
  obtain ⟨g, hg⟩ : ∃ g, w.heap.size = g := ⟨_, rfl⟩
  rw [hg] at HKB ⊢
  have HG := Lib.hid hg
  have c0 := HA.out.c0
  obtain ⟨A, c, v, hv, rfl, hlc, hC, hU, c3⟩ := HA.out.bucket k
  have HS := Aside0.mk (And.intro (And.intro HKB.out c0) c3)
  have HC := Aside0.mk hC
  have HCC := Lib.hid (HCH.out A c hv)
  clear HCH
  obtain ⟨i, hiq⟩ : ∃ i, D.at_ k = i := ⟨_, rfl⟩
  rw [hiq] at hi hie HS
  obtain ⟨b, hbq⟩ : ∃ b, D.of k = b := ⟨_, rfl⟩
  rw [hbq] at hle hlc HS HC HCC ⊢
  obtain ⟨n, hn⟩ : ∃ n, b.length = n := ⟨_, rfl⟩
  rw [hn] at hle hlc HS
  obtain ⟨B, hBL⟩ : ∃ B, D.L.length = B := ⟨_, rfl⟩
  rw [hBL] at hi hie hb1 hb2 HS
  have HIE := Lib.hid hie
  have HN := Lib.hid hn
  have HBQ := Lib.hid hbq
  have hi0 : (0 : Int) ≤ (i : Int) := by omega
  have hi1 : (i : Int) < (B : Int) := by omega
  have hn16 : n ≤ 16 := by omega
  clear hiq hbq hn hBL hie hg hv hC hU c0 c3 HKB HA hcs
  --REGION-A
  refine OrdE.beginS (fun w' => (w'.heap[g]? = some (.cells k.cells 23 (0, 0)) ∧ w'.cell? ⟨p, 0, none⟩ = some (.slice (some ⟨q, 0, none⟩) B B)) ∧ w'.cell? ⟨q, i, none⟩ = some (.slice A n c)) (fun _ => true) (by kernel_rfl) ?_
  have HB := Aside0.mk (below_drew HB.out)
  have HC := Aside0.mk (Fl.C_below HC.out (below_drew (Below.refl _ _)))
  have HS := Aside0.mk (show (w1.drew.heap[g]? = some (.cells k.cells 23 (0, 0)) ∧ w1.drew.cell? ⟨p, 0, none⟩ = some (.slice (some ⟨q, 0, none⟩) B B)) ∧ w1.drew.cell? ⟨q, i, none⟩ = some (.slice A n c) from HS.out)
  generalize w1.drew = w2 at HB HC HS ⊢
  refine OrdE.takeK (i := 0) (oi := { dst := some 8, op := Go.Op.move (Go.Operand.tmp 0), type := 31, pos := "ambryref5.go:44", after := #[], guard := none }) (v := (.pointer (some ⟨p, 0, none⟩))) rfl (by kernel_rfl) (by kernel_rfl) (by kernel_rfl) (by kernel_rfl) (fun _ _ _ h => h) (by rfl) ?_ (HS.out) ?_
  · intro w hS; obtain ⟨⟨hx0, hx1⟩, hx2⟩ := hS; go_simp
  try simp only [Act.put, List.setIfInBounds_toArray, List.set_cons_zero, List.set_cons_succ]
  refine OrdE.takeK (i := 1) (oi := { dst := some 9, op := Go.Op.nilCheck (Go.Operand.tmp 8), type := 0, pos := "ambryref5.go:44", after := #[{ on := 0, ground := Go.Ground.data }], guard := none }) (v := (.pointer (some ⟨p, 0, none⟩))) rfl (by kernel_rfl) (by kernel_rfl) (by kernel_rfl) (by kernel_rfl) (fun _ _ _ h => h) (by rfl) ?_ (HS.out) ?_
  · intro w hS; obtain ⟨⟨hx0, hx1⟩, hx2⟩ := hS; go_simp
  try simp only [Act.put, List.setIfInBounds_toArray, List.set_cons_zero, List.set_cons_succ]
  refine OrdE.takeK (i := 2) (oi := { dst := some 10, op := Go.Op.fieldAddr 72 (Go.Operand.tmp 9) 0, type := 0, pos := "ambryref5.go:44", after := #[{ on := 1, ground := Go.Ground.data }], guard := none }) (v := (.pointer (some ⟨p, 0, none⟩))) rfl (by kernel_rfl) (by kernel_rfl) (by kernel_rfl) (by kernel_rfl) (fun _ _ _ h => h) (by rfl) ?_ (HS.out) ?_
  · intro w hS; obtain ⟨⟨hx0, hx1⟩, hx2⟩ := hS; go_simp
  try simp only [Act.put, List.setIfInBounds_toArray, List.set_cons_zero, List.set_cons_succ]
  refine OrdE.takeK (i := 3) (oi := { dst := some 11, op := Go.Op.load 70 (Go.Operand.tmp 10), type := 70, pos := "ambryref5.go:44", after := #[{ on := 2, ground := Go.Ground.data }], guard := none }) (v := (.slice (some ⟨q, 0, none⟩) B B)) rfl (by kernel_rfl) (by kernel_rfl) (by kernel_rfl) (by kernel_rfl) (fun _ _ _ h => h) (by rfl) ?_ (HS.out) ?_
  · intro w hS; obtain ⟨⟨hx0, hx1⟩, hx2⟩ := hS; go_simp
  try simp only [Act.put, List.setIfInBounds_toArray, List.set_cons_zero, List.set_cons_succ]
  refine OrdE.takeK (i := 4) (oi := { dst := some 12, op := Go.Op.move (Go.Operand.tmp 0), type := 31, pos := "ambryref5.go:44", after := #[], guard := none }) (v := (.pointer (some ⟨p, 0, none⟩))) rfl (by kernel_rfl) (by kernel_rfl) (by kernel_rfl) (by kernel_rfl) (fun _ _ _ h => h) (by rfl) ?_ (HS.out) ?_
  · intro w hS; obtain ⟨⟨hx0, hx1⟩, hx2⟩ := hS; go_simp
  try simp only [Act.put, List.setIfInBounds_toArray, List.set_cons_zero, List.set_cons_succ]
  refine OrdE.takeK (i := 5) (oi := { dst := some 13, op := Go.Op.load 23 (Go.Operand.tmp 3), type := 23, pos := "ambryref5.go:44", after := #[], guard := none }) (v := (.agg k.cells)) rfl (by kernel_rfl) (by kernel_rfl) (by kernel_rfl) (by kernel_rfl) (fun _ _ _ h => h) (by rfl) ?_ (HS.out) ?_
  · intro w hS; obtain ⟨⟨hx0, hx1⟩, hx2⟩ := hS; exact exec_load_key k g hx0 (.tmp 3) rfl rfl
  try simp only [Act.put, List.setIfInBounds_toArray, List.set_cons_zero, List.set_cons_succ]
  refine OrdE.oneE (i := 6) (o := { dst := some 14, op := Go.Op.call { callee := Go.Callee.value (Go.Operand.func 16), args := #[Go.Operand.tmp 12, Go.Operand.tmp 13], argTypes := #[31, 23] }, type := 3, pos := "ambryref5.go:44", after := #[{ on := 4, ground := Go.Ground.data }, { on := 5, ground := Go.Ground.data }], guard := none }) (by kernel_rfl) rfl (fun K hK => ?_)
  go_simp
  refine (rBucket_calls k _ p _ B B HS.out.1.2 hb1 hb2).mono ?_
  rintro e w3 ⟨rfl, hB⟩
  rw [HIE.out]
  have HB3 := Aside0.mk (HB.out.trans (hB.mono HB.out.size))
  have HC3 := Aside0.mk (Fl.C_below HC.out hB)
  have HS3 := Aside0.mk (And.intro (And.intro (blk_below HS.out.1.1 hB) (pw_cell_below hB HS.out.1.2)) (pw_cell_below hB HS.out.2))
  clear hB HB HC HS
  refine hK.out _ _ (fun _ => HS3.out) ?_
  clear hK K
  try simp only [Act.put, List.setIfInBounds_toArray, List.set_cons_zero, List.set_cons_succ]
  refine OrdE.takeK (i := 7) (oi := { dst := some 15, op := Go.Op.indexAddr 70 (Go.Operand.tmp 11) (Go.Operand.tmp 14), type := 0, pos := "ambryref5.go:44", after := #[{ on := 3, ground := Go.Ground.data }, { on := 6, ground := Go.Ground.data }], guard := none }) (v := (.pointer (some ⟨q, i, none⟩))) rfl (by kernel_rfl) (by kernel_rfl) (by kernel_rfl) (by kernel_rfl) (fun _ _ _ h => h) (by rfl) ?_ (HS3.out) ?_
  · intro w hS; obtain ⟨⟨hx0, hx1⟩, hx2⟩ := hS; go_simp
  try simp only [Act.put, List.setIfInBounds_toArray, List.set_cons_zero, List.set_cons_succ]
  refine OrdE.takeK (i := 8) (oi := { dst := some 16, op := Go.Op.load 45 (Go.Operand.tmp 15), type := 45, pos := "ambryref5.go:44", after := #[{ on := 7, ground := Go.Ground.data }], guard := none }) (v := (.slice A n c)) rfl (by kernel_rfl) (by kernel_rfl) (by kernel_rfl) (by kernel_rfl) (fun _ _ _ h => h) (by rfl) ?_ (HS3.out) ?_
  · intro w hS; obtain ⟨⟨hx0, hx1⟩, hx2⟩ := hS; go_simp
  try simp only [Act.put, List.setIfInBounds_toArray, List.set_cons_zero, List.set_cons_succ]
  refine OrdE.takeK (i := 9) (oi := { dst := some 5, op := Go.Op.assign (Go.Operand.tmp 16), type := 45, pos := "ambryref5.go:44", after := #[{ on := 8, ground := Go.Ground.data }, { on := 6, ground := Go.Ground.chain }, { on := 0, ground := Go.Ground.phase }, { on := 1, ground := Go.Ground.phase }, { on := 2, ground := Go.Ground.phase }, { on := 3, ground := Go.Ground.phase }, { on := 4, ground := Go.Ground.phase }, { on := 5, ground := Go.Ground.phase }, { on := 6, ground := Go.Ground.phase }, { on := 7, ground := Go.Ground.phase }, { on := 8, ground := Go.Ground.phase }], guard := none }) (v := (.slice A n c)) rfl (by kernel_rfl) (by kernel_rfl) (by kernel_rfl) (by kernel_rfl) (fun _ _ _ h => h) (by rfl) ?_ (HS3.out) ?_
  · intro w hS; obtain ⟨⟨hx0, hx1⟩, hx2⟩ := hS; go_simp
  try simp only [Act.put, List.setIfInBounds_toArray, List.set_cons_zero, List.set_cons_succ]
  refine OrdE.doneE (by kernel_rfl) ?_ _
--END-A
  go_wp2_with fail
  --LOOP
  have hkg : g < w3.heap.size := blk_lt HS3.out.1.1
  have HKG := Lib.hid HS3.out.1.1
  clear HS3
  have hwn : IntKind.i64.wrap ((n : Int) - 1) = (n : Int) - 1 := by rw [IntKind.wrap_i64]; omega
  go_loopw [6, 7] (fun v6 v7 wr => ∃ (m : Nat), v7 = .int .i64 ((m : Int) - 1) ∧ m ≤ n ∧ Aside0 (dE.R 55 wr (g + 1) v6 (probe k.tag (b.drop m))) ∧ Aside0 (wr.heap[g]? = some (.cells k.cells 23 (0, 0))) ∧ Aside0 (Below w.heap.size w wr)) (fun _ v7 _ => (intOf v7 + 1).toNat)
  case atStart => exact ⟨n, rfl, Nat.le_refl _, ⟨by rw [List.drop_eq_nil_of_le (by rw [HN.out]; omega)]; exact Fl.R_nil⟩, ⟨HKG.out⟩, ⟨HB3.out⟩⟩
  case round =>
    clear HB3 HC3 HKG hkg hwn
    obtain ⟨m1, rfl, hm, HR, HKB, HB⟩ := hrel
    have HC := Aside0.mk (Fl.C_below HCC.out HB.out)
    by_cases hlt : 0 < m1
    · obtain ⟨m, rfl⟩ : ∃ m, m1 = m + 1 := ⟨m1 - 1, by omega⟩
      rw [show ((m + 1 : Nat) : Int) - 1 = (m : Int) by omega]
      have hm0 : (0 : Int) ≤ (m : Int) := by omega
      have hm1 : (m : Int) < (n : Int) := by omega
      have hmn : m < n := by omega
      obtain ⟨x, hx⟩ : ∃ x, b[m]? = some x := ⟨_, List.getElem?_eq_getElem (by rw [HN.out]; omega)⟩
      obtain ⟨ad, hA, h0, h1, h2, h3⟩ := C_four HC.out (by rw [HN.out]; omega) m x hx
      subst hA
      have HPS := Lib.hid (probe_step k.tag b m x hx)
      have hpl : (probe k.tag (b.drop (m + 1))).length ≤ 16 := by
        unfold probe
        have h8 := List.length_filter_le (fun x : S55 => x.f0 == k.tag) (b.drop (m + 1)).reverse
        rw [List.length_reverse, List.length_drop, HN.out] at h8
        omega
      obtain ⟨acc, hacc⟩ : ∃ acc, probe k.tag (b.drop (m + 1)) = acc := ⟨_, rfl⟩
      rw [hacc] at hpl HR HPS
      have HX := Lib.hid hx
      clear hx hacc
      have hwm : IntKind.i64.wrap ((m : Int) - 1) = (m : Int) - 1 := by rw [IntKind.wrap_i64]; omega
      go_upto_region 6 with (fail)
      --REGION-B
      refine OrdE.beginS (fun w' => w'.heap[g]? = some (.cells k.cells 23 (0, 0)) ∧ w'.cell? (ad.add (m * 4)) = some (.int .u16 x.f0)) (fun _ => true) (by kernel_rfl) ?_
      have HB := Aside0.mk (below_drew HB.out)
      have HC := Aside0.mk (Fl.C_below HC.out (below_drew (Below.refl _ _)))
      have HR := Aside0.mk (Fl.R_below HR.out (below_drew (Below.refl _ _)))
      have HS := Aside0.mk (show wr.drew.heap[g]? = some (.cells k.cells 23 (0, 0)) ∧ wr.drew.cell? (ad.add (m * 4)) = some (.int .u16 x.f0) from And.intro HKB.out h0)
      clear HKB h0 h1 h2 h3
      generalize wr.drew = w4 at HB HC HR HS ⊢
      refine OrdE.takeK (i := 0) (oi := { dst := some 24, op := Go.Op.move (Go.Operand.tmp 5), type := 45, pos := "ambryref5.go:47", after := #[], guard := none }) (v := (.slice (some ad) n c)) rfl (by kernel_rfl) (by kernel_rfl) (by kernel_rfl) (by kernel_rfl) (fun _ _ _ h => h) (by rfl) ?_ (HS.out) ?_
      · intro w hS; obtain ⟨hx0, hx1⟩ := hS; go_simp
      try simp only [Act.put, List.setIfInBounds_toArray, List.set_cons_zero, List.set_cons_succ]
      refine OrdE.takeK (i := 1) (oi := { dst := some 25, op := Go.Op.move (Go.Operand.tmp 7), type := 3, pos := "ambryref5.go:47", after := #[], guard := none }) (v := (.int .i64 (m : Int))) rfl (by kernel_rfl) (by kernel_rfl) (by kernel_rfl) (by kernel_rfl) (fun _ _ _ h => h) (by rfl) ?_ (HS.out) ?_
      · intro w hS; obtain ⟨hx0, hx1⟩ := hS; go_simp
      try simp only [Act.put, List.setIfInBounds_toArray, List.set_cons_zero, List.set_cons_succ]
      refine OrdE.takeK (i := 2) (oi := { dst := some 26, op := Go.Op.indexAddr 45 (Go.Operand.tmp 24) (Go.Operand.tmp 25), type := 0, pos := "ambryref5.go:47", after := #[{ on := 0, ground := Go.Ground.data }, { on := 1, ground := Go.Ground.data }], guard := none }) (v := (.pointer (some (ad.add (m * 4))))) rfl (by kernel_rfl) (by kernel_rfl) (by kernel_rfl) (by kernel_rfl) (fun _ _ _ h => h) (by rfl) ?_ (HS.out) ?_
      · intro w hS; obtain ⟨hx0, hx1⟩ := hS; go_simp
      try simp only [Act.put, List.setIfInBounds_toArray, List.set_cons_zero, List.set_cons_succ]
      refine OrdE.takeK (i := 3) (oi := { dst := some 27, op := Go.Op.fieldAddr 55 (Go.Operand.tmp 26) 0, type := 0, pos := "ambryref5.go:47", after := #[{ on := 2, ground := Go.Ground.data }], guard := none }) (v := (.pointer (some (ad.add (m * 4))))) rfl (by kernel_rfl) (by kernel_rfl) (by kernel_rfl) (by kernel_rfl) (fun _ _ _ h => h) (by rfl) ?_ (HS.out) ?_
      · intro w hS; obtain ⟨hx0, hx1⟩ := hS; go_simp
      try simp only [Act.put, List.setIfInBounds_toArray, List.set_cons_zero, List.set_cons_succ]
      refine OrdE.takeK (i := 4) (oi := { dst := some 28, op := Go.Op.load 26 (Go.Operand.tmp 27), type := 26, pos := "ambryref5.go:47", after := #[{ on := 3, ground := Go.Ground.data }], guard := none }) (v := (.int .u16 x.f0)) rfl (by kernel_rfl) (by kernel_rfl) (by kernel_rfl) (by kernel_rfl) (fun _ _ _ h => h) (by rfl) ?_ (HS.out) ?_
      · intro w hS; obtain ⟨hx0, hx1⟩ := hS; go_simp
      try simp only [Act.put, List.setIfInBounds_toArray, List.set_cons_zero, List.set_cons_succ]
      refine OrdE.takeK (i := 5) (oi := { dst := some 29, op := Go.Op.load 23 (Go.Operand.tmp 3), type := 23, pos := "ambryref5.go:47", after := #[], guard := none }) (v := (.agg k.cells)) rfl (by kernel_rfl) (by kernel_rfl) (by kernel_rfl) (by kernel_rfl) (fun _ _ _ h => h) (by rfl) ?_ (HS.out) ?_
      · intro w hS; obtain ⟨hx0, hx1⟩ := hS; exact exec_load_key k g hx0 (.tmp 3) rfl rfl
      try simp only [Act.put, List.setIfInBounds_toArray, List.set_cons_zero, List.set_cons_succ]
      refine OrdE.oneE (i := 6) (o := { dst := some 30, op := Go.Op.call { callee := Go.Callee.value (Go.Operand.func 12), args := #[Go.Operand.tmp 29], argTypes := #[23] }, type := 26, pos := "ambryref5.go:47", after := #[{ on := 5, ground := Go.Ground.data }], guard := none }) (by kernel_rfl) rfl (fun K hK => ?_)
      go_simp
      refine (rTag_calls k _).mono ?_
      rintro e w5 ⟨rfl, hB⟩
      have HB5 := Aside0.mk (HB.out.trans (hB.mono HB.out.size))
      have HC5 := Aside0.mk (Fl.C_below HC.out hB)
      have HR5 := Aside0.mk (Fl.R_below HR.out hB)
      have HS5 := Aside0.mk (And.intro (blk_below HS.out.1 hB) (pw_cell_below hB HS.out.2))
      clear hB HB HC HR HS
      refine hK.out _ _ (fun _ => HS5.out) ?_
      clear hK K
      try simp only [Act.put, List.setIfInBounds_toArray, List.set_cons_zero, List.set_cons_succ]
      refine OrdE.takeK (i := 7) (oi := { dst := some 31, op := Go.Op.binOp Go.BinOp.eql 26 (Go.Operand.tmp 28) (Go.Operand.tmp 30) 26, type := 4, pos := "ambryref5.go:47", after := #[{ on := 4, ground := Go.Ground.data }, { on := 6, ground := Go.Ground.data }], guard := none }) (v := (.bool (x.f0 == k.tag))) rfl (by kernel_rfl) (by kernel_rfl) (by kernel_rfl) (by kernel_rfl) (fun _ _ _ h => h) (by rfl) ?_ (HS5.out) ?_
      · intro w hS; obtain ⟨hx0, hx1⟩ := hS; go_simp
      try simp only [Act.put, List.setIfInBounds_toArray, List.set_cons_zero, List.set_cons_succ]
      refine OrdE.doneE (by kernel_rfl) ?_ _
--END-B
      obtain ⟨ad', hA', k0, k1, k2, k3⟩ := C_four HC5.out (by rw [HN.out]; omega) m x HX.out
      obtain rfl : ad = ad' := by cases hA'; rfl
      clear hA'
      by_cases ht : (x.f0 == k.tag) = true
      · rw [ht] at HPS ⊢
        rw [if_pos rfl] at HPS
        have hB6 := below_alloc (Below.refl w5.heap.size w5) (.cells #[.int .u16 x.f0, .int .u32 x.f1, .int .u16 x.f2, .int .u64 x.f3] 55)
        have hXC : dE.C (w5.alloc (.cells #[.int .u16 x.f0, .int .u32 x.f1, .int .u16 x.f2, .int .u64 x.f3] 55)) (some ⟨w5.heap.size, 0, none⟩) [x] :=
          Fl.C_blk (d := dE) (M := [x]) (e := 55) (blk_new w5 (.cells #[.int .u16 x.f0, .int .u32 x.f1, .int .u16 x.f2, .int .u64 x.f3] 55)) 0 1 (Nat.le_refl _)
        obtain ⟨i0, hi0', hz, hsz, hby⟩ := szE
        obtain ⟨v', w6, hrun, hR6, hg6, hat6⟩ := Fl.run_append (P := Try.prog) (ty := 45) Try.underlying45 hi0' hz hsz hby rfl 1 (Fl.R_below HR5.out hB6) hXC (by simp; omega) (by simp; omega) (by rw [World.size_alloc]; have := blk_lt HS5.out.1; omega)
        have HB6 := Lib.hid ((HB5.out.trans (hB6.mono HB5.out.size)).grown hg6 (by rw [World.size_alloc]; have := HB5.out.size; omega) (fun j hj => by have := (Fl.R_lt HR5.out j hj).1; have := HG.out; omega))
        have HKB6 := Lib.hid ((hg6.block g (by rw [World.size_alloc]; have := blk_lt HS5.out.1; omega) (fun e => by have := (Fl.R_lt HR5.out g e.symm).1; omega)).trans (blk_below HS5.out.1 hB6))
        have HR6 := Lib.hid hR6
        have HRUN := Lib.hid hrun
        clear hrun hR6 hg6 hat6 hB6 hXC
        go_wp2_with (first
          | ((with_reducible refine gate_builtin (b := .append) (xs := #[.tmp 32, .tmp 37]) rfl ?_); at_builtin; refine Fl.wpList_append_run rfl (.tmp 32) (.tmp 37) 45 45 rfl _ _ _ rfl rfl HRUN.out ?_)
          | fail)
        go_roundw
        case rel => exact ⟨m, rfl, by omega, ⟨by rw [HPS.out]; exact HR6.out⟩, ⟨HKB6.out⟩, ⟨HB6.out⟩⟩
        case measure => simp [intOf]
      · rw [Bool.not_eq_true] at ht
        rw [ht] at HPS ⊢
        rw [if_neg (by decide), List.append_nil] at HPS
        go_wp2_with fail
        go_roundw
        case rel => exact ⟨m, rfl, by omega, ⟨by rw [HPS.out]; exact HR5.out⟩, ⟨HS5.out.1⟩, ⟨HB5.out⟩⟩
        case measure => simp [intOf]
    · obtain rfl : m1 = 0 := by omega
      go_wp2
      go_ret
      have hR9 := Fl.R_lower (base' := w.heap.size) HR.out (Nat.le_succ_of_le (Nat.le_of_eq HG.out))
      rw [List.drop_zero, ← HBQ.out] at hR9
      exact ⟨_, rfl, hR9, HB.out⟩
theorem rProbe_own {W : World} {R : HP} [Firm R] (h : Foot.Own W w (star (RefH p D) R)) : Calls Try.prog 25 #[.pointer (some ⟨p, 0, none⟩), .agg k.cells] w fun e w' => ∃ v, e = .returned v ∧ Foot.Own W w' (star (RowH v (probe k.tag (D.of k))) (star (RefH p D) R)) := by
  obtain ⟨q, vs, hd⟩ := h.look (X := ∃ q vs, RefW w p q vs D) fun F hF _ => by obtain ⟨q, vs, _, hd⟩ := hF; exact ⟨q, vs, hd⟩
  exact (rProbe_calls hd).mono fun e w' ⟨v, he, hR, hb⟩ => ⟨v, he, row_own h hR hb⟩
theorem rInsert_own {W : World} {R : HP} [Firm R] (h : Foot.Own W w (star (RefH p D) R)) (a f2 f3 : Int) (hok : OkE ⟨k.tag, a, f2, f3⟩) :
    Calls Try.prog 21 #[.pointer (some ⟨p, 0, none⟩), .agg k.cells, .int .u32 a, .int .u16 f2, .int .u64 f3] w fun e w' => e = .returned (.int .i64 (D.ins k ⟨k.tag, a, f2, f3⟩).1) ∧ Foot.Own W w' (star (RefH p (D.ins k ⟨k.tag, a, f2, f3⟩).2) R) := by
  refine h.frame fun F hF _ => ?_
  obtain ⟨q, vs, rfl, hd⟩ := hF
  unfold Di.ins
  by_cases hb : f2 = 0 ∨ 9223372036854775808 ≤ f3
  · rw [if_pos hb]
    exact (rInsert_bad hd hb).mono fun e w' hp => hp.frame
  · rw [if_neg hb]
    by_cases hf : (D.of k).length = D.s
    · rw [if_pos hf]
      exact (rInsert_full hd (fun e => hb (.inl e)) (fun e => hb (.inr e)) hf).mono fun e w' hp => hp.frame
    · rw [if_neg hf]
      exact (rInsert_ok hd (fun e => hb (.inl e)) (fun e => hb (.inr e)) hf hok).mono fun e w' hp => hp.frame
end
end Go.Proofs.Ytafpaomcmjccaaa.Dir

namespace Go.Proofs.Ytafpaomcmjccaaa.Dir
open Go.RowKit Go.Proofs.Ytafpaomcmjccaaa.G Go.Proofs.YtafpaomcmjccaaaW.PrintWords Go.Proofs.YtafpaomcmjccaaaW.PrintMore Go.Proofs.Ytafpaomcmjccaaa.Foot
theorem rd_at (xs : List S55) (j : Nat) (y : S55) (h : xs[j]? = some y) : rd_T55 xs (j : Int) = y := by
  unfold rd_T55
  rw [Int.toNat_natCast, List.getD_eq_getElem?_getD, h]
  rfl
theorem cut_hm (c m : Nat) (A : Option Addr) (n : Nat) (W : World) (h : m ≤ c) : (Instr.slice 45 (.slice A n c) none (some (.int .i64 (m : Int))) (some (.int .i64 (m : Int)))).run Try.prog W = .ok (.slice A m m) W := by
  obtain ⟨i0, hi0', hz, hsz, hby⟩ := szE
  rw [run_slice_hm W 45 A n c Try.underlying45 .i64 .i64 (m : Int) (m : Int) (by omega) (by omega) (by omega), show Try.prog.elem 45 = 55 from rfl]
  simp [sizeOf, typeInfo, hi0', sliced, Result.andThen]
  intro _
  cases A <;> simp [Addr.add]
theorem del_none (t a : Int) (xs : List S55) (h : ∀ j x, 0 ≤ j → xs[j]? = some x → hit t a x = false) : delIdx t a xs = none := by
  refine delIdx_none t a xs fun j hj => ?_
  unfold downs at hj
  obtain ⟨y, hy, rfl⟩ := List.mem_map.1 hj
  have hy' := List.mem_range.1 hy
  have hx : xs[xs.length - 1 - y]? = some (xs[xs.length - 1 - y]'(by omega)) := List.getElem?_eq_getElem _
  rw [rd_at xs _ _ hx]
  exact h _ _ (Nat.zero_le _) hx
theorem del_some (t a : Int) (xs : List S55) (m : Nat) (x : S55) (hm : xs[m]? = some x) (hx : hit t a x = true) (h : ∀ j y, m + 1 ≤ j → xs[j]? = some y → hit t a y = false) : delIdx t a xs = some m := by
  have hl := (List.getElem?_eq_some_iff.1 hm).1
  refine delIdx_some t a xs (downs xs.length (xs.length - 1 - m)) m (xs.length - 1 - m + 1) ?_ ?_ ?_ (by omega)
  · rw [downs_succ, show xs.length - 1 - (xs.length - 1 - m) = m by omega]
  · intro j hj
    unfold downs at hj
    obtain ⟨y, hy, rfl⟩ := List.mem_map.1 hj
    have hy' := List.mem_range.1 hy
    have hz : xs[xs.length - 1 - y]? = some (xs[xs.length - 1 - y]'(by omega)) := List.getElem?_eq_getElem _
    rw [rd_at xs _ _ hz]
    exact h _ _ (by omega) hz
  · rw [rd_at xs _ _ hm]
    exact hx
/-- The parts of a row that is cut. -/
theorem RowU.parts {w : World} {A : Option Addr} {n c m : Nat} {xs : List S55} (h : RowU w (.slice A n c) xs) (hm : m < xs.length) :
    ∃ g, A = some ⟨g, 0, none⟩ ∧ RowU w (.slice A m m) (xs.take m) ∧ dE.C w (if c = m + 1 then A else A.map (·.add ((m + 1) * 4))) (xs.drop (m + 1)) := by
  rcases h with ⟨_, rfl⟩ | ⟨g, cap, cur, he, h1, h2, h3, h4, h5⟩
  · simp at hm
  · cases he
    have hlt : (xs.take m).length = m := by rw [List.length_take]; omega
    refine ⟨g, rfl, .inr ⟨g, m, cur, by rw [hlt], by omega, by omega, h3, by omega, ?_⟩, ?_⟩
    · rw [hlt, ← show dE.sz = 4 from rfl, ← Fl.flat_take, ← h5, List.take_take, show dE.sz = 4 from rfl, Nat.min_eq_left (by omega)]
    · by_cases hc : c = m + 1
      · have : xs.drop (m + 1) = [] := List.drop_eq_nil_of_le (by omega)
        rw [this]
        exact Fl.C_nil
      · rw [if_neg hc]
        refine fun _ => ⟨_, rfl, fun j u hu => ?_⟩
        rw [← Fl.flat_drop, List.getElem?_drop, show dE.sz = 4 from rfl] at hu
        show w.cell? (((⟨g, 0, none⟩ : Addr).add ((m + 1) * 4)).add j) = some u
        rw [Addr.add_lit, Addr.add_lit, blk_cell h3, ← Array.getElem?_toList, Nat.zero_add]
        rw [← h5, List.getElem?_take] at hu
        split at hu
        · exact hu
        · cases hu
section
variable {w : World} {p q : Nat} {vs : List Value} {D : Di} {k : Key} {a : Int}
set_option maxHeartbeats 4000000 in
set_option maxRecDepth 100000 in
theorem rDelete_calls (h : RefW w p q vs D) (a : Int) :
    Calls Try.prog 22 #[.pointer (some ⟨p, 0, none⟩), .agg k.cells, .int .u32 a] w fun e w' => RefPost p q vs (D.del k a).2 (.bool (D.del k a).1) w e w' := by
  have HH := Aside0.mk h
  have hb := blk_new w (.cells k.cells 23)
  have HB := Aside0.mk (below_alloc (Below.refl w.heap.size w) (.cells k.cells 23))
  have hi := h.at_.ok.at_lt k
  have hie := h.at_.ok.at_eq k
  have hoe := h.at_.ok.of_eq k
  have hb1 := h.at_.ok.b1
  have hb2 := h.at_.ok.b2
  have hle := h.at_.ok.fit _ (List.mem_of_getElem? hoe)
  have hs2 := h.at_.ok.s2
  have c0 := h.c0
  have HER := Lib.hid (show ∀ m, m < (D.of k).length → (layD D (D.at_ k) ((D.of k).eraseIdx m)).Ok from fun m hm => h.at_.ok.lay _ (by rw [List.length_eraseIdx_of_lt hm]; omega) fun x hx => h.at_.ok.ok _ (List.mem_of_getElem? hoe) x (List.mem_of_mem_eraseIdx hx))
  obtain ⟨A, c, v, hv, rfl, hlc, hC, hU, c3⟩ := h.bucket k
  obtain ⟨i, hiq⟩ : ∃ i, D.at_ k = i := ⟨_, rfl⟩
  rw [hiq] at hi hie hv c3 HER
  obtain ⟨b, hbq⟩ : ∃ b, D.of k = b := ⟨_, rfl⟩
  rw [hbq] at hle hlc hv hC hU c3 HER
  obtain ⟨n, hn⟩ : ∃ n, b.length = n := ⟨_, rfl⟩
  rw [hn] at hle hlc hv hU c3 HER
  obtain ⟨B, hBL⟩ : ∃ B, D.L.length = B := ⟨_, rfl⟩
  rw [hBL] at hi hie hb1 hb2 c0
  have HIE := Lib.hid hie
  have HN := Lib.hid hn
  have HIQ := Lib.hid hiq
  have HBQ := Lib.hid hbq
  have HBL := Lib.hid hBL
  have HU := Lib.hid hU
  have HV := Lib.hid hv
  have HCC := Lib.hid hC
  have HP0 := Lib.hid (And.intro c0 c3)
  have hi0 : (0 : Int) ≤ (i : Int) := by omega
  have hi1 : (i : Int) < (B : Int) := by omega
  have hn16 : n ≤ 16 := by omega
  have HKB := Aside0.mk hb
  have hcs := k.size
  clear h hb hoe hiq hbq hBL hie hv hC hU c0 c3 hn
  go_enter Try.func22, Try.ntmps22
  go_upto_region 1 with (fail)
  generalize w.alloc (.cells k.cells 23) = w1 at HB HKB ⊢
  obtain ⟨g, hg⟩ : ∃ g, w.heap.size = g := ⟨_, rfl⟩
  rw [hg] at HKB ⊢
  have HG := Lib.hid hg
  clear hg hcs
  go_wp2_with (first | (refine wpList_load_key k _ HKB.out rfl (.tmp 4) rfl rfl ?_) | fail)
  with_reducible refine (rBucket_calls k _ p _ B B (pw_cell_below HB.out HP0.out.1) hb1 hb2).mono ?_
  rintro e w2 ⟨rfl, hB⟩
  rw [HIE.out]
  have HB2 := Aside0.mk (HB.out.trans (hB.mono HB.out.size))
  have HK2 := Aside0.mk (blk_below HKB.out hB)
  have c0 := pw_cell_below HB2.out HP0.out.1
  have c3 := pw_cell_below HB2.out HP0.out.2
  clear hB HB HKB
  have hwn : IntKind.i64.wrap ((n : Int) - 1) = (n : Int) - 1 := by rw [IntKind.wrap_i64]; omega
  go_wp2_with fail
  clear c0 c3
  go_loopw [9] (fun v9 wr => ∃ (m : Nat), v9 = .int .i64 ((m : Int) - 1) ∧ m ≤ n ∧ Aside0 (∀ j x, m ≤ j → b[j]? = some x → hit k.tag a x = false) ∧ Aside0 (wr.heap[g]? = some (.cells k.cells 23 (0, 0))) ∧ Aside0 (Below w.heap.size w wr)) (fun v9 _ => (intOf v9 + 1).toNat)
  case atStart => exact ⟨n, rfl, Nat.le_refl _, ⟨fun j x hj hx => by have := (List.getElem?_eq_some_iff.1 hx).1; have := HN.out; omega⟩, ⟨HK2.out⟩, ⟨HB2.out⟩⟩
  case round =>
    clear HB2 HK2 hwn
    obtain ⟨m1, rfl, hm, HNO, HKB, HB⟩ := hrel
    by_cases hlt : 0 < m1
    · obtain ⟨m, rfl⟩ : ∃ m, m1 = m + 1 := ⟨m1 - 1, by omega⟩
      rw [show ((m + 1 : Nat) : Int) - 1 = (m : Int) by omega]
      have hm0 : (0 : Int) ≤ (m : Int) := by omega
      have hm1 : (m : Int) < (n : Int) := by omega
      have hmn : m < n := by omega
      obtain ⟨x, hx⟩ : ∃ x, b[m]? = some x := ⟨_, List.getElem?_eq_getElem (by rw [HN.out]; omega)⟩
      obtain ⟨ad, hA, h0, h1, -, -⟩ := C_four (Fl.C_below HCC.out HB.out) (by rw [HN.out]; omega) m x hx
      have HAE := Lib.hid hA
      subst hA
      have HX := Lib.hid hx
      clear hx
      have hwm : IntKind.i64.wrap ((m : Int) - 1) = (m : Int) - 1 := by rw [IntKind.wrap_i64]; omega
      go_upto_region 6 with (fail)
      by_cases ht : (x.f0 == k.tag) = true
      · skip
        --REGION-A
        refine OrdE.beginS (fun w' => (w'.heap[g]? = some (.cells k.cells 23 (0, 0)) ∧ w'.cell? (ad.add (m * 4)) = some (.int .u16 x.f0)) ∧ w'.cell? ⟨(ad.add (m * 4)).block, (ad.add (m * 4)).off + 1, none⟩ = some (.int .u32 x.f1)) (fun _ => true) (by kernel_rfl) ?_
        have HB := Aside0.mk (below_drew HB.out)
        have HS := Aside0.mk (show (wr.drew.heap[g]? = some (.cells k.cells 23 (0, 0)) ∧ wr.drew.cell? (ad.add (m * 4)) = some (.int .u16 x.f0)) ∧ wr.drew.cell? ⟨(ad.add (m * 4)).block, (ad.add (m * 4)).off + 1, none⟩ = some (.int .u32 x.f1) from And.intro (And.intro HKB.out h0) h1)
        clear HKB h0 h1
        generalize wr.drew = w4 at HB HS ⊢
        refine OrdE.takeK (i := 0) (oi := { dst := some 27, op := Go.Op.move (Go.Operand.tmp 8), type := 45, pos := "ambryref5.go:58", after := #[], guard := none }) (v := (.slice (some ad) n c)) rfl (by kernel_rfl) (by kernel_rfl) (by kernel_rfl) (by kernel_rfl) (fun _ _ _ h => h) (by rfl) ?_ (HS.out) ?_
        · intro w hS; obtain ⟨⟨hx0, hx1⟩, hx2⟩ := hS; go_simp
        try simp only [Act.put, List.setIfInBounds_toArray, List.set_cons_zero, List.set_cons_succ]
        refine OrdE.takeK (i := 1) (oi := { dst := some 28, op := Go.Op.move (Go.Operand.tmp 9), type := 3, pos := "ambryref5.go:58", after := #[], guard := none }) (v := (.int .i64 (m : Int))) rfl (by kernel_rfl) (by kernel_rfl) (by kernel_rfl) (by kernel_rfl) (fun _ _ _ h => h) (by rfl) ?_ (HS.out) ?_
        · intro w hS; obtain ⟨⟨hx0, hx1⟩, hx2⟩ := hS; go_simp
        try simp only [Act.put, List.setIfInBounds_toArray, List.set_cons_zero, List.set_cons_succ]
        refine OrdE.takeK (i := 2) (oi := { dst := some 29, op := Go.Op.indexAddr 45 (Go.Operand.tmp 27) (Go.Operand.tmp 28), type := 0, pos := "ambryref5.go:58", after := #[{ on := 0, ground := Go.Ground.data }, { on := 1, ground := Go.Ground.data }], guard := none }) (v := (.pointer (some (ad.add (m * 4))))) rfl (by kernel_rfl) (by kernel_rfl) (by kernel_rfl) (by kernel_rfl) (fun _ _ _ h => h) (by rfl) ?_ (HS.out) ?_
        · intro w hS; obtain ⟨⟨hx0, hx1⟩, hx2⟩ := hS; go_simp
        try simp only [Act.put, List.setIfInBounds_toArray, List.set_cons_zero, List.set_cons_succ]
        refine OrdE.takeK (i := 3) (oi := { dst := some 30, op := Go.Op.fieldAddr 55 (Go.Operand.tmp 29) 0, type := 0, pos := "ambryref5.go:58", after := #[{ on := 2, ground := Go.Ground.data }], guard := none }) (v := (.pointer (some (ad.add (m * 4))))) rfl (by kernel_rfl) (by kernel_rfl) (by kernel_rfl) (by kernel_rfl) (fun _ _ _ h => h) (by rfl) ?_ (HS.out) ?_
        · intro w hS; obtain ⟨⟨hx0, hx1⟩, hx2⟩ := hS; go_simp
        try simp only [Act.put, List.setIfInBounds_toArray, List.set_cons_zero, List.set_cons_succ]
        refine OrdE.takeK (i := 4) (oi := { dst := some 31, op := Go.Op.load 26 (Go.Operand.tmp 30), type := 26, pos := "ambryref5.go:58", after := #[{ on := 3, ground := Go.Ground.data }], guard := none }) (v := (.int .u16 x.f0)) rfl (by kernel_rfl) (by kernel_rfl) (by kernel_rfl) (by kernel_rfl) (fun _ _ _ h => h) (by rfl) ?_ (HS.out) ?_
        · intro w hS; obtain ⟨⟨hx0, hx1⟩, hx2⟩ := hS; go_simp
        try simp only [Act.put, List.setIfInBounds_toArray, List.set_cons_zero, List.set_cons_succ]
        refine OrdE.takeK (i := 5) (oi := { dst := some 32, op := Go.Op.load 23 (Go.Operand.tmp 4), type := 23, pos := "ambryref5.go:58", after := #[], guard := none }) (v := (.agg k.cells)) rfl (by kernel_rfl) (by kernel_rfl) (by kernel_rfl) (by kernel_rfl) (fun _ _ _ h => h) (by rfl) ?_ (HS.out) ?_
        · intro w hS; obtain ⟨⟨hx0, hx1⟩, hx2⟩ := hS; exact exec_load_key k g hx0 (.tmp 4) rfl rfl
        try simp only [Act.put, List.setIfInBounds_toArray, List.set_cons_zero, List.set_cons_succ]
        refine OrdE.oneE (i := 6) (o := { dst := some 33, op := Go.Op.call { callee := Go.Callee.value (Go.Operand.func 12), args := #[Go.Operand.tmp 32], argTypes := #[23] }, type := 26, pos := "ambryref5.go:58", after := #[{ on := 5, ground := Go.Ground.data }], guard := none }) (by kernel_rfl) rfl (fun K hK => ?_)
        go_simp
        refine (rTag_calls k _).mono ?_
        rintro e w5 ⟨rfl, hB⟩
        have HB5 := Aside0.mk (HB.out.trans (hB.mono HB.out.size))
        have HS5 := Aside0.mk (And.intro (And.intro (blk_below HS.out.1.1 hB) (pw_cell_below hB HS.out.1.2)) (pw_cell_below hB HS.out.2))
        clear hB HB HS
        refine hK.out _ _ (fun _ => HS5.out) ?_
        clear hK K
        try simp only [Act.put, List.setIfInBounds_toArray, List.set_cons_zero, List.set_cons_succ]
        refine OrdE.takeK (i := 7) (oi := { dst := some 34, op := Go.Op.binOp Go.BinOp.eql 26 (Go.Operand.tmp 31) (Go.Operand.tmp 33) 26, type := 4, pos := "ambryref5.go:58", after := #[{ on := 4, ground := Go.Ground.data }, { on := 6, ground := Go.Ground.data }], guard := none }) (v := (.bool true)) rfl (by kernel_rfl) (by kernel_rfl) (by kernel_rfl) (by kernel_rfl) (fun _ _ _ h => h) (by rfl) ?_ (HS5.out) ?_
        · intro w hS; obtain ⟨⟨hx0, hx1⟩, hx2⟩ := hS; go_simp
        try simp only [Act.put, List.setIfInBounds_toArray, List.set_cons_zero, List.set_cons_succ]
        refine OrdE.takeK (i := 8) (oi := { dst := some 35, op := Go.Op.move (Go.Operand.tmp 34), type := 4, pos := "ambryref5.go:58", after := #[{ on := 7, ground := Go.Ground.data }, { on := 6, ground := Go.Ground.chain }], guard := none }) (v := (.bool true)) rfl (by kernel_rfl) (by kernel_rfl) (by kernel_rfl) (by kernel_rfl) (fun _ _ _ h => h) (by rfl) ?_ (HS5.out) ?_
        · intro w hS; obtain ⟨⟨hx0, hx1⟩, hx2⟩ := hS; go_simp
        try simp only [Act.put, List.setIfInBounds_toArray, List.set_cons_zero, List.set_cons_succ]
        refine OrdE.takeK (i := 9) (oi := { dst := some 36, op := Go.Op.move (Go.Operand.tmp 8), type := 45, pos := "ambryref5.go:58", after := #[{ on := 8, ground := Go.Ground.guard }], guard := some (8, true) }) (v := (.slice (some ad) n c)) rfl (by kernel_rfl) (by kernel_rfl) (by kernel_rfl) (by kernel_rfl) (fun _ _ _ h => h) (by rfl) ?_ (HS5.out) ?_
        · intro w hS; obtain ⟨⟨hx0, hx1⟩, hx2⟩ := hS; go_simp
        try simp only [Act.put, List.setIfInBounds_toArray, List.set_cons_zero, List.set_cons_succ]
        refine OrdE.takeK (i := 10) (oi := { dst := some 37, op := Go.Op.move (Go.Operand.tmp 9), type := 3, pos := "ambryref5.go:58", after := #[{ on := 8, ground := Go.Ground.guard }], guard := some (8, true) }) (v := (.int .i64 (m : Int))) rfl (by kernel_rfl) (by kernel_rfl) (by kernel_rfl) (by kernel_rfl) (fun _ _ _ h => h) (by rfl) ?_ (HS5.out) ?_
        · intro w hS; obtain ⟨⟨hx0, hx1⟩, hx2⟩ := hS; go_simp
        try simp only [Act.put, List.setIfInBounds_toArray, List.set_cons_zero, List.set_cons_succ]
        refine OrdE.takeK (i := 11) (oi := { dst := some 38, op := Go.Op.indexAddr 45 (Go.Operand.tmp 36) (Go.Operand.tmp 37), type := 0, pos := "ambryref5.go:58", after := #[{ on := 9, ground := Go.Ground.data }, { on := 10, ground := Go.Ground.data }, { on := 8, ground := Go.Ground.guard }], guard := some (8, true) }) (v := (.pointer (some (ad.add (m * 4))))) rfl (by kernel_rfl) (by kernel_rfl) (by kernel_rfl) (by kernel_rfl) (fun _ _ _ h => h) (by rfl) ?_ (HS5.out) ?_
        · intro w hS; obtain ⟨⟨hx0, hx1⟩, hx2⟩ := hS; go_simp
        try simp only [Act.put, List.setIfInBounds_toArray, List.set_cons_zero, List.set_cons_succ]
        refine OrdE.takeK (i := 12) (oi := { dst := some 39, op := Go.Op.fieldAddr 55 (Go.Operand.tmp 38) 1, type := 0, pos := "ambryref5.go:58", after := #[{ on := 11, ground := Go.Ground.data }, { on := 8, ground := Go.Ground.guard }], guard := some (8, true) }) (v := (.pointer (some ⟨(ad.add (m * 4)).block, (ad.add (m * 4)).off + 1, none⟩))) rfl (by kernel_rfl) (by kernel_rfl) (by kernel_rfl) (by kernel_rfl) (fun _ _ _ h => h) (by rfl) ?_ (HS5.out) ?_
        · intro w hS; obtain ⟨⟨hx0, hx1⟩, hx2⟩ := hS; go_simp
        try simp only [Act.put, List.setIfInBounds_toArray, List.set_cons_zero, List.set_cons_succ]
        refine OrdE.takeK (i := 13) (oi := { dst := some 40, op := Go.Op.load 37 (Go.Operand.tmp 39), type := 37, pos := "ambryref5.go:58", after := #[{ on := 12, ground := Go.Ground.data }, { on := 8, ground := Go.Ground.guard }], guard := some (8, true) }) (v := (.int .u32 x.f1)) rfl (by kernel_rfl) (by kernel_rfl) (by kernel_rfl) (by kernel_rfl) (fun _ _ _ h => h) (by rfl) ?_ (HS5.out) ?_
        · intro w hS; obtain ⟨⟨hx0, hx1⟩, hx2⟩ := hS; go_simp
        try simp only [Act.put, List.setIfInBounds_toArray, List.set_cons_zero, List.set_cons_succ]
        refine OrdE.takeK (i := 14) (oi := { dst := some 41, op := Go.Op.move (Go.Operand.tmp 2), type := 37, pos := "ambryref5.go:58", after := #[{ on := 8, ground := Go.Ground.guard }], guard := some (8, true) }) (v := (.int .u32 a)) rfl (by kernel_rfl) (by kernel_rfl) (by kernel_rfl) (by kernel_rfl) (fun _ _ _ h => h) (by rfl) ?_ (HS5.out) ?_
        · intro w hS; obtain ⟨⟨hx0, hx1⟩, hx2⟩ := hS; go_simp
        try simp only [Act.put, List.setIfInBounds_toArray, List.set_cons_zero, List.set_cons_succ]
        refine OrdE.takeK (i := 15) (oi := { dst := some 42, op := Go.Op.binOp Go.BinOp.eql 37 (Go.Operand.tmp 40) (Go.Operand.tmp 41) 37, type := 4, pos := "ambryref5.go:58", after := #[{ on := 13, ground := Go.Ground.data }, { on := 14, ground := Go.Ground.data }, { on := 8, ground := Go.Ground.guard }], guard := some (8, true) }) (v := (.bool (x.f1 == a))) rfl (by kernel_rfl) (by kernel_rfl) (by kernel_rfl) (by kernel_rfl) (fun _ _ _ h => h) (by rfl) ?_ (HS5.out) ?_
        · intro w hS; obtain ⟨⟨hx0, hx1⟩, hx2⟩ := hS; go_simp
        try simp only [Act.put, List.setIfInBounds_toArray, List.set_cons_zero, List.set_cons_succ]
        refine OrdE.takeK (i := 16) (oi := { dst := some 43, op := Go.Op.pick (Go.Operand.tmp 35) (Go.Operand.tmp 42) (Go.Operand.const (Go.Value.bool false)), type := 4, pos := "ambryref5.go:58", after := #[{ on := 8, ground := Go.Ground.data }, { on := 15, ground := Go.Ground.data }], guard := none }) (v := (.bool (x.f1 == a))) rfl (by kernel_rfl) (by kernel_rfl) (by kernel_rfl) (by kernel_rfl) (fun _ _ _ h => h) (by rfl) ?_ (HS5.out) ?_
        · intro w hS; obtain ⟨⟨hx0, hx1⟩, hx2⟩ := hS; go_simp
        try simp only [Act.put, List.setIfInBounds_toArray, List.set_cons_zero, List.set_cons_succ]
        refine OrdE.doneE (by kernel_rfl) ?_ _
--END-A
        by_cases ha : (x.f1 == a) = true
        · rw [ha]
          have HDE := Lib.hid (show D.del k a = (true, layD D i (b.eraseIdx m)) from by
            unfold Di.del
            rw [HBQ.out, HIQ.out, del_some k.tag a b m x HX.out (by unfold hit; rw [ht, ha]; rfl) HNO.out])
          go_upto_region 7 with (fail)
          --REGION-C
          refine OrdE.beginS (fun w' => w'.cell? ⟨p, 0, none⟩ = some (.slice (some ⟨q, 0, none⟩) B B) ∧ w'.cell? ⟨q, i, none⟩ = some (.slice (some ad) n c)) (fun i => i != 15) (by kernel_rfl) ?_
          have HB6 := Aside0.mk (below_drew HB5.out)
          clear HB5 HS5 HNO
          generalize w5.drew = w6 at HB6 ⊢
          have HD6 := Lib.hid (HH.out.below HB6.out)
          have HU6 := Lib.hid (HU.out.move (w' := w6) (fun j hj => HB6.out.block j (HU.out.lt j hj)))
          have HS6 := Lib.hid (And.intro (pw_cell_below HB6.out HP0.out.1) (pw_cell_below HB6.out HP0.out.2))
          obtain ⟨g2, hg2, hUm, hCm⟩ := HU6.out.parts (m := m) (by rw [HN.out]; exact hmn)
          obtain ⟨A2, hA2⟩ : ∃ A2, (if c = m + 1 then (some ad : Option Addr) else (some ad : Option Addr).map (·.add ((m + 1) * 4))) = A2 := ⟨_, rfl⟩
          rw [hA2] at hCm
          obtain ⟨i0, hi0', hz, hsz, hby⟩ := szE
          have hcut1 : ∀ W : World, (Instr.slice 45 (.slice (some ad) n c) none (some (.int .i64 (m : Int))) (some (.int .i64 (m : Int)))).run Try.prog W = .ok (.slice (some ad) m m) W := fun W => cut_hm c m (some ad) n W (by omega)
          have hcut2 : ∀ W : World, (Instr.slice 45 (.slice (some ad) n c) (some (.int .i64 ((m : Int) + 1))) none none).run Try.prog W = .ok (.slice A2 (n - (m + 1)) (c - (m + 1))) W := fun W => by rw [← hA2]; exact Fl.cut_from (P := Try.prog) rfl Try.underlying45 hi0' hsz (some ad) n c (m + 1) (by omega) _ (by omega)
          have hwm2 : IntKind.i64.wrap ((m : Int) + 1) = (m : Int) + 1 := by rw [IntKind.wrap_i64]; omega
          have HUM := Lib.hid hUm
          have HCM := Lib.hid hCm
          clear hUm hCm hA2 hz hsz hby hi0' hg2
          refine OrdE.takeK (i := 0) (oi := { dst := some 44, op := Go.Op.move (Go.Operand.tmp 0), type := 31, pos := "ambryref5.go:59", after := #[], guard := none }) (v := (.pointer (some ⟨p, 0, none⟩))) rfl (by kernel_rfl) (by kernel_rfl) (by kernel_rfl) (by kernel_rfl) (fun _ _ _ h => h) (by rfl) ?_ (HS6.out) ?_
          · intro w hS; obtain ⟨hx0, hx1⟩ := hS; go_simp
          try simp only [Act.put, List.setIfInBounds_toArray, List.set_cons_zero, List.set_cons_succ]
          refine OrdE.takeK (i := 1) (oi := { dst := some 45, op := Go.Op.nilCheck (Go.Operand.tmp 44), type := 0, pos := "ambryref5.go:59", after := #[{ on := 0, ground := Go.Ground.data }], guard := none }) (v := (.pointer (some ⟨p, 0, none⟩))) rfl (by kernel_rfl) (by kernel_rfl) (by kernel_rfl) (by kernel_rfl) (fun _ _ _ h => h) (by rfl) ?_ (HS6.out) ?_
          · intro w hS; obtain ⟨hx0, hx1⟩ := hS; go_simp
          try simp only [Act.put, List.setIfInBounds_toArray, List.set_cons_zero, List.set_cons_succ]
          refine OrdE.takeK (i := 2) (oi := { dst := some 46, op := Go.Op.fieldAddr 72 (Go.Operand.tmp 45) 0, type := 0, pos := "ambryref5.go:59", after := #[{ on := 1, ground := Go.Ground.data }], guard := none }) (v := (.pointer (some ⟨p, 0, none⟩))) rfl (by kernel_rfl) (by kernel_rfl) (by kernel_rfl) (by kernel_rfl) (fun _ _ _ h => h) (by rfl) ?_ (HS6.out) ?_
          · intro w hS; obtain ⟨hx0, hx1⟩ := hS; go_simp
          try simp only [Act.put, List.setIfInBounds_toArray, List.set_cons_zero, List.set_cons_succ]
          refine OrdE.takeK (i := 3) (oi := { dst := some 47, op := Go.Op.load 70 (Go.Operand.tmp 46), type := 70, pos := "ambryref5.go:59", after := #[{ on := 2, ground := Go.Ground.data }], guard := none }) (v := (.slice (some ⟨q, 0, none⟩) B B)) rfl (by kernel_rfl) (by kernel_rfl) (by kernel_rfl) (by kernel_rfl) (fun _ _ _ h => h) (by rfl) ?_ (HS6.out) ?_
          · intro w hS; obtain ⟨hx0, hx1⟩ := hS; go_simp
          try simp only [Act.put, List.setIfInBounds_toArray, List.set_cons_zero, List.set_cons_succ]
          refine OrdE.takeK (i := 4) (oi := { dst := some 48, op := Go.Op.move (Go.Operand.tmp 7), type := 3, pos := "ambryref5.go:59", after := #[], guard := none }) (v := (.int .i64 (i : Int))) rfl (by kernel_rfl) (by kernel_rfl) (by kernel_rfl) (by kernel_rfl) (fun _ _ _ h => h) (by rfl) ?_ (HS6.out) ?_
          · intro w hS; obtain ⟨hx0, hx1⟩ := hS; go_simp
          try simp only [Act.put, List.setIfInBounds_toArray, List.set_cons_zero, List.set_cons_succ]
          refine OrdE.takeK (i := 5) (oi := { dst := some 49, op := Go.Op.move (Go.Operand.tmp 8), type := 45, pos := "ambryref5.go:59", after := #[], guard := none }) (v := (.slice (some ad) n c)) rfl (by kernel_rfl) (by kernel_rfl) (by kernel_rfl) (by kernel_rfl) (fun _ _ _ h => h) (by rfl) ?_ (HS6.out) ?_
          · intro w hS; obtain ⟨hx0, hx1⟩ := hS; go_simp
          try simp only [Act.put, List.setIfInBounds_toArray, List.set_cons_zero, List.set_cons_succ]
          refine OrdE.takeK (i := 6) (oi := { dst := some 50, op := Go.Op.move (Go.Operand.tmp 9), type := 3, pos := "ambryref5.go:59", after := #[], guard := none }) (v := (.int .i64 (m : Int))) rfl (by kernel_rfl) (by kernel_rfl) (by kernel_rfl) (by kernel_rfl) (fun _ _ _ h => h) (by rfl) ?_ (HS6.out) ?_
          · intro w hS; obtain ⟨hx0, hx1⟩ := hS; go_simp
          try simp only [Act.put, List.setIfInBounds_toArray, List.set_cons_zero, List.set_cons_succ]
          refine OrdE.takeK (i := 7) (oi := { dst := some 51, op := Go.Op.move (Go.Operand.tmp 9), type := 3, pos := "ambryref5.go:59", after := #[], guard := none }) (v := (.int .i64 (m : Int))) rfl (by kernel_rfl) (by kernel_rfl) (by kernel_rfl) (by kernel_rfl) (fun _ _ _ h => h) (by rfl) ?_ (HS6.out) ?_
          · intro w hS; obtain ⟨hx0, hx1⟩ := hS; go_simp
          try simp only [Act.put, List.setIfInBounds_toArray, List.set_cons_zero, List.set_cons_succ]
          refine OrdE.takeK (i := 8) (oi := { dst := some 52, op := Go.Op.slice 45 (Go.Operand.tmp 49) none (some (Go.Operand.tmp 50)) (some (Go.Operand.tmp 51)), type := 45, pos := "ambryref5.go:59", after := #[{ on := 5, ground := Go.Ground.data }, { on := 6, ground := Go.Ground.data }, { on := 7, ground := Go.Ground.data }], guard := none }) (v := (.slice (some ad) m m)) rfl (by kernel_rfl) (by kernel_rfl) (by kernel_rfl) (by kernel_rfl) (fun _ _ _ h => h) (by rfl) ?_ (HS6.out) ?_
          · intro w hS; obtain ⟨hx0, hx1⟩ := hS; go_simp
          try simp only [Act.put, List.setIfInBounds_toArray, List.set_cons_zero, List.set_cons_succ]
          refine OrdE.takeK (i := 9) (oi := { dst := some 53, op := Go.Op.move (Go.Operand.tmp 8), type := 45, pos := "ambryref5.go:59", after := #[], guard := none }) (v := (.slice (some ad) n c)) rfl (by kernel_rfl) (by kernel_rfl) (by kernel_rfl) (by kernel_rfl) (fun _ _ _ h => h) (by rfl) ?_ (HS6.out) ?_
          · intro w hS; obtain ⟨hx0, hx1⟩ := hS; go_simp
          try simp only [Act.put, List.setIfInBounds_toArray, List.set_cons_zero, List.set_cons_succ]
          refine OrdE.takeK (i := 10) (oi := { dst := some 54, op := Go.Op.move (Go.Operand.tmp 9), type := 3, pos := "ambryref5.go:59", after := #[], guard := none }) (v := (.int .i64 (m : Int))) rfl (by kernel_rfl) (by kernel_rfl) (by kernel_rfl) (by kernel_rfl) (fun _ _ _ h => h) (by rfl) ?_ (HS6.out) ?_
          · intro w hS; obtain ⟨hx0, hx1⟩ := hS; go_simp
          try simp only [Act.put, List.setIfInBounds_toArray, List.set_cons_zero, List.set_cons_succ]
          refine OrdE.takeK (i := 11) (oi := { dst := some 55, op := Go.Op.binOp Go.BinOp.add 3 (Go.Operand.tmp 54) (Go.Operand.const (Go.Value.int Go.IntKind.i64 1)) 3, type := 3, pos := "ambryref5.go:59", after := #[{ on := 10, ground := Go.Ground.data }], guard := none }) (v := (.int .i64 ((m : Int) + 1))) rfl (by kernel_rfl) (by kernel_rfl) (by kernel_rfl) (by kernel_rfl) (fun _ _ _ h => h) (by rfl) ?_ (HS6.out) ?_
          · intro w hS; obtain ⟨hx0, hx1⟩ := hS; go_simp
          try simp only [Act.put, List.setIfInBounds_toArray, List.set_cons_zero, List.set_cons_succ]
          refine OrdE.takeK (i := 12) (oi := { dst := some 56, op := Go.Op.slice 45 (Go.Operand.tmp 53) (some (Go.Operand.tmp 55)) none none, type := 45, pos := "ambryref5.go:59", after := #[{ on := 9, ground := Go.Ground.data }, { on := 11, ground := Go.Ground.data }], guard := none }) (v := (.slice A2 (n - (m + 1)) (c - (m + 1)))) rfl (by kernel_rfl) (by kernel_rfl) (by kernel_rfl) (by kernel_rfl) (fun _ _ _ h => h) (by rfl) ?_ (HS6.out) ?_
          · intro w hS; obtain ⟨hx0, hx1⟩ := hS; go_simp
          try simp only [Act.put, List.setIfInBounds_toArray, List.set_cons_zero, List.set_cons_succ]
          obtain ⟨v7, w7, hrun, hU7, hg7, ho7⟩ := rowU_append (ty := 45) HUM.out (c - (m + 1)) HCM.out (by rw [List.length_take, List.length_drop, HN.out]; omega)
          rw [List.length_drop, HN.out] at hrun
          rw [← List.eraseIdx_eq_take_drop_succ] at hU7
          obtain ⟨A7, m7, c7, rfl⟩ : ∃ A m c, v7 = .slice A m c := by obtain ⟨A, c, h, _⟩ := hU7.reads; exact ⟨_, _, _, h⟩
          have hk7 : Keeps (fun j => (Value.slice (some ad) n c).ownBlock = some j) w6 w7 := ⟨hg7.os, hg7.tape, hg7.output, hg7.size, fun j hj hn => hg7.block j hj (fun e => hn e.symm)⟩
          have hfar := HD6.out.far _ (List.mem_of_getElem? HV.out)
          have hq7 := hk7.blk HD6.out.at_.row hfar.2
          have HS7 := Aside0.mk (And.intro (show w7.cell? ⟨p, 0, none⟩ = some (.slice (some ⟨q, 0, none⟩) B B) from by rw [blk_cell (hk7.blk HD6.out.at_.box hfar.1) 0]; rw [← blk_cell HD6.out.at_.box 0]; exact HS6.out.1) (show w7.cell? ⟨q, i, none⟩ = some (.slice (some ad) n c) from by rw [blk_cell hq7 i]; rw [← blk_cell HD6.out.at_.row i]; exact HS6.out.2))
          have HQ7 := Aside0.mk hq7
          have HK7 := Aside0.mk hk7
          have HU7 := Lib.hid hU7
          have HO7 := Lib.hid (show (Value.slice A7 m7 c7).ownBlock = (Value.slice (some ad) n c).ownBlock ∨ ∀ k, (Value.slice A7 m7 c7).ownBlock = some k → w6.heap.size ≤ k from ho7)
          have HRUN := Lib.hid hrun
          clear hrun hU7 hg7 ho7 hk7 hfar hq7 HUM HCM HU6
          refine OrdE.oneE (i := 13) (o := { dst := some 57, op := Go.Op.call { callee := Go.Callee.builtin Go.Builtin.append, args := #[Go.Operand.tmp 52, Go.Operand.tmp 56], argTypes := #[45, 45] }, type := 45, pos := "ambryref5.go:59", after := #[{ on := 8, ground := Go.Ground.data }, { on := 12, ground := Go.Ground.data }], guard := none }) (by kernel_rfl) rfl (fun K hK => ?_)
          refine Fl.step_append_run rfl (.tmp 52) (.tmp 56) 45 45 rfl _ _ _ rfl rfl HRUN.out ?_
          refine hK.out _ _ (fun _ => HS7.out) ?_
          clear hK K
          try simp only [Act.put, List.setIfInBounds_toArray, List.set_cons_zero, List.set_cons_succ]
          refine OrdE.takeK (i := 14) (oi := { dst := some 58, op := Go.Op.indexAddr 70 (Go.Operand.tmp 47) (Go.Operand.tmp 48), type := 0, pos := "ambryref5.go:59", after := #[{ on := 3, ground := Go.Ground.data }, { on := 4, ground := Go.Ground.data }, { on := 0, ground := Go.Ground.phase }, { on := 1, ground := Go.Ground.phase }, { on := 2, ground := Go.Ground.phase }, { on := 3, ground := Go.Ground.phase }, { on := 4, ground := Go.Ground.phase }, { on := 5, ground := Go.Ground.phase }, { on := 6, ground := Go.Ground.phase }, { on := 7, ground := Go.Ground.phase }, { on := 8, ground := Go.Ground.phase }, { on := 9, ground := Go.Ground.phase }, { on := 10, ground := Go.Ground.phase }, { on := 11, ground := Go.Ground.phase }, { on := 12, ground := Go.Ground.phase }, { on := 13, ground := Go.Ground.phase }], guard := none }) (v := (.pointer (some ⟨q, i, none⟩))) rfl (by kernel_rfl) (by kernel_rfl) (by kernel_rfl) (by kernel_rfl) (fun _ _ _ h => h) (by rfl) ?_ (HS7.out) ?_
          · intro w hS; obtain ⟨hx0, hx1⟩ := hS; go_simp
          try simp only [Act.put, List.setIfInBounds_toArray, List.set_cons_zero, List.set_cons_succ]
          have hcq := HS7.out.2
          have hfq : w7.frozen? ⟨q, i, none⟩ = false := blk_frozen HQ7.out i
          refine OrdE.oneE (i := 15) (o := { dst := none, op := Go.Op.store 45 (Go.Operand.tmp 58) (Go.Operand.tmp 57), type := 0, pos := "ambryref5.go:59", after := #[{ on := 14, ground := Go.Ground.data }, { on := 13, ground := Go.Ground.data }, { on := 13, ground := Go.Ground.chain }, { on := 0, ground := Go.Ground.phase }, { on := 1, ground := Go.Ground.phase }, { on := 2, ground := Go.Ground.phase }, { on := 3, ground := Go.Ground.phase }, { on := 4, ground := Go.Ground.phase }, { on := 5, ground := Go.Ground.phase }, { on := 6, ground := Go.Ground.phase }, { on := 7, ground := Go.Ground.phase }, { on := 8, ground := Go.Ground.phase }, { on := 9, ground := Go.Ground.phase }, { on := 10, ground := Go.Ground.phase }, { on := 11, ground := Go.Ground.phase }, { on := 12, ground := Go.Ground.phase }, { on := 13, ground := Go.Ground.phase }], guard := none }) (by kernel_rfl) rfl (fun K hK => ?_)
          go_simp
          have hW : RefW (w7.setCell ⟨q, i, none⟩ (Value.slice A7 m7 c7)) p q (vs.set i (Value.slice A7 m7 c7)) (layD D i (b.eraseIdx m)) := by
            refine HD6.out.put i (by rw [HD6.out.at_.len, HBL.out]; exact hi) _ (Value.slice A7 m7 c7) HV.out _ (HER.out m hmn) ?_ (blk_vals HQ7.out i (Value.slice A7 m7 c7)) ?_ ?_
            · exact ((HK7.out.mono (G := fun j => j = q ∨ (Value.slice (some ad) n c).ownBlock = some j) (fun j hj => .inl (.inr hj))).setCell (p := ⟨q, i, none⟩) (.inl (.inl rfl)) (Value.slice A7 m7 c7))
            · refine HU7.out.move fun j hj => Below.heap_setCell _ _ _ _ ?_
              intro e
              have e2 : j = q := e
              rw [e2] at hj
              rcases HO7.out with h | h
              · rw [h] at hj; exact (HD6.out.far _ (List.mem_of_getElem? HV.out)).2 hj
              · have h3 : w6.heap.size ≤ q := h _ hj; have h4 := blk_lt HD6.out.at_.row; omega
            · exact HO7.out
          have HW := Lib.hid hW
          have hK9 : Keeps (blks p q vs) w (w7.setCell ⟨q, i, none⟩ (Value.slice A7 m7 c7)) := ((Keeps.of_below HB6.out).trans (HK7.out) (fun j hj => .inl (.inr (.inr ⟨_, List.mem_of_getElem? HV.out, hj⟩)))).setCell (p := ⟨q, i, none⟩) (.inl (.inr (.inl rfl))) (Value.slice A7 m7 c7)
          have HK9 := Lib.hid hK9
          clear hW hK9
          generalize w7.setCell ⟨q, i, none⟩ (Value.slice A7 m7 c7) = w9 at HW HK9 ⊢
          refine hK.out _ _ (fun h => by cases h) ?_
          clear hK K
          refine OrdE.doneE (by kernel_rfl) ?_ _
          go_wp2_with fail
          go_ret
          rw [HDE.out]
          refine ⟨rfl, ⟨_, HW.out, fun u hu j hj => ?_⟩, HK9.out⟩
          rcases List.mem_or_eq_of_mem_set hu with hu | rfl
          · exact .inl (.inr (.inr ⟨u, hu, hj⟩))
          · rcases HO7.out with h | h
            · exact .inl (.inr (.inr ⟨_, List.mem_of_getElem? HV.out, by rw [← h]; exact hj⟩))
            · exact .inr (Nat.le_trans HB6.out.size (h j hj))
--END-C
        · rw [Bool.not_eq_true] at ha
          rw [ha]
          go_wp2_with fail
          go_roundw
          case rel => exact ⟨m, rfl, by omega, ⟨fun j y hj hy => by
            rcases Nat.lt_or_ge m j with h | h
            · exact HNO.out j y h hy
            · obtain rfl : j = m := by omega
              rw [HX.out] at hy
              cases hy
              unfold hit
              rw [ha, Bool.and_false]⟩, ⟨HS5.out.1.1⟩, ⟨HB5.out⟩⟩
          case measure => simp [intOf]
      · rw [Bool.not_eq_true] at ht
        --REGION-B
        refine OrdE.beginS (fun w' => (w'.heap[g]? = some (.cells k.cells 23 (0, 0)) ∧ w'.cell? (ad.add (m * 4)) = some (.int .u16 x.f0)) ∧ w'.cell? ⟨(ad.add (m * 4)).block, (ad.add (m * 4)).off + 1, none⟩ = some (.int .u32 x.f1)) (fun _ => true) (by kernel_rfl) ?_
        have HB := Aside0.mk (below_drew HB.out)
        have HS := Aside0.mk (show (wr.drew.heap[g]? = some (.cells k.cells 23 (0, 0)) ∧ wr.drew.cell? (ad.add (m * 4)) = some (.int .u16 x.f0)) ∧ wr.drew.cell? ⟨(ad.add (m * 4)).block, (ad.add (m * 4)).off + 1, none⟩ = some (.int .u32 x.f1) from And.intro (And.intro HKB.out h0) h1)
        clear HKB h0 h1
        generalize wr.drew = w4 at HB HS ⊢
        refine OrdE.takeK (i := 0) (oi := { dst := some 27, op := Go.Op.move (Go.Operand.tmp 8), type := 45, pos := "ambryref5.go:58", after := #[], guard := none }) (v := (.slice (some ad) n c)) rfl (by kernel_rfl) (by kernel_rfl) (by kernel_rfl) (by kernel_rfl) (fun _ _ _ h => h) (by rfl) ?_ (HS.out) ?_
        · intro w hS; obtain ⟨⟨hx0, hx1⟩, hx2⟩ := hS; go_simp
        try simp only [Act.put, List.setIfInBounds_toArray, List.set_cons_zero, List.set_cons_succ]
        refine OrdE.takeK (i := 1) (oi := { dst := some 28, op := Go.Op.move (Go.Operand.tmp 9), type := 3, pos := "ambryref5.go:58", after := #[], guard := none }) (v := (.int .i64 (m : Int))) rfl (by kernel_rfl) (by kernel_rfl) (by kernel_rfl) (by kernel_rfl) (fun _ _ _ h => h) (by rfl) ?_ (HS.out) ?_
        · intro w hS; obtain ⟨⟨hx0, hx1⟩, hx2⟩ := hS; go_simp
        try simp only [Act.put, List.setIfInBounds_toArray, List.set_cons_zero, List.set_cons_succ]
        refine OrdE.takeK (i := 2) (oi := { dst := some 29, op := Go.Op.indexAddr 45 (Go.Operand.tmp 27) (Go.Operand.tmp 28), type := 0, pos := "ambryref5.go:58", after := #[{ on := 0, ground := Go.Ground.data }, { on := 1, ground := Go.Ground.data }], guard := none }) (v := (.pointer (some (ad.add (m * 4))))) rfl (by kernel_rfl) (by kernel_rfl) (by kernel_rfl) (by kernel_rfl) (fun _ _ _ h => h) (by rfl) ?_ (HS.out) ?_
        · intro w hS; obtain ⟨⟨hx0, hx1⟩, hx2⟩ := hS; go_simp
        try simp only [Act.put, List.setIfInBounds_toArray, List.set_cons_zero, List.set_cons_succ]
        refine OrdE.takeK (i := 3) (oi := { dst := some 30, op := Go.Op.fieldAddr 55 (Go.Operand.tmp 29) 0, type := 0, pos := "ambryref5.go:58", after := #[{ on := 2, ground := Go.Ground.data }], guard := none }) (v := (.pointer (some (ad.add (m * 4))))) rfl (by kernel_rfl) (by kernel_rfl) (by kernel_rfl) (by kernel_rfl) (fun _ _ _ h => h) (by rfl) ?_ (HS.out) ?_
        · intro w hS; obtain ⟨⟨hx0, hx1⟩, hx2⟩ := hS; go_simp
        try simp only [Act.put, List.setIfInBounds_toArray, List.set_cons_zero, List.set_cons_succ]
        refine OrdE.takeK (i := 4) (oi := { dst := some 31, op := Go.Op.load 26 (Go.Operand.tmp 30), type := 26, pos := "ambryref5.go:58", after := #[{ on := 3, ground := Go.Ground.data }], guard := none }) (v := (.int .u16 x.f0)) rfl (by kernel_rfl) (by kernel_rfl) (by kernel_rfl) (by kernel_rfl) (fun _ _ _ h => h) (by rfl) ?_ (HS.out) ?_
        · intro w hS; obtain ⟨⟨hx0, hx1⟩, hx2⟩ := hS; go_simp
        try simp only [Act.put, List.setIfInBounds_toArray, List.set_cons_zero, List.set_cons_succ]
        refine OrdE.takeK (i := 5) (oi := { dst := some 32, op := Go.Op.load 23 (Go.Operand.tmp 4), type := 23, pos := "ambryref5.go:58", after := #[], guard := none }) (v := (.agg k.cells)) rfl (by kernel_rfl) (by kernel_rfl) (by kernel_rfl) (by kernel_rfl) (fun _ _ _ h => h) (by rfl) ?_ (HS.out) ?_
        · intro w hS; obtain ⟨⟨hx0, hx1⟩, hx2⟩ := hS; exact exec_load_key k g hx0 (.tmp 4) rfl rfl
        try simp only [Act.put, List.setIfInBounds_toArray, List.set_cons_zero, List.set_cons_succ]
        refine OrdE.oneE (i := 6) (o := { dst := some 33, op := Go.Op.call { callee := Go.Callee.value (Go.Operand.func 12), args := #[Go.Operand.tmp 32], argTypes := #[23] }, type := 26, pos := "ambryref5.go:58", after := #[{ on := 5, ground := Go.Ground.data }], guard := none }) (by kernel_rfl) rfl (fun K hK => ?_)
        go_simp
        refine (rTag_calls k _).mono ?_
        rintro e w5 ⟨rfl, hB⟩
        have HB5 := Aside0.mk (HB.out.trans (hB.mono HB.out.size))
        have HS5 := Aside0.mk (And.intro (And.intro (blk_below HS.out.1.1 hB) (pw_cell_below hB HS.out.1.2)) (pw_cell_below hB HS.out.2))
        clear hB HB HS
        refine hK.out _ _ (fun _ => HS5.out) ?_
        clear hK K
        try simp only [Act.put, List.setIfInBounds_toArray, List.set_cons_zero, List.set_cons_succ]
        refine OrdE.takeK (i := 7) (oi := { dst := some 34, op := Go.Op.binOp Go.BinOp.eql 26 (Go.Operand.tmp 31) (Go.Operand.tmp 33) 26, type := 4, pos := "ambryref5.go:58", after := #[{ on := 4, ground := Go.Ground.data }, { on := 6, ground := Go.Ground.data }], guard := none }) (v := (.bool false)) rfl (by kernel_rfl) (by kernel_rfl) (by kernel_rfl) (by kernel_rfl) (fun _ _ _ h => h) (by rfl) ?_ (HS5.out) ?_
        · intro w hS; obtain ⟨⟨hx0, hx1⟩, hx2⟩ := hS; go_simp
        try simp only [Act.put, List.setIfInBounds_toArray, List.set_cons_zero, List.set_cons_succ]
        refine OrdE.takeK (i := 8) (oi := { dst := some 35, op := Go.Op.move (Go.Operand.tmp 34), type := 4, pos := "ambryref5.go:58", after := #[{ on := 7, ground := Go.Ground.data }, { on := 6, ground := Go.Ground.chain }], guard := none }) (v := (.bool false)) rfl (by kernel_rfl) (by kernel_rfl) (by kernel_rfl) (by kernel_rfl) (fun _ _ _ h => h) (by rfl) ?_ (HS5.out) ?_
        · intro w hS; obtain ⟨⟨hx0, hx1⟩, hx2⟩ := hS; go_simp
        try simp only [Act.put, List.setIfInBounds_toArray, List.set_cons_zero, List.set_cons_succ]
        refine OrdE.takeU (i := 9) (oi := { dst := some 36, op := Go.Op.move (Go.Operand.tmp 8), type := 45, pos := "ambryref5.go:58", after := #[{ on := 8, ground := Go.Ground.guard }], guard := some (8, true) }) rfl (by kernel_rfl) (by kernel_rfl) (by kernel_rfl) (by kernel_rfl) (fun _ _ _ h => h) (by rfl) (HS5.out) ?_
        try simp only [Act.put, List.setIfInBounds_toArray, List.set_cons_zero, List.set_cons_succ]
        refine OrdE.takeU (i := 10) (oi := { dst := some 37, op := Go.Op.move (Go.Operand.tmp 9), type := 3, pos := "ambryref5.go:58", after := #[{ on := 8, ground := Go.Ground.guard }], guard := some (8, true) }) rfl (by kernel_rfl) (by kernel_rfl) (by kernel_rfl) (by kernel_rfl) (fun _ _ _ h => h) (by rfl) (HS5.out) ?_
        try simp only [Act.put, List.setIfInBounds_toArray, List.set_cons_zero, List.set_cons_succ]
        refine OrdE.takeU (i := 11) (oi := { dst := some 38, op := Go.Op.indexAddr 45 (Go.Operand.tmp 36) (Go.Operand.tmp 37), type := 0, pos := "ambryref5.go:58", after := #[{ on := 9, ground := Go.Ground.data }, { on := 10, ground := Go.Ground.data }, { on := 8, ground := Go.Ground.guard }], guard := some (8, true) }) rfl (by kernel_rfl) (by kernel_rfl) (by kernel_rfl) (by kernel_rfl) (fun _ _ _ h => h) (by rfl) (HS5.out) ?_
        try simp only [Act.put, List.setIfInBounds_toArray, List.set_cons_zero, List.set_cons_succ]
        refine OrdE.takeU (i := 12) (oi := { dst := some 39, op := Go.Op.fieldAddr 55 (Go.Operand.tmp 38) 1, type := 0, pos := "ambryref5.go:58", after := #[{ on := 11, ground := Go.Ground.data }, { on := 8, ground := Go.Ground.guard }], guard := some (8, true) }) rfl (by kernel_rfl) (by kernel_rfl) (by kernel_rfl) (by kernel_rfl) (fun _ _ _ h => h) (by rfl) (HS5.out) ?_
        try simp only [Act.put, List.setIfInBounds_toArray, List.set_cons_zero, List.set_cons_succ]
        refine OrdE.takeU (i := 13) (oi := { dst := some 40, op := Go.Op.load 37 (Go.Operand.tmp 39), type := 37, pos := "ambryref5.go:58", after := #[{ on := 12, ground := Go.Ground.data }, { on := 8, ground := Go.Ground.guard }], guard := some (8, true) }) rfl (by kernel_rfl) (by kernel_rfl) (by kernel_rfl) (by kernel_rfl) (fun _ _ _ h => h) (by rfl) (HS5.out) ?_
        try simp only [Act.put, List.setIfInBounds_toArray, List.set_cons_zero, List.set_cons_succ]
        refine OrdE.takeU (i := 14) (oi := { dst := some 41, op := Go.Op.move (Go.Operand.tmp 2), type := 37, pos := "ambryref5.go:58", after := #[{ on := 8, ground := Go.Ground.guard }], guard := some (8, true) }) rfl (by kernel_rfl) (by kernel_rfl) (by kernel_rfl) (by kernel_rfl) (fun _ _ _ h => h) (by rfl) (HS5.out) ?_
        try simp only [Act.put, List.setIfInBounds_toArray, List.set_cons_zero, List.set_cons_succ]
        refine OrdE.takeU (i := 15) (oi := { dst := some 42, op := Go.Op.binOp Go.BinOp.eql 37 (Go.Operand.tmp 40) (Go.Operand.tmp 41) 37, type := 4, pos := "ambryref5.go:58", after := #[{ on := 13, ground := Go.Ground.data }, { on := 14, ground := Go.Ground.data }, { on := 8, ground := Go.Ground.guard }], guard := some (8, true) }) rfl (by kernel_rfl) (by kernel_rfl) (by kernel_rfl) (by kernel_rfl) (fun _ _ _ h => h) (by rfl) (HS5.out) ?_
        try simp only [Act.put, List.setIfInBounds_toArray, List.set_cons_zero, List.set_cons_succ]
        refine OrdE.takeK (i := 16) (oi := { dst := some 43, op := Go.Op.pick (Go.Operand.tmp 35) (Go.Operand.tmp 42) (Go.Operand.const (Go.Value.bool false)), type := 4, pos := "ambryref5.go:58", after := #[{ on := 8, ground := Go.Ground.data }, { on := 15, ground := Go.Ground.data }], guard := none }) (v := (.bool false)) rfl (by kernel_rfl) (by kernel_rfl) (by kernel_rfl) (by kernel_rfl) (fun _ _ _ h => h) (by rfl) ?_ (HS5.out) ?_
        · intro w hS; obtain ⟨⟨hx0, hx1⟩, hx2⟩ := hS; go_simp
        try simp only [Act.put, List.setIfInBounds_toArray, List.set_cons_zero, List.set_cons_succ]
        refine OrdE.doneE (by kernel_rfl) ?_ _
--END-B
        go_wp2_with fail
        go_roundw
        case rel => exact ⟨m, rfl, by omega, ⟨fun j y hj hy => by
          rcases Nat.lt_or_ge m j with h | h
          · exact HNO.out j y h hy
          · obtain rfl : j = m := by omega
            rw [HX.out] at hy
            cases hy
            unfold hit
            rw [ht, Bool.false_and]⟩, ⟨HS5.out.1.1⟩, ⟨HB5.out⟩⟩
        case measure => simp [intOf]
    · obtain rfl : m1 = 0 := by omega
      have hd : D.del k a = (false, D) := by
        unfold Di.del
        rw [HBQ.out, del_none k.tag a b HNO.out]
      go_wp2
      go_ret
      rw [hd]
      exact .same HH.out HB.out
theorem rDelete_own {W : World} {R : HP} [Firm R] (h : Foot.Own W w (star (RefH p D) R)) (a : Int) :
    Calls Try.prog 22 #[.pointer (some ⟨p, 0, none⟩), .agg k.cells, .int .u32 a] w fun e w' => e = .returned (.bool (D.del k a).1) ∧ Foot.Own W w' (star (RefH p (D.del k a).2) R) := by
  refine h.frame fun F hF _ => ?_
  obtain ⟨q, vs, rfl, hd⟩ := hF
  exact (rDelete_calls hd a).mono fun e w' hp => hp.frame
end
end Go.Proofs.Ytafpaomcmjccaaa.Dir
