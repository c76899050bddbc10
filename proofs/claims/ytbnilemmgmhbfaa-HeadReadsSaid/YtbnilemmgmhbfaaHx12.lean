-- PRINTED by print.py (a twelfth state) out of the translation. Not trusted: Lean checks it.
import Derived.Test.YtbnilemmgmhbfaaHx0
import Derived.Test.YtbnilemmgmhbfaaHx2
import Derived.Test.YtbnilemmgmhbfaaHx7
import Derived.Test.YtbnilemmgmhbfaaHx11
namespace Go.Proofs.Ytbnilemmgmhbfaa.H
open Go.RowKit Go.Proofs.YtbnilemmgmhbfaaW.PrintWords Go.Proofs.YtbnilemmgmhbfaaW.PrintLast Go.Proofs.YtbnilemmgmhbfaaW.PrintMore
attribute [local go_sem] max2_int min2_int max_two min_two max_three min_three max_four min_four   -- for this text's walks alone
set_option linter.unusedVariables false
set_option linter.unusedSimpArgs false

/-! ### head_Drop: function 33 -/
-- FOR ambry/head.Drop
-- NEEDS ambry/head.Same; ambry/head.small; slices.Clone[[]ambry/api.Field,ambry/api.Field]
-- MAKING
def head_Drop.f (l0 : List (S39)) (a1 : ByteArray) : Option (List (S39)) := if l0.length * 32 ≤ 140737488355328 ∧ a1.size ≤ 140737488355328 ∧ (∀ x ∈ l0, x.f0.size ≤ 140737488355328) then some (l0.filter fun x => !Leaf.sameB x.f0 a1) else none
theorem head_Drop.small (c : Int) (h0 : 0 ≤ c) (h1 : c ≤ 255) : head_small.f c = some (Leaf.lowC c) := by
  unfold head_small.f Leaf.lowC
  by_cases h2 : c ≥ 65
  · by_cases h3 : c ≤ 90
    · rw [if_pos h2, if_pos h3, if_pos ⟨h2, h3⟩]; congr 1; omega
    · rw [if_pos h2, if_neg h3, if_neg (by omega)]
  · rw [if_neg h2, if_neg (by omega)]
theorem head_Drop.same_loop (a b : ByteArray) (ha : a.size ≤ 140737488355328) (hab : a.size = b.size) : ∀ (d i : Nat), a.size - i = d → i ≤ a.size →
    Ev (fun k => head_Same.l0 k a b (a.size : Int) (i : Int)) (((bytesOf a).drop i).map Leaf.lowC == ((bytesOf b).drop i).map Leaf.lowC) := by
  have za := Plain.size_bytes a
  have zb := Plain.size_bytes b
  intro d
  induction d with
  | zero =>
    intro i hd hi
    refine Ev.step (fun k => head_Same.l0.eq_2 _ _ _ _ _) (Plain.ev_neg (by omega) (Plain.ev_ret ?_))
    rw [List.drop_eq_nil_of_le (by omega), List.drop_eq_nil_of_le (by omega)]; rfl
  | succ d ih =>
    intro i hd hi
    have ra := bt_range a (i : Int)
    have rb := bt_range b (i : Int)
    refine Ev.step (fun k => head_Same.l0.eq_2 _ _ _ _ _) (Plain.ev_pos (by omega) (Plain.ev_pos (by omega) (Plain.ev_pos (by omega) ?_)))
    refine Plain.ev_some (head_Drop.small _ ra.1 ra.2) (Plain.ev_pos (by omega) (Plain.ev_some (head_Drop.small _ rb.1 rb.2) ?_))
    rw [Plain.bt_nat, Plain.bt_nat, Plain.wrap_succ (by omega), Plain.drop_cons (bytesOf a) 0 (show i < (bytesOf a).length by omega), Plain.drop_cons (bytesOf b) 0 (show i < (bytesOf b).length by omega), List.map_cons, List.map_cons, List.cons_beq_cons]
    by_cases h : Leaf.lowC ((bytesOf a).getD i 0) = Leaf.lowC ((bytesOf b).getD i 0)
    · refine Plain.ev_pos h (Plain.ev_eq (ih (i + 1) (by omega) (by omega)) ?_)
      rw [h, beq_self_eq_true, Bool.true_and]
    · refine Plain.ev_neg h (Plain.ev_ret ?_)
      rw [beq_false_of_ne h, Bool.false_and]
theorem head_Drop.same_ev (a b : ByteArray) (ha : a.size ≤ 140737488355328) (hb : b.size ≤ 140737488355328) : Ev (fun k => head_Same.f k a b) (Leaf.sameB a b) := by
  refine Ev.congr (fun k => head_Same.f.eq_1 k a b) ?_
  by_cases h : a.size = b.size
  · exact Plain.ev_pos (by omega) (Plain.ev_eq (head_Drop.same_loop a b ha h _ 0 rfl (by omega)) (by simp [Leaf.sameB]))
  · refine Plain.ev_neg (by omega) (Plain.ev_ret ?_)
    have : ¬ (bytesOf a).map Leaf.lowC = (bytesOf b).map Leaf.lowC := fun he => h (by
      have := congrArg List.length he
      simpa [bytesOf_length] using this)
    rw [Leaf.sameB, beq_false_of_ne this]
set_option maxHeartbeats 1000000 in
theorem head_Drop.clo (x : S39) (name : ByteArray) (b : Nat) (W : World) (hc : W.cell? ⟨b, 0, none⟩ = some (.string name)) (h0 : x.f0.size ≤ 140737488355328) (h1 : name.size ≤ 140737488355328) :
    Calls Try.prog 53 #[.agg #[.string x.f0, .string x.f1], .pointer (some ⟨b, 0, none⟩)] W fun e w' => e = .returned (.bool (Leaf.sameB x.f0 name)) ∧ Below W.heap.size W w' := by
  obtain ⟨k, hk⟩ := Ev.rounds (head_Drop.same_ev x.f0 name h0 h1)
  have HK := Aside0.mk hk
  clear hk
  have hc2 : ∀ o : Obj, (W.alloc o).cell? ⟨b, 0, none⟩ = some (.string name) := fun o => pw_cell_below (below_alloc (Below.refl _ _) o) hc
  have hc3 : ∀ o : Obj, (W.alloc o).cell? ⟨W.heap.size, 0, none⟩ = (match o with | .cells c _ _ => c[0]? | _ => none) := fun o => by
    have := heap_alloc_new W o
    unfold World.cell?
    rw [this]
    cases o <;> rfl
  clear hc3
  go_enter Try.func53, Try.ntmps53
  go_wp2_with fail
  refine (head_Same.calls _ _ _ _ _ HK.out).mono ?_
  rintro e w1 ⟨rfl, hd⟩
  have HD := Aside0.mk hd
  clear hd
  go_wp2
  go_ret
  exact ⟨rfl, Leaf.d_below (below_alloc (Below.refl _ _) _) HD.out⟩
theorem head_Drop.clo_is (v : Bool) (x : S39) (name : ByteArray) (b : Nat) (W : World) (hv : Leaf.sameB x.f0 name = v) (hc : W.cell? ⟨b, 0, none⟩ = some (.string name)) (h0 : x.f0.size ≤ 140737488355328) (h1 : name.size ≤ 140737488355328) :
    Calls Try.prog 53 #[.agg #[.string x.f0, .string x.f1], .pointer (some ⟨b, 0, none⟩)] W fun e w' => e = .returned (.bool v) ∧ Below W.heap.size W w' := hv ▸ head_Drop.clo x name b W hc h0 h1
abbrev head_Drop.RowF (W : World) (g cap : Nat) (xs : List S39) : Prop := Leaf.Row2 (fun x : S39 => .string x.f0) (fun x : S39 => .string x.f1) 39 W g cap xs
def head_Drop.IdxP (name : ByteArray) (xs : List S39) (W : World) (e : Ending) (w' : World) : Prop :=
  ∃ i : Int, e = .returned (.int .i64 i) ∧ Below W.heap.size W w' ∧ ((i = -1 ∧ ∀ (j : Nat) (y : S39), xs[j]? = some y → Leaf.sameB y.f0 name = false) ∨
    ∃ n : Nat, i = n ∧ n < xs.length ∧ (∀ y, xs[n]? = some y → Leaf.sameB y.f0 name = true) ∧ ∀ (j : Nat) (y : S39), j < n → xs[j]? = some y → Leaf.sameB y.f0 name = false)
set_option maxHeartbeats 1000000 in
theorem head_Drop.index (xs : List S39) (g cap b : Nat) (name : ByteArray) (W : World) (hr : head_Drop.RowF W g cap xs) (hc : W.cell? ⟨b, 0, none⟩ = some (.string name)) (h0 : ∀ x ∈ xs, x.f0.size ≤ 140737488355328) (h1 : name.size ≤ 140737488355328) :
    Calls Try.prog 58 #[.slice (some ⟨g, 0, none⟩) xs.length cap, .func (.func 53) #[] #[.pointer (some ⟨b, 0, none⟩)]] W (head_Drop.IdxP name xs W) := by
  have hlen : xs.length ≤ 9223372036854775807 := by obtain ⟨_, _, _, hl, hm, _⟩ := hr; omega
  have HR := Lib.hid hr
  have HC := Lib.hid hc
  have H0 := Lib.hid h0
  have H1 := Lib.hid h1
  clear hr hc h0 h1
  go_enter Try.func58, Try.ntmps58
  go_wp2
  go_loopw [8] (fun v8 wr => ∃ k : Nat, k ≤ xs.length ∧ v8 = .int .i64 k ∧ Aside0 (Below W.heap.size W wr) ∧ Aside0 (∀ (j : Nat) (y : S39), j < k → xs[j]? = some y → Leaf.sameB y.f0 name = false)) (fun v8 _ => xs.length - (intOf v8).toNat)
  case atStart => exact ⟨0, Nat.zero_le _, rfl, ⟨Below.refl _ _⟩, ⟨fun j y h => absurd h (Nat.not_lt_zero _)⟩⟩
  case round =>
    obtain ⟨k, hk, rfl, HW, HF⟩ := hrel
    by_cases hlt : k < xs.length
    · obtain ⟨y, hy⟩ : ∃ y, xs[k]? = some y := ⟨xs[k], List.getElem?_eq_getElem hlt⟩
      obtain ⟨hx0, hx1⟩ := (HR.out.below HW.out).cell hy
      have HS := Lib.hid (H0.out y (List.mem_of_getElem? hy))
      have HCr := Lib.hid (pw_cell_below HW.out HC.out)
      have HY := Lib.hid hy
      clear hy
      cases hb : Leaf.sameB y.f0 name with
      | true =>
        have HV := Lib.hid hb
        clear hb
        go_wp2_with fail
        refine (head_Drop.clo_is true _ _ _ _ HV.out HCr.out HS.out H1.out).mono ?_
        rintro e w1 ⟨rfl, hB⟩
        have HB := Aside0.mk (HW.out.trans (Below.mono hB (by have := HW.out.size; omega)))
        clear hB
        go_wp2
        go_ret
        exact ⟨k, rfl, HB.out, .inr ⟨k, rfl, hlt, fun z hz => by rw [HY.out] at hz; injection hz with hz; rw [← hz]; exact HV.out, HF.out⟩⟩
      | false =>
        have HV := Lib.hid hb
        clear hb
        go_wp2_with fail
        refine (head_Drop.clo_is false _ _ _ _ HV.out HCr.out HS.out H1.out).mono ?_
        rintro e w1 ⟨rfl, hB⟩
        have HB := Aside0.mk (HW.out.trans (Below.mono hB (by have := HW.out.size; omega)))
        clear hB
        go_wp2
        go_roundw
        case rel => exact ⟨k + 1, by omega, by go_num, HB, ⟨fun j z hj hz => by
          by_cases e : j = k
          · subst e; rw [HY.out] at hz; injection hz with hz; rw [← hz]; exact HV.out
          · exact HF.out j z (by omega) hz⟩⟩
        case measure => simp [intOf]; omega
    · go_wp2
      go_ret
      exact ⟨-1, rfl, HW.out, .inl ⟨rfl, fun j z hz => HF.out j z (by have := (List.getElem?_eq_some_iff.1 hz).1; omega) hz⟩⟩
theorem head_Drop.zeroF (w : World) : (zeroValue 39).run Try.prog w = .ok (.agg #[.string (⟨#[]⟩ : ByteArray), .string (⟨#[]⟩ : ByteArray)]) w := by kernel_rfl
theorem head_Drop.zeros_one (m : Nat) : ∀ v ∈ (Builtin.zeroCells #[Value.string (⟨#[]⟩ : ByteArray), Value.string (⟨#[]⟩ : ByteArray)] m).toList, v.oneCell' = true := by
  intro v hv
  simp only [Builtin.zeroCells, Array.toList_map, List.mem_map] at hv
  obtain ⟨j, _, rfl⟩ := hv
  have : j % 2 = 0 ∨ j % 2 = 1 := by omega
  rcases this with h | h <;> simp [h, Value.oneCell']
theorem head_Drop.zeros_len (m : Nat) : (Builtin.zeroCells #[Value.string (⟨#[]⟩ : ByteArray), Value.string (⟨#[]⟩ : ByteArray)] m).toList.length = m * 2 := by
  simp [Builtin.zeroCells]
theorem head_Drop.run_clear (W : World) (ty : TypeId) (g o m c : Nat) (C : Array Value) (hb : W.heap[g]? = some (.cells C 39 (0, 0))) (hm : 0 < m) (ho : o + m * 2 ≤ C.size) :
    (Builtin.clear_ #[25] ty #[.slice (some ⟨g, o, none⟩) m c]).run Try.prog W =
      .ok (.tuple #[]) (W.setRow g (C.toList.take (o + 0) ++ (Builtin.zeroCells #[Value.string (⟨#[]⟩ : ByteArray), Value.string (⟨#[]⟩ : ByteArray)] m).toList ++ C.toList.drop (o + 0 + (Builtin.zeroCells #[Value.string (⟨#[]⟩ : ByteArray), Value.string (⟨#[]⟩ : ByteArray)] m).toList.length)).toArray) := by
  obtain ⟨m, rfl⟩ : ∃ q, m = q + 1 := ⟨m - 1, by omega⟩
  have hst := run_storeCells_at (P := Try.prog) g o 39 (Builtin.zeroCells #[Value.string (⟨#[]⟩ : ByteArray), Value.string (⟨#[]⟩ : ByteArray)] (m + 1)).toList 0 C W hb (by rw [head_Drop.zeros_len]; omega) (head_Drop.zeros_one _)
  simp [Builtin.clear_, run_underlying Try.underlying25, head_Drop.zeroF, Value.cells, Result.andThen]
  rw [hst]
  simp
theorem head_Drop.clear_ok (W wr : World) (ys : List S39) (g cap B i m : Nat) (hr : head_Drop.RowF wr g cap ys) (hw : Below B W wr) (hB : B ≤ g) (hi : i ≤ ys.length) (hm : 0 < m) (hc : i + m ≤ cap) :
    ∃ Wn, (Builtin.clear_ #[25] 0 #[.slice (some ⟨g, i * 2, none⟩) m (cap - i)]).run Try.prog wr = .ok (.tuple #[]) Wn ∧ head_Drop.RowF Wn g cap (ys.take i) ∧ Below B W Wn := by
  obtain ⟨C, hCb, hCs, _, _, _⟩ := id hr
  exact ⟨_, head_Drop.run_clear wr 0 g (i * 2) m (cap - i) C hCb hm (by rw [hCs]; omega), hr.ahead (i := i) hi _ (by rw [head_Drop.zeros_len]; omega) C hCb, below_setRow hw hB _⟩
def head_Drop.keep (name : ByteArray) (xs : List S39) : List S39 := xs.filter fun x => !Leaf.sameB x.f0 name
theorem head_Drop.keep_take (name : ByteArray) (xs : List S39) (j : Nat) (y : S39) (hy : xs[j]? = some y) : head_Drop.keep name (xs.take (j + 1)) = head_Drop.keep name (xs.take j) ++ (if Leaf.sameB y.f0 name = true then [] else [y]) := by
  have hj := (List.getElem?_eq_some_iff.1 hy).1
  have : xs[j] = y := by rw [List.getElem?_eq_getElem hj] at hy; injection hy
  unfold head_Drop.keep
  rw [List.take_succ_eq_append_getElem hj, List.filter_append, this]
  by_cases hb : Leaf.sameB y.f0 name = true
  · simp [hb]
  · simp [Bool.eq_false_iff.2 hb]
theorem head_Drop.keep_all (name : ByteArray) (xs : List S39) (n : Nat) (h : ∀ (j : Nat) (y : S39), j < n → xs[j]? = some y → Leaf.sameB y.f0 name = false) : head_Drop.keep name (xs.take n) = xs.take n := by
  unfold head_Drop.keep
  refine List.filter_eq_self.2 fun y hy => ?_
  obtain ⟨j, hj⟩ := List.getElem?_of_mem hy
  rw [List.getElem?_take] at hj
  split at hj
  · rename_i hlt
    rw [h j y hlt hj]; rfl
  · cases hj
def head_Drop.DelP (name : ByteArray) (xs : List S39) (g cap B : Nat) (W : World) (e : Ending) (w' : World) : Prop :=
  e = .returned (.slice (some ⟨g, 0, none⟩) (head_Drop.keep name xs).length cap) ∧ head_Drop.RowF w' g cap (head_Drop.keep name xs) ∧ Below B W w'
set_option maxHeartbeats 4000000 in
theorem head_Drop.del (xs : List S39) (g cap b B : Nat) (name : ByteArray) (W : World) (hr : head_Drop.RowF W g cap xs) (hc : W.cell? ⟨b, 0, none⟩ = some (.string name)) (hbg : b ≠ g) (hB : B ≤ g) (h0 : ∀ x ∈ xs, x.f0.size ≤ 140737488355328) (h1 : name.size ≤ 140737488355328) :
    Calls Try.prog 51 #[.slice (some ⟨g, 0, none⟩) xs.length cap, .func (.func 53) #[] #[.pointer (some ⟨b, 0, none⟩)]] W (head_Drop.DelP name xs g cap B W) := by
  have hlen : xs.length ≤ cap ∧ cap ≤ 9223372036854775807 := by obtain ⟨_, _, _, hl, hm, _⟩ := hr; exact ⟨hl, hm⟩
  obtain ⟨hlc, hcm⟩ := hlen
  have HR := Lib.hid hr
  have HC := Lib.hid hc
  have H0 := Lib.hid h0
  have H1 := Lib.hid h1
  have HN := Lib.hid hbg
  have HL := Lib.hid hr.lt
  have HBl := Lib.hid (World.block_lt_of_cell? W ⟨b, 0, none⟩ hc)
  clear hr hc h0 h1 hbg
  go_enter Try.func51, Try.ntmps51
  go_wp2_with fail
  refine (head_Drop.index _ _ _ _ _ _ HR.out HC.out H0.out H1.out).mono ?_
  rintro e w1 ⟨i, rfl, hB1, hcase⟩
  have HB1 := Aside0.mk (Below.mono hB1 (by have := HL.out; omega) : Below B W w1)
  have HR1 := Lib.hid (HR.out.below hB1)
  have HC1 := Lib.hid (pw_cell_below hB1 HC.out)
  clear hB1
  rcases hcase with ⟨rfl, hno⟩ | ⟨n0, rfl, hlt, hyes, hno⟩
  · have hk : head_Drop.keep name xs = xs := by
      have := head_Drop.keep_all name xs xs.length (fun j y _ h => hno j y h)
      rwa [List.take_length] at this
    have HK := Lib.hid hk
    clear hno hk
    go_wp2
    go_ret
    exact ⟨by rw [HK.out]; rfl, by rw [HK.out]; exact HR1.out, HB1.out⟩
  · have hy0 : ∃ y, xs[n0]? = some y := ⟨xs[n0], List.getElem?_eq_getElem hlt⟩
    have hk : xs.take n0 = head_Drop.keep name (xs.take (n0 + 1)) := by
      obtain ⟨y, hy⟩ := hy0
      rw [head_Drop.keep_take name xs n0 y hy, if_pos (hyes y hy), List.append_nil, head_Drop.keep_all name xs n0 hno]
    have HK := Lib.hid hk
    clear hno hyes hy0 hk
    have hne : ((n0 : Int) == -1) = false := beq_false_of_ne (by omega)
    go_wp2_with fail
    go_loopw [5, 6] (fun v5 v6 wr => ∃ (i j : Nat) (ys : List S39), i < j ∧ j ≤ xs.length ∧ v5 = .int .i64 i ∧ v6 = .int .i64 j ∧ Aside0 (ys.length = xs.length) ∧ Aside0 (head_Drop.RowF wr g cap ys) ∧ Aside0 (∀ q, j ≤ q → ys[q]? = xs[q]?) ∧ Aside0 (ys.take i = head_Drop.keep name (xs.take j)) ∧ Aside0 (Below B W wr) ∧ Aside0 (wr.cell? ⟨b, 0, none⟩ = some (.string name))) (fun _ v6 _ => xs.length - (intOf v6).toNat)
    case atStart => exact ⟨n0, n0 + 1, xs, by omega, by omega, rfl, by go_num, ⟨rfl⟩, ⟨HR1.out⟩, ⟨fun _ _ => rfl⟩, ⟨HK.out⟩, HB1, ⟨HC1.out⟩⟩
    case round =>
      obtain ⟨i, j, ys, hij, hj, rfl, rfl, HYL, HYR, HYX, HYT, HW, HCr⟩ := hrel
      by_cases hjl : j < xs.length
      · obtain ⟨y, hy⟩ : ∃ y, xs[j]? = some y := ⟨xs[j], List.getElem?_eq_getElem hjl⟩
        have hyj : ys[j]? = some y := (HYX.out j (Nat.le_refl _)).trans hy
        obtain ⟨hx0, hx1⟩ := HYR.out.cell hyj
        have HS := Lib.hid (H0.out y (List.mem_of_getElem? hy))
        have HY := Lib.hid hy
        have HLr := Lib.hid HYR.out.lt
        have HCb := Lib.hid (World.block_lt_of_cell? wr ⟨b, 0, none⟩ HCr.out)
        have HCa := Lib.hid (fun o : Obj => pw_cell_below (below_alloc (Below.refl wr.heap.size wr) o) HCr.out)
        clear hy hyj
        cases hb : Leaf.sameB y.f0 name with
        | true =>
          have HV := Lib.hid hb
          clear hb
          go_wp2_with fail
          refine (head_Drop.clo_is true _ _ _ _ HV.out (HCa.out _) HS.out H1.out).mono ?_
          rintro e w2 ⟨rfl, hB2⟩
          have HB2 := Aside0.mk (below_then (below_alloc (Below.refl wr.heap.size wr) _) (by simp) hB2 : Below wr.heap.size wr w2)
          clear hB2 hx0 hx1
          go_wp2
          go_roundw
          case rel => exact ⟨i, j + 1, ys, by omega, by omega, rfl, by go_num, HYL, ⟨HYR.out.below HB2.out⟩, ⟨fun q hq => HYX.out q (by omega)⟩, ⟨by rw [head_Drop.keep_take name xs j y HY.out, if_pos HV.out, List.append_nil]; exact HYT.out⟩, ⟨HW.out.trans (Below.mono HB2.out (by have := HLr.out; omega))⟩, ⟨pw_cell_below HB2.out HCr.out⟩⟩
          case measure => simp [intOf]; omega
        | false =>
          have HV := Lib.hid hb
          clear hb
          go_wp2_with fail
          refine (head_Drop.clo_is false _ _ _ _ HV.out (HCa.out _) HS.out H1.out).mono ?_
          rintro e w2 ⟨rfl, hB2⟩
          have HB2 := Aside0.mk (below_then (below_alloc (Below.refl wr.heap.size wr) _) (by simp) hB2 : Below wr.heap.size wr w2)
          have hnew : (wr.alloc (.cells #[.string y.f0, .string y.f1] 39)).heap[wr.heap.size]? = some (.cells #[.string y.f0, .string y.f1] 39 (0, 0)) := heap_alloc_new wr _
          have hbx := (hB2.block wr.heap.size (by simp)).trans hnew
          have bx0 := blk_cell hbx 0
          have bx1 := blk_cell hbx 1
          have HR2 := Lib.hid (HYR.out.below HB2.out)
          obtain ⟨z, hz⟩ : ∃ z, ys[i]? = some z := ⟨ys[i]'(by have := HYL.out; omega), List.getElem?_eq_getElem _⟩
          obtain ⟨hz0, hz1⟩ := HR2.out.cell hz
          have fz0 := HR2.out.free (i * 2)
          have fz1 := HR2.out.free (i * 2 + 1)
          clear hB2 hx0 hx1 hnew hbx hz
          go_wp2
          go_roundw
          case rel =>
            have hil : i < ys.length := by have := HYL.out; omega
            refine ⟨i + 1, j + 1, ys.set i y, by omega, by omega, by go_num, by go_num, ⟨by rw [List.length_set]; exact HYL.out⟩, ⟨HR2.out.set hil y⟩, ⟨fun q hq => by rw [List.getElem?_set_ne (by omega)]; exact HYX.out q (by omega)⟩, ⟨?_⟩, ⟨(((HW.out.trans (Below.mono HB2.out (by have := HLr.out; omega))).setCell hB _).setCell hB _)⟩, ⟨?_⟩⟩
            · rw [head_Drop.keep_take name xs j y HY.out, if_neg (by rw [HV.out]; simp), ← HYT.out, List.take_succ_eq_append_getElem (by rw [List.length_set]; exact hil), List.take_set_of_le (Nat.le_refl _), List.getElem_set_self]
            · have e1 : ∀ (V : World) (p : Addr) (u : Value), p.block = g → (V.setCell p u).cell? ⟨b, 0, none⟩ = V.cell? ⟨b, 0, none⟩ := fun V p u hp => by
                unfold World.cell?
                rw [Below.heap_setCell V p u b (by rw [hp]; exact HN.out)]
              rw [e1 _ _ _ rfl, e1 _ _ _ rfl]
              exact pw_cell_below HB2.out HCr.out
          case measure => simp [intOf]; omega
      · have hjn : j = xs.length := by omega
        have hk : ys.take i = head_Drop.keep name xs := by rw [HYT.out, hjn, List.take_length]
        have hkl : (head_Drop.keep name xs).length = i := by rw [← hk, List.length_take]; have := HYL.out; omega
        obtain ⟨Wn, hcl, hA, hBn⟩ := head_Drop.clear_ok W wr ys g cap B i (xs.length - i) HYR.out HW.out hB (by have := HYL.out; omega) (by omega) (by omega)
        have HA := Lib.hid hA
        have HBn := Lib.hid hBn
        have hci : (cap = i) = False := eq_false (by omega)
        have hci2 : (i = cap) = False := eq_false (by omega)
        have HK2 := Lib.hid hk
        have HK3 := Lib.hid hkl
        clear hjn hk hkl hA hBn
        go_wp2
        go_ret
        refine ⟨by rw [HK3.out]; rfl, ?_, HBn.out⟩
        rw [← HK2.out]
        exact HA.out
theorem head_Drop.index0 (A : Option Addr) (c b : Nat) (W : World) :
    Calls Try.prog 58 #[.slice A 0 c, .func (.func 53) #[] #[.pointer (some ⟨b, 0, none⟩)]] W fun e w' => e = .returned (.int .i64 (-1)) ∧ w' = W := by
  go_enter Try.func58, Try.ntmps58
  go_wp2
  go_loop [8] (fun v8 => v8 = .int .i64 0) (fun _ => 0)
  case atStart => rfl
  case round =>
    obtain rfl := hrel
    go_wp2
    go_ret
    exact ⟨rfl, rfl⟩
theorem head_Drop.del0 (A : Option Addr) (c b : Nat) (W : World) :
    Calls Try.prog 51 #[.slice A 0 c, .func (.func 53) #[] #[.pointer (some ⟨b, 0, none⟩)]] W fun e w' => e = .returned (.slice A 0 c) ∧ w' = W := by
  go_enter Try.func51, Try.ntmps51
  go_wp2_with fail
  refine (head_Drop.index0 _ _ _ _).mono ?_
  rintro e w1 ⟨rfl, rfl⟩
  go_wp2
  go_ret
  exact ⟨rfl, rfl⟩
set_option maxHeartbeats 2000000 in
theorem head_Drop.calls (A0 : Option Addr) (c0 : Nat) (l0 : List (S39)) (a1 : ByteArray) (r : List (S39)) (w : World) (hr0 : Kd.C k39 w A0 l0.length l0) (hc0 : l0.length ≤ c0) (h : head_Drop.f l0 a1 = some r) :
    Calls Try.prog 33 #[.slice A0 l0.length c0, .string a1] w fun e w' => ∃ v0_ : Value, e = .returned (v0_) ∧ Kd.R k39 39 w' w.heap.size (fun _ => True) v0_ r ∧ Below w.heap.size w w' := by
  unfold head_Drop.f at h
  split at h
  case isFalse => cases h
  rename_i hs
  obtain ⟨hs0, hs1, hs2⟩ := hs
  obtain rfl := Option.some.inj h
  clear h
  have HR := Lib.hid hr0
  have HC0 := Lib.hid hc0
  have HS0 := Lib.hid hs0
  have HS1 := Lib.hid hs1
  have HS2 := Lib.hid hs2
  clear hr0 hc0 hs0 hs1 hs2
  have hmf : ∀ (fn : Fn) (first cap : Array Value) (W : World), (Instr.makeFunc fn first cap).run Try.prog W = .ok (.func fn first cap) W := fun _ _ _ _ => rfl
  go_enter Try.func33, Try.ntmps33
  go_wp2_with fail
  refine (clone_Field.calls _ _ _ _ (Kd.C_below HR.out (below_alloc (Below.refl _ _) _)) HC0.out HS0.out).mono ?_
  rintro e w1 ⟨v0, rfl, hR, hB⟩
  have hnew : (w.alloc (.cells #[.string a1] 9)).heap[w.heap.size]? = some (.cells #[.string a1] 9 (0, 0)) := heap_alloc_new w _
  have hbx := (hB.block w.heap.size (by simp)).trans hnew
  have HBX := Lib.hid (blk_cell hbx 0)
  have HB := Lib.hid (below_then (below_alloc (Below.refl w.heap.size w) _) (by simp) hB : Below w.heap.size w w1)
  clear hnew hbx
  rcases Nat.eq_zero_or_pos l0.length with h0 | h0
  · obtain rfl := List.eq_nil_of_length_eq_zero h0
    obtain ⟨A, c, rfl⟩ := Kd.R_slice hR
    have HRR := Lib.hid (Kd.R_lower hR (show w.heap.size ≤ _ by simp))
    clear hR hB h0
    go_wp2_with fail
    refine (head_Drop.del0 _ _ _ _).mono ?_
    rintro e w2 ⟨rfl, rfl⟩
    go_wp2
    go_ret
    exact ⟨_, rfl, HRR.out, HB.out⟩
  · obtain ⟨g, cap, rfl, hg, hrow⟩ := Leaf.Row2.of_R (p := fun x : S39 => .string x.f0) (q := fun x : S39 => .string x.f1) hR rfl (fun ok y cs hM => k39_openM hM) h0
    have hgl : w.heap.size < g := by simp at hg; omega
    have HD := Lib.hid (head_Drop.del l0 g cap w.heap.size w.heap.size a1 w1 hrow HBX.out (by omega) (by omega) HS2.out HS1.out)
    have HG := Lib.hid hgl
    clear hR hB h0 hrow hg hgl
    go_wp2_with fail
    refine HD.out.mono ?_
    rintro e w2 ⟨rfl, hrow2, hB2⟩
    have HR2 := Lib.hid (Leaf.Row2.to_R (d := k39) hrow2 rfl w.heap.size (fun ok y => k39_mkM _ _ ok y) (by have := HG.out; omega) _ rfl)
    have HB2 := Lib.hid (HB.out.trans hB2)
    clear hrow2 hB2
    go_wp2
    go_ret
    exact ⟨_, rfl, HR2.out, HB2.out⟩

/-! ### ambryref10_Drop: function 34 -/
def ambryref10_Drop.l0 : Nat → List (S39) → ByteArray → List (S39) → Int → Option ((List (S39)))
  | 0, _, _, _, _ => none
  | k + 1, x0, x1, x5, x6 => if x6 < (x0.length : Int) then (if 0 ≤ x6 then ((ambryref10_Same.f ((rd_T39 x0 x6).f0) x1).bind fun t306 => (if t306 = true then (ambryref10_Drop.l0 k x0 x1 x5 (wrap64 (x6 + 1))) else (if x5.length < 4398046511104 then (ambryref10_Drop.l0 k x0 x1 (x5 ++ [(⟨(rd_T39 x0 x6).f0, (rd_T39 x0 x6).f1⟩ : S39)]) (wrap64 (x6 + 1))) else (none)))) else (none)) else (some x5)
def ambryref10_Drop.f (k : Nat) (l0 : List (S39)) (a1 : ByteArray) : Option ((List (S39))) := ambryref10_Drop.l0 k l0 a1 ([] : List (S39)) 0
theorem ambryref10_Drop.mono_l : ∀ k, (∀ y0 y1 y2 y3, LeO (ambryref10_Drop.l0 k y0 y1 y2 y3) (ambryref10_Drop.l0 (k + 1) y0 y1 y2 y3))
  | 0 => fun _ _ _ _ r h => by simp [ambryref10_Drop.l0] at h
  | k + 1 => by
    have ih0 := ambryref10_Drop.mono_l k
    · intro y0 y1 y2 y3
      unfold ambryref10_Drop.l0
      repeat' first
      | (with_reducible exact ih0 _ _ _ _)
      | (with_reducible exact LeO.refl _)
      | (with_reducible exact LeO.none _)
      | (with_reducible refine LeO.ite ?_ ?_)
      | (with_reducible refine LeO.bind ?_ (fun _ => ?_))
      | exact ih0 _ _ _ _
      | exact LeO.none _
      | refine LeO.ite ?_ ?_
      | refine LeO.bind ?_ (fun _ => ?_)
theorem ambryref10_Drop.mono : ∀ a0 a1 k, LeO (ambryref10_Drop.f k a0 a1) (ambryref10_Drop.f (k + 1) a0 a1) := by
  intro a0 a1 k
  have ih0 := ambryref10_Drop.mono_l k
  unfold ambryref10_Drop.f
  repeat' first
      | (with_reducible exact ih0 _ _ _ _)
      | (with_reducible exact LeO.refl _)
      | (with_reducible exact LeO.none _)
      | (with_reducible refine LeO.ite ?_ ?_)
      | (with_reducible refine LeO.bind ?_ (fun _ => ?_))
      | exact ih0 _ _ _ _
      | exact LeO.none _
      | refine LeO.ite ?_ ?_
      | refine LeO.bind ?_ (fun _ => ?_)
set_option maxHeartbeats 8000000 in
set_option maxRecDepth 100000 in
theorem ambryref10_Drop.calls (k : Nat) (A0 : Option Addr) (c0 : Nat) (l0 : List (S39)) (a1 : ByteArray) (r : List (S39)) (w : World) (hr0 : Kd.C k39 w A0 l0.length l0) (hc0 : l0.length ≤ c0) (h : ambryref10_Drop.f k l0 a1 = some r) :
    Calls Try.prog 34 #[.slice A0 l0.length c0, .string a1] w fun e w' => ∃ v0_ : Value, e = .returned (v0_) ∧ Kd.R k39 39 w' w.heap.size (fun _ => True) v0_ r ∧ Below w.heap.size w w' := by
  have hu39 := Try.underlying39
  have HR0 := Aside0.mk hr0
  have HC0 := Aside0.mk hc0
  clear hr0 hc0
  have HB := Aside0.mk (Below.refl w.heap.size w)
  have H : (ambryref10_Drop.l0 k l0 a1 ([] : List (S39)) 0) = some r := h
  clear h
  have H' := Aside0.mk H
  clear H
  go_enter Try.func34, Try.ntmps34
  go_wp2
  go_loopg [5, 6] k (fun kq v5 v6 w' => ∃ (x5_1 : List (S39)) (x6_1 : Int), v6 = .int .i64 x6_1 ∧ Aside0 (ambryref10_Drop.l0 kq l0 a1 x5_1 x6_1 = some r) ∧ Aside0 (kq ≤ k) ∧ Aside0 (Kd.R k39 39 w' w.heap.size (fun _ => True) v5 x5_1) ∧ Aside0 (Below w.heap.size w w'))
  case atStart => exact ⟨(([] : List (S39))), (0), (by first | rfl | (simp; done) | (simp [*]; done)), H', ⟨Nat.le_refl _⟩, ⟨by first | exact Kd.R_nil _ _ _ _ _ | exact Kd.N_nil _ _ _ _ _ | exact Kd.V_nil _ _ _ _ _ | exact Kd.Q_nil _ _ _ _ _ | exact Kd.S_nil _ _ _ _ _⟩, ⟨by repeat (first | (with_reducible first | exact HB.out | apply below_alloc | apply pw_below_drewN | apply below_drew1) | exact HB.out)⟩⟩
  case round =>
    clear H'
    try clear p2
    obtain ⟨x5_1, x6_1, rfl, HA, HK1, HO_5, HB⟩ := hrel
    cases gk with
    | zero => exact absurd HA.out (by simp [ambryref10_Drop.l0])
    | succ k1 =>
      have H := HA.out
      clear HA
      simp only [ambryref10_Drop.l0] at H
      by_cases c3 : x6_1 < (l0.length : Int)
      · rw [if_pos c3] at H
        have c3b0 : decide (x6_1 < (l0.length : Int)) = true := decide_eq_true c3
        clear c3
        by_cases c4 : 0 ≤ x6_1
        · rw [if_pos c4] at H
          have c4b0 : decide (0 ≤ x6_1) = true := decide_eq_true c4
          clear c4
          replace H := Option.bind_eq_some_iff.mp H
          obtain ⟨t306, A50, H⟩ := H
          replace H : (if t306 = true then (ambryref10_Drop.l0 k1 l0 a1 x5_1 (wrap64 (x6_1 + 1))) else (if x5_1.length < 4398046511104 then (ambryref10_Drop.l0 k1 l0 a1 (x5_1 ++ [(⟨(rd_T39 l0 x6_1).f0, (rd_T39 l0 x6_1).f1⟩ : S39)]) (wrap64 (x6_1 + 1))) else (none))) = some r := H
          have A5 := Aside0.mk A50
          clear A50
          by_cases c6 : t306 = true
          · subst c6
            have H1 : (ambryref10_Drop.l0 k1 l0 a1 x5_1 (wrap64 (x6_1 + 1))) = some r := by rw [if_pos rfl] at H; exact H
            clear H
            have H := H1
            clear H1
            have H' := Aside0.mk H
            clear H
            have p305 : 0 ≤ (x6_1 : Int) := of_decide_eq_true (by first | (with_reducible assumption) | assumption)
            have q305 : x6_1 < (l0.length : Int) := of_decide_eq_true (by first | (with_reducible assumption) | assumption)
            obtain ⟨ad305, e305, hx305_0, hx305_1⟩ := at_T39 HR0.out x6_1 p305 q305
            cases e305
            replace hx305_0 := (HB.out.cell (World.block_lt_of_cell? w _ hx305_0)).trans hx305_0
            replace hx305_1 := (HB.out.cell (World.block_lt_of_cell? w _ hx305_1)).trans hx305_1
            replace p305 := eq_true p305
            replace q305 := eq_true q305
            go_wp2_with (first | ((with_reducible refine gate_callee (f := 21) rfl ?_); refine goesL_ (some 19) rfl rfl Try.func21 (by kernel_rfl) rfl #[.string ((rd_T39 l0 x6_1).f0), .string a1] rfl (by (try simp only [List.map_toArray, List.map_cons, List.map_nil]); first | done | rfl | (simp only [List.length_drop, List.length_take]; rfl)) ?_; (with_reducible refine (ambryref10_Same.calls ((rd_T39 l0 x6_1).f0) a1 true _ A5.out).mono ?_); rintro e w7 ⟨rfl, hb⟩; refine ⟨_, rfl, ?_⟩; have n0_ := Aside0.mk (Kd.R_below (by (with_reducible repeat (first | apply Kd.R_alloc | apply Kd.R_drewN | apply Kd.R_drew)); exact HO_5.out) hb); have n1_ := Aside0.mk (below_step (by repeat (first | (with_reducible first | exact HB.out | apply below_alloc | apply pw_below_drewN | apply below_drew1) | exact HB.out)) hb); clear HO_5; clear HB; have HO_5 := n0_; have HB := n1_; clear n0_ n1_; (try clear hb); (try clear hb2); (try clear hk); (try clear hi)))
            go_roundg k1
            case measure => have := HK1.out; omega
            case rel => exact ⟨(x5_1), (wrap64 (x6_1 + 1)), (by first | rfl | (simp; done) | (simp [*]; done)), H', ⟨by have := HK1.out; omega⟩, ⟨by (with_reducible repeat (first | apply Kd.R_alloc | apply Kd.R_drewN | apply Kd.R_drew)); exact HO_5.out⟩, ⟨by repeat (first | (with_reducible first | exact HB.out | apply below_alloc | apply pw_below_drewN | apply below_drew1) | exact HB.out)⟩⟩
          · replace c6 := Bool.eq_false_iff.mpr c6
            subst c6
            have H1 : (if x5_1.length < 4398046511104 then (ambryref10_Drop.l0 k1 l0 a1 (x5_1 ++ [(⟨(rd_T39 l0 x6_1).f0, (rd_T39 l0 x6_1).f1⟩ : S39)]) (wrap64 (x6_1 + 1))) else (none)) = some r := by rw [if_neg (show ¬ (false = true) by decide)] at H; exact H
            clear H
            have H := H1
            clear H1
            by_cases c8 : x5_1.length < 4398046511104
            · rw [if_pos c8] at H
              have LMc8 := Aside0.mk c8
              clear c8
              obtain ⟨y308, hy308⟩ : ∃ y_ : List (S39), y_ = (x5_1 ++ [(⟨(rd_T39 l0 x6_1).f0, (rd_T39 l0 x6_1).f1⟩ : S39)]) := ⟨_, rfl⟩
              replace H : (ambryref10_Drop.l0 k1 l0 a1 y308 (wrap64 (x6_1 + 1))) = some r := by first | (rw [hy308]; with_reducible exact H) | (have H2_ := (Option.bind_some _ _).symm.trans H; rw [hy308]; with_reducible exact H2_) | (have H2_ := (Option.bind_some _ _).symm.trans H; with_reducible exact H2_) | with_reducible exact H | (rw [hy308]; exact H) | exact H
              have Ny308 := Aside0.mk hy308
              clear hy308
              have H' := Aside0.mk H
              clear H
              have p305 : 0 ≤ (x6_1 : Int) := of_decide_eq_true (by first | (with_reducible assumption) | assumption)
              have q305 : x6_1 < (l0.length : Int) := of_decide_eq_true (by first | (with_reducible assumption) | assumption)
              obtain ⟨ad305, e305, hx305_0, hx305_1⟩ := at_T39 HR0.out x6_1 p305 q305
              cases e305
              replace hx305_0 := (HB.out.cell (World.block_lt_of_cell? w _ hx305_0)).trans hx305_0
              replace hx305_1 := (HB.out.cell (World.block_lt_of_cell? w _ hx305_1)).trans hx305_1
              replace p305 := eq_true p305
              replace q305 := eq_true q305
              go_wp2_with (first | ((with_reducible refine gate_callee (f := 21) rfl ?_); refine goesL_ (some 19) rfl rfl Try.func21 (by kernel_rfl) rfl #[.string ((rd_T39 l0 x6_1).f0), .string a1] rfl (by (try simp only [List.map_toArray, List.map_cons, List.map_nil]); first | done | rfl | (simp only [List.length_drop, List.length_take]; rfl)) ?_; (with_reducible refine (ambryref10_Same.calls ((rd_T39 l0 x6_1).f0) a1 false _ A5.out).mono ?_); rintro e w9 ⟨rfl, hb⟩; refine ⟨_, rfl, ?_⟩; have n0_ := Aside0.mk (Kd.R_below (by (with_reducible repeat (first | apply Kd.R_alloc | apply Kd.R_drewN | apply Kd.R_drew)); exact HO_5.out) hb); have n1_ := Aside0.mk (below_step (by repeat (first | (with_reducible first | exact HB.out | apply below_alloc | apply pw_below_drewN | apply below_drew1) | exact HB.out)) hb); clear HO_5; clear HB; have HO_5 := n0_; have HB := n1_; clear n0_ n1_; (try clear hb); (try clear hb2); (try clear hk); (try clear hi); have p307 : 0 ≤ (x6_1 : Int) := of_decide_eq_true (by first | (with_reducible assumption) | assumption); have q307 : x6_1 < (l0.length : Int) := of_decide_eq_true (by first | (with_reducible assumption) | assumption); obtain ⟨ad307, e307, hx307_0, hx307_1⟩ := at_T39 HR0.out x6_1 p307 q307; obtain rfl : ad305 = ad307 := (by injection e307); replace hx307_0 := (HB.out.cell (World.block_lt_of_cell? w _ hx307_0)).trans hx307_0; replace hx307_1 := (HB.out.cell (World.block_lt_of_cell? w _ hx307_1)).trans hx307_1; replace p307 := eq_true p307; replace q307 := eq_true q307) | ((with_reducible refine gate_builtin (b := .append) (xs := #[.tmp 21, .tmp 26]) rfl ?_); at_builtin; refine Kd.R_append k39 (w0 := w) w.heap.size rfl (.tmp 21) (.tmp 26) 25 39 (.agg #[(.string ⟨#[]⟩), (.string ⟨#[]⟩)]) 32 rfl Try.underlying25 info39 rfl (by decide) (by omega) u5 x5_1 (⟨(rd_T39 l0 x6_1).f0, (rd_T39 l0 x6_1).f1⟩ : S39) [.string ((rd_T39 l0 x6_1).f0), .string ((rd_T39 l0 x6_1).f1)] (fun _ => True) (fun _ => False) rfl rfl ?aP (fun _ hk => hk.elim) ?aF ?aO ?aB ?aS ?aL ?_; (case aP => exact k39_mkM _ _ _ (⟨(rd_T39 l0 x6_1).f0, (rd_T39 l0 x6_1).f1⟩ : S39)); (case aB => exact (by repeat (first | (with_reducible first | exact HB.out | apply below_alloc | apply pw_below_drewN | apply below_drew1) | exact HB.out))); (case aF => exact (fun _ _ => trivial)); (case aO => exact (by (with_reducible repeat (first | apply Kd.R_alloc | apply Kd.R_drewN | apply Kd.R_drew)); exact HO_5.out)); (case aS => exact (below_size (by repeat (first | (with_reducible first | exact HB.out | apply below_alloc | apply pw_below_drewN | apply below_drew1) | exact HB.out)))); (case aL => have := LMc8.out; omega); intro v309 w10 ho hb hg hat; rw [← Ny308.out] at ho; have n0_ := Aside0.mk (hb); have n1_ := Aside0.mk (ho); clear HB; clear HO_5; have HB := n0_; have HO310 := n1_; clear n0_ n1_; clear ho hb hg hat))
              go_roundg k1
              case measure => have := HK1.out; omega
              case rel => exact ⟨(y308), (wrap64 (x6_1 + 1)), (by first | rfl | (simp; done) | (simp [*]; done)), H', ⟨by have := HK1.out; omega⟩, ⟨by (with_reducible repeat (first | apply Kd.R_alloc | apply Kd.R_drewN | apply Kd.R_drew)); exact HO310.out⟩, ⟨by repeat (first | (with_reducible first | exact HB.out | apply below_alloc | apply pw_below_drewN | apply below_drew1) | exact HB.out)⟩⟩
            · rw [if_neg c8] at H
              exact absurd H (by simp)
        · rw [if_neg c4] at H
          exact absurd H (by simp)
      · rw [if_neg c3] at H
        have c3b0 : decide (x6_1 < (l0.length : Int)) = false := decide_eq_false c3
        clear c3
        obtain rfl := Option.some.inj H
        go_wp2
        go_ret
        exact ⟨_, by first | rfl | (simp [errW_none, errW_some] <;> rfl) | (simp [*, errW_none, errW_some] <;> rfl), by (with_reducible repeat (first | apply Kd.R_alloc | apply Kd.R_drewN | apply Kd.R_drew)); exact HO_5.out, by repeat (first | (with_reducible first | exact HB.out | apply below_alloc | apply pw_below_drewN | apply below_drew1) | exact HB.out)⟩

/-! ### head_Set: function 35 -/
def head_Set.f (l0 : List (S39)) (a1 : ByteArray) (a2 : ByteArray) : Option ((List (S39))) := (head_Drop.f l0 a1).bind fun t311 => (if t311.length < 4398046511104 then (some (t311 ++ [(⟨a1, a2⟩ : S39)])) else (none))
set_option maxHeartbeats 8000000 in
set_option maxRecDepth 100000 in
theorem head_Set.calls (A0 : Option Addr) (c0 : Nat) (l0 : List (S39)) (a1 : ByteArray) (a2 : ByteArray) (r : List (S39)) (w : World) (hr0 : Kd.C k39 w A0 l0.length l0) (hc0 : l0.length ≤ c0) (h : head_Set.f l0 a1 a2 = some r) :
    Calls Try.prog 35 #[.slice A0 l0.length c0, .string a1, .string a2] w fun e w' => ∃ v0_ : Value, e = .returned (v0_) ∧ Kd.R k39 39 w' w.heap.size (fun _ => True) v0_ r ∧ Below w.heap.size w w' := by
  have hu39 := Try.underlying39
  have HR0 := Aside0.mk hr0
  have HC0 := Aside0.mk hc0
  clear hr0 hc0
  have HB := Aside0.mk (Below.refl w.heap.size w)
  have H : ((head_Drop.f l0 a1).bind fun t311 => (if t311.length < 4398046511104 then (some (t311 ++ [(⟨a1, a2⟩ : S39)])) else (none))) = some r := h
  clear h
  replace H := Option.bind_eq_some_iff.mp H
  obtain ⟨t311, A40, H⟩ := H
  replace H : (if t311.length < 4398046511104 then (some (t311 ++ [(⟨a1, a2⟩ : S39)])) else (none)) = some r := H
  have A4 := Aside0.mk A40
  clear A40
  by_cases c5 : t311.length < 4398046511104
  · rw [if_pos c5] at H
    have LMc5 := Aside0.mk c5
    clear c5
    obtain ⟨y314, hy314⟩ : ∃ y_ : List (S39), y_ = (t311 ++ [(⟨a1, a2⟩ : S39)]) := ⟨_, rfl⟩
    replace H : (some y314) = some r := by first | (rw [hy314]; with_reducible exact H) | (have H2_ := (Option.bind_some _ _).symm.trans H; rw [hy314]; with_reducible exact H2_) | (have H2_ := (Option.bind_some _ _).symm.trans H; with_reducible exact H2_) | with_reducible exact H | (rw [hy314]; exact H) | exact H
    have Ny314 := Aside0.mk hy314
    clear hy314
    obtain rfl := Option.some.inj H
    go_enter Try.func35, Try.ntmps35
    go_wp2_with (first | ((with_reducible refine gate_callee (f := 33) rfl ?_); refine goesL_ (some 9) rfl rfl Try.func33 (by kernel_rfl) rfl #[.slice A0 l0.length c0, .string a1] rfl (by (try simp only [List.map_toArray, List.map_cons, List.map_nil]); first | done | rfl | (simp only [List.length_drop, List.length_take]; rfl)) ?_; (with_reducible refine (head_Drop.calls _ _ l0 a1 t311 _ ?side1 ?side2 A4.out).mono ?_); (case side1 => repeat (first | exact HR0.out | (with_reducible refine Kd.C_alloc ?_ _) | (with_reducible refine Kd.C_drewN ?_ _) | (with_reducible refine Kd.C_drew ?_))); (case side2 => exact HC0.out); rintro e w6 ⟨v312, rfl, ho0, hb⟩; refine ⟨_, rfl, ?_⟩; have n0_ := Aside0.mk (Kd.R_lower ho0 (below_size (by repeat (first | (with_reducible first | exact HB.out | apply below_alloc | apply pw_below_drewN | apply below_drew1) | exact HB.out)))); have n1_ := Aside0.mk (below_step (by repeat (first | (with_reducible first | exact HB.out | apply below_alloc | apply pw_below_drewN | apply below_drew1) | exact HB.out)) hb); clear HB; have HO313 := n0_; have HB := n1_; clear n0_ n1_; (try clear hb); (try clear hb2); (try clear hk); (try clear hi); (try clear ho0)) | ((with_reducible refine gate_builtin (b := .append) (xs := #[.tmp 9, .tmp 13]) rfl ?_); at_builtin; refine Kd.R_append k39 (w0 := w) w.heap.size rfl (.tmp 9) (.tmp 13) 25 39 (.agg #[(.string ⟨#[]⟩), (.string ⟨#[]⟩)]) 32 rfl Try.underlying25 info39 rfl (by decide) (by omega) v312 t311 (⟨a1, a2⟩ : S39) [.string a1, .string a2] (fun _ => True) (fun _ => False) rfl rfl ?aP (fun _ hk => hk.elim) ?aF ?aO ?aB ?aS ?aL ?_; (case aP => exact k39_mkM _ _ _ (⟨a1, a2⟩ : S39)); (case aB => exact (by repeat (first | (with_reducible first | exact HB.out | apply below_alloc | apply pw_below_drewN | apply below_drew1) | exact HB.out))); (case aF => exact (fun _ _ => trivial)); (case aO => exact (by (with_reducible repeat (first | apply Kd.R_alloc | apply Kd.R_drewN | apply Kd.R_drew)); exact HO313.out)); (case aS => exact (below_size (by repeat (first | (with_reducible first | exact HB.out | apply below_alloc | apply pw_below_drewN | apply below_drew1) | exact HB.out)))); (case aL => have := LMc5.out; omega); intro v315 w7 ho hb hg hat; rw [← Ny314.out] at ho; have n0_ := Aside0.mk (hb); have n1_ := Aside0.mk (ho); clear HB; clear HO313; have HB := n0_; have HO316 := n1_; clear n0_ n1_; clear ho hb hg hat))
    go_ret
    exact ⟨_, by first | rfl | (simp [errW_none, errW_some] <;> rfl) | (simp [*, errW_none, errW_some] <;> rfl), by (with_reducible repeat (first | apply Kd.R_alloc | apply Kd.R_drewN | apply Kd.R_drew)); exact HO316.out, by repeat (first | (with_reducible first | exact HB.out | apply below_alloc | apply pw_below_drewN | apply below_drew1) | exact HB.out)⟩
  · rw [if_neg c5] at H
    exact absurd H (by simp)

/-! ### ambryref10_Set: function 36 -/
def ambryref10_Set.f (k : Nat) (l0 : List (S39)) (a1 : ByteArray) (a2 : ByteArray) : Option ((List (S39))) := (ambryref10_Drop.f k l0 a1).bind fun t317 => (if t317.length < 4398046511104 then (some (t317 ++ [(⟨a1, a2⟩ : S39)])) else (none))
theorem ambryref10_Set.mono : ∀ a0 a1 a2 k, LeO (ambryref10_Set.f k a0 a1 a2) (ambryref10_Set.f (k + 1) a0 a1 a2) := by
  intro a0 a1 a2 k
  unfold ambryref10_Set.f
  repeat' first
      | (with_reducible exact ambryref10_Drop.mono _ _ _)
      | (with_reducible exact LeO.refl _)
      | (with_reducible exact LeO.none _)
      | (with_reducible refine LeO.ite ?_ ?_)
      | (with_reducible refine LeO.bind ?_ (fun _ => ?_))
      | exact ambryref10_Drop.mono _ _ _
      | exact LeO.none _
      | refine LeO.ite ?_ ?_
      | refine LeO.bind ?_ (fun _ => ?_)
set_option maxHeartbeats 8000000 in
set_option maxRecDepth 100000 in
theorem ambryref10_Set.calls (k : Nat) (A0 : Option Addr) (c0 : Nat) (l0 : List (S39)) (a1 : ByteArray) (a2 : ByteArray) (r : List (S39)) (w : World) (hr0 : Kd.C k39 w A0 l0.length l0) (hc0 : l0.length ≤ c0) (h : ambryref10_Set.f k l0 a1 a2 = some r) :
    Calls Try.prog 36 #[.slice A0 l0.length c0, .string a1, .string a2] w fun e w' => ∃ v0_ : Value, e = .returned (v0_) ∧ Kd.R k39 39 w' w.heap.size (fun _ => True) v0_ r ∧ Below w.heap.size w w' := by
  have hu39 := Try.underlying39
  have HR0 := Aside0.mk hr0
  have HC0 := Aside0.mk hc0
  clear hr0 hc0
  have HB := Aside0.mk (Below.refl w.heap.size w)
  have H : ((ambryref10_Drop.f k l0 a1).bind fun t317 => (if t317.length < 4398046511104 then (some (t317 ++ [(⟨a1, a2⟩ : S39)])) else (none))) = some r := h
  clear h
  replace H := Option.bind_eq_some_iff.mp H
  obtain ⟨t317, A40, H⟩ := H
  replace H : (if t317.length < 4398046511104 then (some (t317 ++ [(⟨a1, a2⟩ : S39)])) else (none)) = some r := H
  have A4 := Aside0.mk A40
  clear A40
  by_cases c5 : t317.length < 4398046511104
  · rw [if_pos c5] at H
    have LMc5 := Aside0.mk c5
    clear c5
    obtain ⟨y320, hy320⟩ : ∃ y_ : List (S39), y_ = (t317 ++ [(⟨a1, a2⟩ : S39)]) := ⟨_, rfl⟩
    replace H : (some y320) = some r := by first | (rw [hy320]; with_reducible exact H) | (have H2_ := (Option.bind_some _ _).symm.trans H; rw [hy320]; with_reducible exact H2_) | (have H2_ := (Option.bind_some _ _).symm.trans H; with_reducible exact H2_) | with_reducible exact H | (rw [hy320]; exact H) | exact H
    have Ny320 := Aside0.mk hy320
    clear hy320
    obtain rfl := Option.some.inj H
    go_enter Try.func36, Try.ntmps36
    go_wp2_with (first | ((with_reducible refine gate_callee (f := 34) rfl ?_); refine goesL_ (some 9) rfl rfl Try.func34 (by kernel_rfl) rfl #[.slice A0 l0.length c0, .string a1] rfl (by (try simp only [List.map_toArray, List.map_cons, List.map_nil]); first | done | rfl | (simp only [List.length_drop, List.length_take]; rfl)) ?_; (with_reducible refine (ambryref10_Drop.calls k _ _ l0 a1 t317 _ ?side1 ?side2 A4.out).mono ?_); (case side1 => repeat (first | exact HR0.out | (with_reducible refine Kd.C_alloc ?_ _) | (with_reducible refine Kd.C_drewN ?_ _) | (with_reducible refine Kd.C_drew ?_))); (case side2 => exact HC0.out); rintro e w6 ⟨v318, rfl, ho0, hb⟩; refine ⟨_, rfl, ?_⟩; have n0_ := Aside0.mk (Kd.R_lower ho0 (below_size (by repeat (first | (with_reducible first | exact HB.out | apply below_alloc | apply pw_below_drewN | apply below_drew1) | exact HB.out)))); have n1_ := Aside0.mk (below_step (by repeat (first | (with_reducible first | exact HB.out | apply below_alloc | apply pw_below_drewN | apply below_drew1) | exact HB.out)) hb); clear HB; have HO319 := n0_; have HB := n1_; clear n0_ n1_; (try clear hb); (try clear hb2); (try clear hk); (try clear hi); (try clear ho0)) | ((with_reducible refine gate_builtin (b := .append) (xs := #[.tmp 9, .tmp 13]) rfl ?_); at_builtin; refine Kd.R_append k39 (w0 := w) w.heap.size rfl (.tmp 9) (.tmp 13) 25 39 (.agg #[(.string ⟨#[]⟩), (.string ⟨#[]⟩)]) 32 rfl Try.underlying25 info39 rfl (by decide) (by omega) v318 t317 (⟨a1, a2⟩ : S39) [.string a1, .string a2] (fun _ => True) (fun _ => False) rfl rfl ?aP (fun _ hk => hk.elim) ?aF ?aO ?aB ?aS ?aL ?_; (case aP => exact k39_mkM _ _ _ (⟨a1, a2⟩ : S39)); (case aB => exact (by repeat (first | (with_reducible first | exact HB.out | apply below_alloc | apply pw_below_drewN | apply below_drew1) | exact HB.out))); (case aF => exact (fun _ _ => trivial)); (case aO => exact (by (with_reducible repeat (first | apply Kd.R_alloc | apply Kd.R_drewN | apply Kd.R_drew)); exact HO319.out)); (case aS => exact (below_size (by repeat (first | (with_reducible first | exact HB.out | apply below_alloc | apply pw_below_drewN | apply below_drew1) | exact HB.out)))); (case aL => have := LMc5.out; omega); intro v321 w7 ho hb hg hat; rw [← Ny320.out] at ho; have n0_ := Aside0.mk (hb); have n1_ := Aside0.mk (ho); clear HB; clear HO319; have HB := n0_; have HO322 := n1_; clear n0_ n1_; clear ho hb hg hat))
    go_ret
    exact ⟨_, by first | rfl | (simp [errW_none, errW_some] <;> rfl) | (simp [*, errW_none, errW_some] <;> rfl), by (with_reducible repeat (first | apply Kd.R_alloc | apply Kd.R_drewN | apply Kd.R_drew)); exact HO322.out, by repeat (first | (with_reducible first | exact HB.out | apply below_alloc | apply pw_below_drewN | apply below_drew1) | exact HB.out)⟩
  · rw [if_neg c5] at H
    exact absurd H (by simp)

/-! ### ambryref10_Lines: function 37 -/
def ambryref10_Lines.l0 : Nat → List (S39) → ByteArray → Int → Option (ByteArray)
  | 0, _, _, _ => none
  | k + 1, x0, x3, x4 => if x4 < (x0.length : Int) then (if 0 ≤ x4 then (if x3.size + ((rd_T39 x0 x4).f0).size ≤ 9223372036854775807 then (if (x3 ++ ((rd_T39 x0 x4).f0)).size + 2 ≤ 9223372036854775807 then (if ((x3 ++ ((rd_T39 x0 x4).f0)) ++ (⟨#[58, 32]⟩ : ByteArray)).size + ((rd_T39 x0 x4).f1).size ≤ 9223372036854775807 then (if (((x3 ++ ((rd_T39 x0 x4).f0)) ++ (⟨#[58, 32]⟩ : ByteArray)) ++ ((rd_T39 x0 x4).f1)).size + 2 ≤ 9223372036854775807 then (ambryref10_Lines.l0 k x0 ((((x3 ++ ((rd_T39 x0 x4).f0)) ++ (⟨#[58, 32]⟩ : ByteArray)) ++ ((rd_T39 x0 x4).f1)) ++ (⟨#[13, 10]⟩ : ByteArray)) (wrap64 (x4 + 1))) else (none)) else (none)) else (none)) else (none)) else (none)) else (some x3)
def ambryref10_Lines.f (k : Nat) (l0 : List (S39)) : Option (ByteArray) := ambryref10_Lines.l0 k l0 (⟨#[]⟩ : ByteArray) 0
theorem ambryref10_Lines.mono_l : ∀ k, (∀ y0 y1 y2, LeO (ambryref10_Lines.l0 k y0 y1 y2) (ambryref10_Lines.l0 (k + 1) y0 y1 y2))
  | 0 => fun _ _ _ r h => by simp [ambryref10_Lines.l0] at h
  | k + 1 => by
    have ih0 := ambryref10_Lines.mono_l k
    · intro y0 y1 y2
      unfold ambryref10_Lines.l0
      repeat' first
      | (with_reducible exact ih0 _ _ _)
      | (with_reducible exact LeO.refl _)
      | (with_reducible exact LeO.none _)
      | (with_reducible refine LeO.ite ?_ ?_)
      | (with_reducible refine LeO.bind ?_ (fun _ => ?_))
      | exact ih0 _ _ _
      | exact LeO.none _
      | refine LeO.ite ?_ ?_
      | refine LeO.bind ?_ (fun _ => ?_)
theorem ambryref10_Lines.mono : ∀ a0 k, LeO (ambryref10_Lines.f k a0) (ambryref10_Lines.f (k + 1) a0) := by
  intro a0 k
  have ih0 := ambryref10_Lines.mono_l k
  unfold ambryref10_Lines.f
  repeat' first
      | (with_reducible exact ih0 _ _ _)
      | (with_reducible exact LeO.refl _)
      | (with_reducible exact LeO.none _)
      | (with_reducible refine LeO.ite ?_ ?_)
      | (with_reducible refine LeO.bind ?_ (fun _ => ?_))
      | exact ih0 _ _ _
      | exact LeO.none _
      | refine LeO.ite ?_ ?_
      | refine LeO.bind ?_ (fun _ => ?_)
set_option maxHeartbeats 8000000 in
set_option maxRecDepth 100000 in
theorem ambryref10_Lines.calls (k : Nat) (A0 : Option Addr) (c0 : Nat) (l0 : List (S39)) (r : ByteArray) (w : World) (hr0 : Kd.C k39 w A0 l0.length l0) (hc0 : l0.length ≤ c0) (h : ambryref10_Lines.f k l0 = some r) :
    Calls Try.prog 37 #[.slice A0 l0.length c0] w fun e w' => e = .returned (.string r) ∧ Drawn0 w w' := by
  have HR0 := Aside0.mk hr0
  have HC0 := Aside0.mk hc0
  clear hr0 hc0
  have H : (ambryref10_Lines.l0 k l0 (⟨#[]⟩ : ByteArray) 0) = some r := h
  clear h
  have H' := Aside0.mk H
  clear H
  go_enter Try.func37, Try.ntmps37
  go_wp2
  repeat (go_quiet (fail); try go_wp2)
  go_loopg [3, 4] k (fun kq v3 v4 w' => ∃ (x3_1 : ByteArray) (x4_1 : Int), v3 = .string x3_1 ∧ v4 = .int .i64 x4_1 ∧ Aside0 (ambryref10_Lines.l0 kq l0 x3_1 x4_1 = some r) ∧ Aside0 (kq ≤ k) ∧ Drawn0 w w')
  case atStart => exact ⟨((⟨#[]⟩ : ByteArray)), (0), (by first | rfl | (simp; done) | (simp [*]; done)), (by first | rfl | (simp; done) | (simp [*]; done)), H', ⟨Nat.le_refl _⟩, by repeat (first | exact Drawn0.refl _ | apply Drawn0.step)⟩
  case round =>
    clear H'
    obtain ⟨x3_1, x4_1, rfl, rfl, HA, HK1, ⟨m1, rfl⟩⟩ := hrel
    cases gk with
    | zero => exact absurd HA.out (by simp [ambryref10_Lines.l0])
    | succ k1 =>
      have H := HA.out
      clear HA
      simp only [ambryref10_Lines.l0] at H
      by_cases c2 : x4_1 < (l0.length : Int)
      · rw [if_pos c2] at H
        have c2b0 : decide (x4_1 < (l0.length : Int)) = true := decide_eq_true c2
        clear c2
        by_cases c3 : 0 ≤ x4_1
        · rw [if_pos c3] at H
          have c3b0 : decide (0 ≤ x4_1) = true := decide_eq_true c3
          clear c3
          by_cases c4 : x3_1.size + ((rd_T39 l0 x4_1).f0).size ≤ 9223372036854775807
          · rw [if_pos c4] at H
            have c4b0 := eq_true c4
            have c4b1 : decide (x3_1.size + ((rd_T39 l0 x4_1).f0).size ≤ 9223372036854775807) = true := decide_eq_true c4
            try have c4b2 : (9223372036854775807 < x3_1.size + ((rd_T39 l0 x4_1).f0).size) = False := eq_false (Nat.not_lt.2 c4)
            by_cases c5 : (x3_1 ++ ((rd_T39 l0 x4_1).f0)).size + 2 ≤ 9223372036854775807
            · rw [if_pos c5] at H
              have c5b0 := eq_true c5
              have c5b1 : decide ((x3_1 ++ ((rd_T39 l0 x4_1).f0)).size + 2 ≤ 9223372036854775807) = true := decide_eq_true c5
              try have c5b2 : (9223372036854775807 < (x3_1 ++ ((rd_T39 l0 x4_1).f0)).size + 2) = False := eq_false (Nat.not_lt.2 c5)
              try (have c5d := Nat.not_lt.2 c5; simp only [ByteArray.size_append, Nat.reduceAdd] at c5d; replace c5d := eq_false c5d)
              by_cases c6 : ((x3_1 ++ ((rd_T39 l0 x4_1).f0)) ++ (⟨#[58, 32]⟩ : ByteArray)).size + ((rd_T39 l0 x4_1).f1).size ≤ 9223372036854775807
              · rw [if_pos c6] at H
                have c6b0 := eq_true c6
                have c6b1 : decide (((x3_1 ++ ((rd_T39 l0 x4_1).f0)) ++ (⟨#[58, 32]⟩ : ByteArray)).size + ((rd_T39 l0 x4_1).f1).size ≤ 9223372036854775807) = true := decide_eq_true c6
                try have c6b2 : (9223372036854775807 < ((x3_1 ++ ((rd_T39 l0 x4_1).f0)) ++ (⟨#[58, 32]⟩ : ByteArray)).size + ((rd_T39 l0 x4_1).f1).size) = False := eq_false (Nat.not_lt.2 c6)
                try (have c6d := Nat.not_lt.2 c6; simp only [ByteArray.size_append, (show (⟨#[58, 32]⟩ : ByteArray).size = 2 from rfl), Nat.reduceAdd] at c6d; replace c6d := eq_false c6d)
                by_cases c7 : (((x3_1 ++ ((rd_T39 l0 x4_1).f0)) ++ (⟨#[58, 32]⟩ : ByteArray)) ++ ((rd_T39 l0 x4_1).f1)).size + 2 ≤ 9223372036854775807
                · rw [if_pos c7] at H
                  have c7b0 := eq_true c7
                  have c7b1 : decide ((((x3_1 ++ ((rd_T39 l0 x4_1).f0)) ++ (⟨#[58, 32]⟩ : ByteArray)) ++ ((rd_T39 l0 x4_1).f1)).size + 2 ≤ 9223372036854775807) = true := decide_eq_true c7
                  try have c7b2 : (9223372036854775807 < (((x3_1 ++ ((rd_T39 l0 x4_1).f0)) ++ (⟨#[58, 32]⟩ : ByteArray)) ++ ((rd_T39 l0 x4_1).f1)).size + 2) = False := eq_false (Nat.not_lt.2 c7)
                  try (have c7d := Nat.not_lt.2 c7; simp only [ByteArray.size_append, (show (⟨#[58, 32]⟩ : ByteArray).size = 2 from rfl), Nat.reduceAdd] at c7d; replace c7d := eq_false c7d)
                  have H' := Aside0.mk H
                  clear H
                  have p323 : 0 ≤ (x4_1 : Int) := of_decide_eq_true (by first | (with_reducible assumption) | assumption)
                  have q323 : x4_1 < (l0.length : Int) := of_decide_eq_true (by first | (with_reducible assumption) | assumption)
                  obtain ⟨ad323, e323, hx323_0, hx323_1⟩ := at_T39 HR0.out x4_1 p323 q323
                  cases e323
                  replace p323 := eq_true p323
                  replace q323 := eq_true q323
                  have p324 : 0 ≤ (x4_1 : Int) := of_decide_eq_true (by first | (with_reducible assumption) | assumption)
                  have q324 : x4_1 < (l0.length : Int) := of_decide_eq_true (by first | (with_reducible assumption) | assumption)
                  obtain ⟨ad324, e324, hx324_0, hx324_1⟩ := at_T39 HR0.out x4_1 p324 q324
                  obtain rfl : ad323 = ad324 := (by injection e324)
                  replace p324 := eq_true p324
                  replace q324 := eq_true q324
                  go_wp2
                  repeat (go_quiet (fail); try go_wp2)
                  go_roundg k1
                  case measure => have := HK1.out; omega
                  case rel => exact ⟨((((x3_1 ++ ((rd_T39 l0 x4_1).f0)) ++ (⟨#[58, 32]⟩ : ByteArray)) ++ ((rd_T39 l0 x4_1).f1)) ++ (⟨#[13, 10]⟩ : ByteArray)), (wrap64 (x4_1 + 1)), (by first | rfl | (simp; done) | (simp [*]; done)), (by first | rfl | (simp; done) | (simp [*]; done)), H', ⟨by have := HK1.out; omega⟩, by repeat (first | exact Drawn0.refl _ | apply Drawn0.step)⟩
                · rw [if_neg c7] at H
                  exact absurd H (by simp)
              · rw [if_neg c6] at H
                exact absurd H (by simp)
            · rw [if_neg c5] at H
              exact absurd H (by simp)
          · rw [if_neg c4] at H
            exact absurd H (by simp)
        · rw [if_neg c3] at H
          exact absurd H (by simp)
      · rw [if_neg c2] at H
        have c2b0 : decide (x4_1 < (l0.length : Int)) = false := decide_eq_false c2
        clear c2
        obtain rfl := Option.some.inj H
        go_wp2
        repeat (go_quiet (fail); try go_wp2)
        go_ret
        exact ⟨by first | rfl | (simp; done) | (simp [*]; done) | (simp; exact Leaf.ne_nil_bool _), by repeat (first | exact Drawn0.refl _ | apply Drawn0.step)⟩

end Go.Proofs.Ytbnilemmgmhbfaa.H
