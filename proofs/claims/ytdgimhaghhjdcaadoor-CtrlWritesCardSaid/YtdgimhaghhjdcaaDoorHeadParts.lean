/- Parts of values: cut at commas that aren't within quotes; lines of fields; what goes one hop alone. -/
import Derived.Test.YtdgimhaghhjdcaaDoorGx0
import Derived.Test.YtdgimhaghhjdcaaDoorGx2
import Derived.Test.YtdgimhaghhjdcaaDoorGx7
import Derived.Test.YtdgimhaghhjdcaaDoorHeadLists
set_option linter.unusedVariables false
set_option linter.unusedSimpArgs false
namespace Go.Proofs.YtdgimhaghhjdcaaDoor.Plain
open Go.RowKit Go.Proofs.YtdgimhaghhjdcaaDoor.G Go.Proofs.YtdgimhaghhjdcaaDoorW.PrintWords

def cutsP (s : ByteArray) (b : Nat) (q : Bool) (i : Nat) : List ByteArray :=
  if i < s.size then
    if q = true ∧ (bytesOf s).getD i 0 = 92 then cutsP s b q (i + 2)
    else if (bytesOf s).getD i 0 = 34 then cutsP s b (!q) (i + 1)
    else if (bytesOf s).getD i 0 = 44 ∧ q = false then s.extract b i :: cutsP s (i + 1) q (i + 1)
    else cutsP s b q (i + 1)
  else [s.extract b s.size]
termination_by s.size - i
theorem cuts_size (s : ByteArray) : ∀ (m b : Nat) (q : Bool) (i : Nat), s.size - i ≤ m → ∀ x ∈ cutsP s b q i, x.size ≤ s.size := by
  intro m
  induction m with
  | zero =>
    intro b q i h x hx
    rw [cutsP, if_neg (by omega), List.mem_singleton] at hx
    rw [hx]; exact extract_size s _ _
  | succ m ih =>
    intro b q i h x hx
    rw [cutsP] at hx
    split at hx
    · split at hx
      · exact ih _ _ _ (by omega) x hx
      · split at hx
        · exact ih _ _ _ (by omega) x hx
        · split at hx
          · rcases List.mem_cons.1 hx with rfl | hx
            · exact extract_size s _ _
            · exact ih _ _ _ (by omega) x hx
          · exact ih _ _ _ (by omega) x hx
    · rw [List.mem_singleton.1 hx]; exact extract_size s _ _
theorem cuts_length (s : ByteArray) : ∀ (m b : Nat) (q : Bool) (i : Nat), s.size - i ≤ m → (cutsP s b q i).length ≤ m + 1 := by
  intro m
  induction m with
  | zero => intro b q i h; rw [cutsP, if_neg (by omega)]; exact Nat.le_refl _
  | succ m ih =>
    intro b q i h
    rw [cutsP]
    split
    · split
      · exact Nat.le_succ_of_le (ih _ _ _ (by omega))
      · split
        · exact Nat.le_succ_of_le (ih _ _ _ (by omega))
        · split
          · rw [List.length_cons]; exact Nat.succ_le_succ (ih _ _ _ (by omega))
          · exact Nat.le_succ_of_le (ih _ _ _ (by omega))
    · simp
theorem cut_head (s : ByteArray) (hs : s.size ≤ 1000000) : Ev (fun k => head_cut.f k s) (cutsP s 0 false 0) := by
  have key : ∀ (m i : Nat), s.size - i ≤ m → i ≤ s.size + 1 → ∀ (acc : List ByteArray) (b : Nat) (q : Bool), acc.length ≤ i → b ≤ i → b ≤ s.size → Ev (fun k => head_cut.l0 k s acc (b : Int) q (i : Int)) (acc ++ cutsP s b q i) := by
    intro m
    induction m with
    | zero =>
      intro i h hi acc b q ha hb hbs
      refine Ev.step (fun k => head_cut.l0.eq_2 s acc (b : Int) q (i : Int) k) (ev_neg (by omega) (ev_pos (by omega) (ev_pos (by omega) (ev_pos (by omega) (ev_ret ?_)))))
      rw [cutsP, if_neg (by omega), Int.toNat_natCast]
    | succ m ih =>
      intro i h hi acc b q ha hb hbs
      by_cases hlt : i < s.size
      · refine Ev.step (fun k => head_cut.l0.eq_2 s acc (b : Int) q (i : Int) k) (ev_pos (by omega) (ev_pos (by omega) ?_))
        rw [bt_nat, cutsP, if_pos hlt]
        generalize hc : (bytesOf s).getD i 0 = c
        have w1 : wrap64 ((i : Int) + 1) = ((i + 1 : Nat) : Int) := wrap_succ (by omega)
        have w2 : wrap64 (((i + 1 : Nat) : Int) + 1) = ((i + 2 : Nat) : Int) := wrap_succ (by omega)
        have hrest : ¬ (q = true ∧ c = 92) → Ev (fun k => head_cut.j1 k s acc (b : Int) q (i : Int) c false) (acc ++ (if c = 34 then cutsP s b (!q) (i + 1) else if c = 44 ∧ q = false then s.extract b i :: cutsP s (i + 1) q (i + 1) else cutsP s b q (i + 1))) := by
          intro hn
          refine Ev.step (fun k => head_cut.j1.eq_2 s acc (b : Int) q (i : Int) c false k) (ev_neg (by decide) ?_)
          rw [w1]
          by_cases h34 : c = 34
          · rw [if_pos h34]; exact ev_pos h34 (ih _ (by omega) (by omega) acc b _ (by omega) (by omega) hbs)
          rw [if_neg h34]
          refine ev_neg h34 ?_
          by_cases h44 : c = 44
          · refine ev_pos h44 ?_
            cases q with
            | true => rw [if_neg (by simp)]; exact ev_pos rfl (ih _ (by omega) (by omega) acc b _ (by omega) (by omega) hbs)
            | false =>
              rw [if_pos ⟨h44, rfl⟩]
              refine ev_neg (by decide) (ev_pos (by omega) (ev_pos (by omega) (ev_pos (by omega) (ev_pos (by omega) ?_))))
              rw [Int.toNat_natCast, Int.toNat_natCast]
              refine ev_eq (ih (i + 1) (by omega) (by omega) _ (i + 1) false (by rw [List.length_append, List.length_singleton]; omega) (by omega) (by omega)) ?_
              rw [List.append_assoc]; rfl
          · rw [if_neg (fun h => h44 h.1)]
            exact ev_neg h44 (ih _ (by omega) (by omega) acc b _ (by omega) (by omega) hbs)
        cases q with
        | true =>
          refine ev_pos rfl ?_
          by_cases h92 : c = 92
          · rw [if_pos ⟨rfl, h92⟩, h92]
            refine Ev.step (fun k => head_cut.j1.eq_2 s acc (b : Int) true (i : Int) 92 _ k) (ev_pos (by decide) ?_)
            rw [w1, w2]
            exact ih _ (by omega) (by omega) acc b _ (by omega) (by omega) hbs
          · rw [if_neg (fun h => h92 h.2), beq_false_of_ne h92]
            exact hrest (fun h => h92 h.2)
        | false =>
          rw [if_neg (fun h => by cases h.1)]
          exact ev_neg (by decide) (hrest (fun h => by cases h.1))
      · refine Ev.step (fun k => head_cut.l0.eq_2 s acc (b : Int) q (i : Int) k) (ev_neg (by omega) (ev_pos (by omega) (ev_pos (by omega) (ev_pos (by omega) (ev_ret ?_)))))
        rw [cutsP, if_neg (by omega), Int.toNat_natCast]
  exact Ev.congr (fun k => head_cut.f.eq_1 k s) (key s.size 0 (by omega) (by omega) [] 0 false (Nat.le_refl _) (Nat.le_refl _) (Nat.zero_le _))
def kept (l : List ByteArray) : List ByteArray := (l.map trimB).filter fun t => !(bytesOf t).isEmpty
def partsL (vs : List ByteArray) : List ByteArray := vs.flatMap fun v => kept (cutsP v 0 false 0)
theorem kept_cons (x : ByteArray) (l : List ByteArray) : kept (x :: l) = if bytesOf (trimB x) = [] then kept l else trimB x :: kept l := by
  unfold kept
  rw [List.map_cons, List.filter_cons]
  cases bytesOf (trimB x) <;> rfl
theorem kept_length (l : List ByteArray) : (kept l).length ≤ l.length := Nat.le_trans (List.length_filter_le _ _) (by rw [List.length_map]; exact Nat.le_refl _)
theorem parts_length (C : Nat) : ∀ vs : List ByteArray, (∀ v ∈ vs, v.size + 1 ≤ C) → (partsL vs).length ≤ vs.length * C := by
  intro vs
  induction vs with
  | nil => intro _; exact Nat.zero_le _
  | cons v vs ih =>
    intro h
    have h1 : (partsL (v :: vs)).length = (kept (cutsP v 0 false 0)).length + (partsL vs).length := by
      show (kept (cutsP v 0 false 0) ++ partsL vs).length = _
      rw [List.length_append]
    have h2 := kept_length (cutsP v 0 false 0)
    have h3 := cuts_length v v.size 0 false 0 (by omega)
    have h4 := h v List.mem_cons_self
    have h5 := ih fun x hx => h x (List.mem_cons_of_mem _ hx)
    rw [h1, List.length_cons, Nat.succ_mul]
    omega
theorem parts_small (vs : List ByteArray) (hn : vs.length ≤ 1000000) (hv : ∀ v ∈ vs, v.size ≤ 1000000) : (partsL vs).length < 8796093022208 :=
  Nat.lt_of_le_of_lt (Nat.le_trans (parts_length 1000001 vs fun v h => Nat.succ_le_succ (hv v h)) (Nat.mul_le_mul hn (Nat.le_refl _))) (by decide)
theorem len_le {α : Type} {r a b : List α} (h : r = a ++ b) : a.length ≤ r.length := by rw [h, List.length_append]; omega
theorem list_head_vals (vs : List ByteArray) (hn : vs.length ≤ 1000000) (hv : ∀ v ∈ vs, v.size ≤ 1000000) : Ev (fun k => head_List.l0 k ([] : List ByteArray) vs (vs.length : Int) 0) (partsL vs) := by
  have hr := parts_small vs hn hv
  suffices key : ∀ r : List ByteArray, r.length < 8796093022208 → ∀ j, j ≤ vs.length → ∀ acc : List ByteArray, r = acc ++ partsL (vs.drop j) → Ev (fun k => head_List.l0 k acc vs (vs.length : Int) (j : Int)) r from
    key _ hr 0 (Nat.zero_le _) [] rfl
  clear hr
  intro r hr
  · refine up _ fun j hj ih acc ha => ?_
    refine Ev.step (fun k => head_List.l0.eq_2 acc vs (vs.length : Int) (j : Int) k) ?_
    by_cases hlt : j < vs.length
    · refine ev_pos (by omega) (ev_pos (by omega) (ev_pos (by omega) ?_))
      rw [drop_cons vs ByteArray.empty hlt] at ha
      rw [rdOf_nat]
      have hs := hv _ (getD_mem ByteArray.empty vs hlt)
      generalize vs.getD j ByteArray.empty = v at hs ha ⊢
      refine ev_bind (cut_head v hs) ?_
      have hcs := cuts_size v v.size 0 false 0 (by omega)
      have hcl := cuts_length v v.size 0 false 0 (by omega)
      have hp : partsL (v :: vs.drop (j + 1)) = kept (cutsP v 0 false 0) ++ partsL (vs.drop (j + 1)) := rfl
      rw [hp] at ha
      generalize cutsP v 0 false 0 = ps at hcs hcl ha ⊢
      have inner : ∀ i, i ≤ ps.length → ∀ acc2 : List ByteArray, r = acc2 ++ (kept (ps.drop i) ++ partsL (vs.drop (j + 1))) → Ev (fun k => head_List.l1 k acc2 vs (vs.length : Int) (j : Int) ps (ps.length : Int) (i : Int)) r := by
        refine up _ fun i hi ih2 acc2 ha2 => ?_
        refine Ev.step (fun k => head_List.l1.eq_2 acc2 vs (vs.length : Int) (j : Int) ps (ps.length : Int) (i : Int) k) ?_
        by_cases hlt2 : i < ps.length
        · refine ev_pos (by omega) (ev_pos (by omega) (ev_pos (by omega) ?_))
          rw [drop_cons ps ByteArray.empty hlt2] at ha2
          rw [rdOf_nat, wrap_succ (by omega)]
          have hsz := hcs _ (getD_mem ByteArray.empty ps hlt2)
          generalize ps.getD i ByteArray.empty = p at hsz ha2 ⊢
          refine ev_bind (trim_head p (by omega)) ?_
          have hle := len_le ha2
          rw [kept_cons] at ha2
          by_cases he : bytesOf (trimB p) = []
          · rw [if_pos he] at ha2
            exact ev_pos ((emp_iff _).2 he) (ih2 hlt2 acc2 ha2)
          · rw [if_neg he] at ha2
            refine ev_neg (fun h => he ((emp_iff _).1 h)) (ev_pos (by omega) (ih2 hlt2 _ ?_))
            rw [ha2, List.append_assoc]; rfl
        · refine ev_neg (by omega) ?_
          rw [List.drop_of_length_le (by omega)] at ha2
          rw [wrap_succ (by omega)]
          exact ih hlt acc2 ha2
      exact inner 0 (Nat.zero_le _) acc ha
    · refine ev_neg (by omega) (ev_ret ?_)
      rw [ha, List.drop_of_length_le (by omega)]; exact (List.append_nil _).symm
theorem all_small (l : List S29) (n : ByteArray) (hl : Small l) : (allL l n).length ≤ 1000000 ∧ ∀ v ∈ allL l n, v.size ≤ 1000000 := by
  unfold allL
  refine ⟨by rw [List.length_map]; exact Nat.le_trans (List.length_filter_le _ _) hl.1, fun v hv => ?_⟩
  obtain ⟨x, hx, rfl⟩ := List.mem_map.1 hv
  exact (hl.2 x (List.mem_filter.1 hx).1).2
def listL (l : List S29) (n : ByteArray) : List ByteArray := partsL (allL l n)
theorem list_head (l : List S29) (n : ByteArray) (hl : Small l) : Ev (fun k => head_List.f k l n) (listL l n) :=
  Ev.congr (fun k => head_List.f.eq_1 k l n) (ev_bind (all_head l n hl) (list_head_vals _ (all_small l n hl).1 (all_small l n hl).2))
theorem mn_le {a b : Nat} (h : a ≤ b) : mn (a : Int) (b : Int) = (a : Int) := by unfold mn; split <;> omega
theorem cuts_comma {s : ByteArray} {b i : Nat} (hi : i < s.size) (h : (bytesOf s).getD i 0 = 44) : cutsP s b false i = s.extract b i :: cutsP s (i + 1) false (i + 1) := by
  rw [cutsP, if_pos hi, if_neg (fun h => by cases h.1), if_neg (by omega), if_pos ⟨h, rfl⟩]
theorem cuts_quote {s : ByteArray} {b i : Nat} {q : Bool} (hi : i < s.size) (h : (bytesOf s).getD i 0 = 34) : cutsP s b q i = cutsP s b (!q) (i + 1) := by
  rw [cutsP, if_pos hi, if_neg (fun h => by omega), if_pos h]
theorem cuts_end {s : ByteArray} {b i : Nat} {q : Bool} (hi : ¬ i < s.size) : cutsP s b q i = [s.extract b s.size] := by
  rw [cutsP, if_neg hi]
theorem cuts_back {s : ByteArray} {b i : Nat} (hi : i < s.size) (h : (bytesOf s).getD i 0 = 92) : cutsP s b true i = cutsP s b true (i + 2) := by
  rw [cutsP, if_pos hi, if_pos ⟨rfl, h⟩]
theorem cuts_else {s : ByteArray} {b i : Nat} {q : Bool} (hi : i < s.size) (h1 : ¬ (q = true ∧ (bytesOf s).getD i 0 = 92)) (h2 : ¬ (bytesOf s).getD i 0 = 34) (h3 : ¬ ((bytesOf s).getD i 0 = 44 ∧ q = false)) : cutsP s b q i = cutsP s b q (i + 1) := by
  rw [cutsP, if_pos hi, if_neg h1, if_neg h2, if_neg h3]
section
variable {vs : List ByteArray} {j : Nat} {s : ByteArray} {T r : List ByteArray}
/-- What the document's loop over one value does from a place on. -/
def At (vs : List ByteArray) (j : Nat) (s : ByteArray) (T r : List ByteArray) (i : Nat) : Prop := ∀ (acc : List ByteArray) (b : Nat) (q : Bool), r = acc ++ (kept (cutsP s b q i) ++ T) → b ≤ i → Ev (fun k => ambryref10_List.l1 k acc vs (j : Int) s (b : Int) q (i : Int)) r
def Done (vs : List ByteArray) (j : Nat) (s : ByteArray) (T r : List ByteArray) : Prop := ∀ (acc : List ByteArray) (b : Nat) (q : Bool), r = acc ++ T → Ev (fun k => ambryref10_List.l1 k acc vs (j : Int) s (b : Int) q ((s.size + 1 : Nat) : Int)) r
theorem at_last (hs : s.size ≤ 1000000) (hr : r.length < 8796093022208) (hd : Done vs j s T r) : At vs j s T r s.size := by
  intro acc b q ha hb
  have hle := len_le ha
  rw [cuts_end (Nat.lt_irrefl _), kept_cons] at ha
  have hz := extract_size s b s.size
  refine Ev.step (fun k => ambryref10_List.l1.eq_2 acc vs (j : Int) s (b : Int) q _ k) (ev_pos (by omega) (ev_neg (by omega) ?_))
  refine Ev.step (fun k => ambryref10_List.j2.eq_2 acc vs (j : Int) s (b : Int) q _ false k) (ev_neg (by decide) ?_)
  rw [mn_le (Nat.le_refl _), Int.toNat_natCast, Int.toNat_natCast, wrap_succ (by omega)]
  refine ev_pos (by omega) (ev_pos (by omega) (ev_pos (by omega) (ev_bind (trim_ref _ (by omega)) ?_)))
  by_cases he : bytesOf (trimB (s.extract b s.size)) = []
  · rw [if_pos he] at ha
    exact ev_pos ((emp_iff _).2 he) (hd acc (s.size + 1) q ha)
  · rw [if_neg he] at ha
    refine ev_neg (fun h => he ((emp_iff _).1 h)) (ev_pos (by omega) (hd _ (s.size + 1) q ?_))
    rw [ha, List.append_assoc]; rfl
theorem at_comma {i : Nat} (hi : i < s.size) (hs : s.size ≤ 1000000) (hr : r.length < 8796093022208) (h44 : (bytesOf s).getD i 0 = 44) (h1 : At vs j s T r (i + 1)) (acc : List ByteArray) (b : Nat) (ha : r = acc ++ (kept (cutsP s b false i) ++ T)) (hb : b ≤ i) :
    Ev (fun k => ambryref10_List.l1 k acc vs (j : Int) s (b : Int) false (i : Int)) r := by
  have hle := len_le ha
  rw [cuts_comma hi h44, kept_cons] at ha
  have hz := extract_size s b i
  refine Ev.step (fun k => ambryref10_List.l1.eq_2 acc vs (j : Int) s (b : Int) false _ k) (ev_pos (by omega) (ev_pos (by omega) (ev_pos (by omega) ?_)))
  rw [bt_nat]
  refine ev_pos h44 (Ev.step (fun k => ambryref10_List.j2.eq_2 acc vs (j : Int) s (b : Int) false _ false k) (ev_neg (by decide) ?_))
  rw [mn_le (Nat.le_of_lt hi), Int.toNat_natCast, Int.toNat_natCast, wrap_succ (by omega)]
  refine ev_pos (by omega) (ev_pos (by omega) (ev_pos (by omega) (ev_bind (trim_ref _ (by omega)) ?_)))
  by_cases he : bytesOf (trimB (s.extract b i)) = []
  · rw [if_pos he] at ha
    exact ev_pos ((emp_iff _).2 he) (h1 acc (i + 1) false ha (Nat.le_refl _))
  · rw [if_neg he] at ha
    refine ev_neg (fun h => he ((emp_iff _).1 h)) (ev_pos (by omega) (h1 _ (i + 1) false ?_ (Nat.le_refl _)))
    rw [ha, List.append_assoc]; rfl
/-- No comma to cut at. -/
theorem at_on {i : Nat} (hi : i < s.size) (hs : s.size ≤ 1000000) (h1 : At vs j s T r (i + 1)) (h2 : i + 1 < s.size → At vs j s T r (i + 2)) (acc : List ByteArray) (b : Nat) (q : Bool) (hk : ¬ ((bytesOf s).getD i 0 = 44 ∧ q = false)) (ha : r = acc ++ (kept (cutsP s b q i) ++ T)) (hb : b ≤ i) :
    Ev (fun k => ambryref10_List.j2 k acc vs (j : Int) s (b : Int) q (i : Int) true) r := by
  have w1 : wrap64 ((i : Int) + 1) = ((i + 1 : Nat) : Int) := wrap_succ (by omega)
  have w2 : wrap64 (((i + 1 : Nat) : Int) + 1) = ((i + 2 : Nat) : Int) := wrap_succ (by omega)
  refine Ev.step (fun k => ambryref10_List.j2.eq_2 acc vs (j : Int) s (b : Int) q _ true k) (ev_pos rfl (ev_pos (by omega) (ev_pos (by omega) ?_)))
  rw [bt_nat, w1]
  by_cases h34 : (bytesOf s).getD i 0 = 34
  · rw [cuts_quote hi h34] at ha
    exact ev_pos h34 (h1 acc b (!q) ha (Nat.le_succ_of_le hb))
  refine ev_neg h34 ?_
  have plain : r = acc ++ (kept (cutsP s b q (i + 1)) ++ T) → Ev (fun k => ambryref10_List.j3 k acc vs (j : Int) s (b : Int) q (i : Int) false) r := by
    intro hx
    refine Ev.step (fun k => ambryref10_List.j3.eq_2 acc vs (j : Int) s (b : Int) q _ false k) (ev_neg (by decide) ?_)
    rw [w1]
    exact h1 acc b q hx (Nat.le_succ_of_le hb)
  by_cases h92 : (bytesOf s).getD i 0 = 92
  · refine ev_pos h92 ?_
    cases q with
    | false =>
      rw [cuts_else hi (fun h => by cases h.1) h34 hk] at ha
      exact ev_neg (by decide) (plain ha)
    | true =>
      rw [cuts_back hi h92] at ha
      refine ev_pos rfl ?_
      by_cases hend : i + 1 < s.size
      · rw [decide_eq_true (by omega)]
        refine Ev.step (fun k => ambryref10_List.j3.eq_2 acc vs (j : Int) s (b : Int) true _ true k) (ev_pos rfl ?_)
        rw [w1, w2]
        exact h2 hend acc b true ha (by omega)
      · rw [decide_eq_false (by omega)]
        rw [cuts_end (by omega), ← cuts_end (i := i + 1) (q := true) hend] at ha
        exact plain ha
  · rw [cuts_else hi (fun h => h92 h.2) h34 hk] at ha
    exact ev_neg h92 (plain ha)
theorem at_all (hs : s.size ≤ 1000000) (hr : r.length < 8796093022208) (hd : Done vs j s T r) : ∀ (m i : Nat), s.size - i ≤ m → i ≤ s.size → At vs j s T r i := by
  intro m
  induction m with
  | zero =>
    intro i h hi
    obtain rfl : i = s.size := by omega
    exact at_last hs hr hd
  | succ m ih =>
    intro i h hi
    by_cases hlt : i < s.size
    case neg =>
      obtain rfl : i = s.size := by omega
      exact at_last hs hr hd
    have h1 := ih (i + 1) (by omega) (by omega)
    have h2 : i + 1 < s.size → At vs j s T r (i + 2) := fun h' => ih (i + 2) (by omega) (by omega)
    intro acc b q ha hb
    by_cases hc : (bytesOf s).getD i 0 = 44 ∧ q = false
    · obtain ⟨h44, rfl⟩ := hc
      exact at_comma hlt hs hr h44 h1 acc b ha hb
    · refine Ev.step (fun k => ambryref10_List.l1.eq_2 acc vs (j : Int) s (b : Int) q _ k) (ev_pos (by omega) (ev_pos (by omega) (ev_pos (by omega) ?_)))
      rw [bt_nat]
      have on := at_on hlt hs h1 h2 acc b q hc ha hb
      by_cases h44 : (bytesOf s).getD i 0 = 44
      · cases q with
        | true => exact ev_pos h44 on
        | false => exact absurd ⟨h44, rfl⟩ hc
      · exact ev_neg h44 on
end
theorem list_ref (l : List S29) (n : ByteArray) (hl : Small l) (hn : n.size ≤ 140737488355328) : Ev (fun k => ambryref10_List.f k l n) (listL l n) := by
  refine Ev.congr (fun k => ambryref10_List.f.eq_1 k l n) (ev_bind (all_ref l n hl hn) ?_)
  unfold listL
  obtain ⟨hvl, hv⟩ := all_small l n hl
  generalize allL l n = vs at hvl hv ⊢
  have hr := parts_small vs hvl hv
  suffices key : ∀ r : List ByteArray, r.length < 8796093022208 → ∀ j, j ≤ vs.length → ∀ acc : List ByteArray, r = acc ++ partsL (vs.drop j) → Ev (fun k => ambryref10_List.l0 k acc vs (j : Int)) r from
    key _ hr 0 (Nat.zero_le _) [] rfl
  clear hr
  intro r hr
  refine up _ fun j hj ih acc ha => ?_
  refine Ev.step (fun k => ambryref10_List.l0.eq_2 acc vs (j : Int) k) ?_
  by_cases hlt : j < vs.length
  · refine ev_pos (by omega) (ev_pos (by omega) ?_)
    rw [drop_cons vs ByteArray.empty hlt] at ha
    rw [rdOf_nat]
    have hs := hv _ (getD_mem ByteArray.empty vs hlt)
    generalize vs.getD j ByteArray.empty = s at hs ha ⊢
    have hp : partsL (s :: vs.drop (j + 1)) = kept (cutsP s 0 false 0) ++ partsL (vs.drop (j + 1)) := rfl
    rw [hp] at ha
    have hd : Done vs j s (partsL (vs.drop (j + 1))) r := by
      intro acc2 b q h2
      refine Ev.step (fun k => ambryref10_List.l1.eq_2 acc2 vs (j : Int) s (b : Int) q _ k) (ev_neg (by omega) ?_)
      rw [wrap_succ (by omega)]
      exact ih hlt acc2 h2
    exact at_all hs hr hd s.size 0 (Nat.sub_le _ _) (Nat.zero_le _) acc 0 false ha (Nat.le_refl _)
  · refine ev_neg (by omega) (ev_ret ?_)
    rw [ha, List.drop_of_length_le (by omega)]; exact (List.append_nil _).symm
end Go.Proofs.YtdgimhaghhjdcaaDoor.Plain
