/- Requests held against one another; what is kept of a request. -/
import Derived.Test.YtefijfanjekchaaGx0
import Derived.Test.YtefijfanjekchaaGx3
import Derived.Test.YtefijfanjekchaaVaryP
set_option linter.unusedVariables false
set_option linter.unusedSimpArgs false
namespace Go.Proofs.Ytefijfanjekchaa.Plain
open Go.RowKit Go.Proofs.Ytefijfanjekchaa.G Go.Proofs.YtefijfanjekchaaW.PrintWords

def badN (l q : List S38) (n : ByteArray) : Bool := (normL l n).2 != (normL q n).2 || (normL l n).1.toList != (normL q n).1.toList
def matchP (t : List ByteArray × Bool) (l q : List S38) : Bool := !t.2 && !(t.1.any (badN l q))
theorem names_length (L : List ByteArray) : (namesP L).1.length ≤ L.length := by
  unfold namesP
  split
  · exact Nat.zero_le _
  · show (List.map _ _).length ≤ _
    rw [List.length_map]
    refine Nat.le_trans (Lib.compact_length_le _) ?_
    rw [Srt.order_length, List.length_map, List.length_map]
    exact Nat.le_refl _
theorem low_size (s : ByteArray) : (lowB s).size = s.size := by rw [size_bytes, bytes_low, List.length_map, ← size_bytes]
theorem names_mem (L : List ByteArray) : ∀ n ∈ (namesP L).1, ∃ s ∈ L, n = lowB s := by
  intro n hn
  unfold namesP at hn
  split at hn
  · exact absurd hn (by simp)
  · obtain ⟨x, hx, rfl⟩ := List.mem_map.1 hn
    have h1 := (compact_ss _ (order_pairwise _)).2 x |>.1 hx
    rw [order_mem] at h1
    obtain ⟨m, hm, rfl⟩ := List.mem_map.1 h1
    obtain ⟨s, hs, rfl⟩ := List.mem_map.1 hm
    exact ⟨s, hs, tl_inj rfl⟩
theorem names_ss (L : List ByteArray) : SS ((namesP L).1.map tl) := by
  unfold namesP
  split
  · simp [SS]
  · show SS (List.map tl (List.map _ _))
    rw [back_tl]
    exact (compact_ss _ (order_pairwise _)).1
theorem names_size {n : Nat} {l : List S38} (h : Lt n l) (hn : n ≤ 20) : (namesP (listL l varyN)).1.length ≤ 6020 ∧ ∀ m ∈ (namesP (listL l varyN)).1, m.size ≤ 300 := by
  obtain ⟨h1, h2⟩ := list_bound h hn varyN
  refine ⟨Nat.le_trans (names_length _) h1, fun m hm => ?_⟩
  obtain ⟨s, hs, rfl⟩ := names_mem _ m hm
  rw [low_size]
  exact h2 s hs
theorem some_ev (l q : List S38) (hl : Small l) (hq : Small q) : ∀ ns : List ByteArray, Ev (fun k => vary_Match.some_ k l q ns) (ns.any (badN l q))
  | [] => Ev.now _
  | n :: r => by
    have hp : Ev (fun k => vary_Match.parts k l q n) (badN l q n) := ev_bind (norm_vary l n hl) (ev_bind (norm_vary q n hq) (Ev.now _))
    refine Ev.congr (fun k => by rw [vary_Match.some_]) (ev_bind hp ?_)
    rw [List.any_cons]
    cases hb : badN l q n with
    | true => exact ev_pos rfl (Ev.now _)
    | false => exact ev_neg (by decide) (some_ev l q hl hq r)
theorem match_vary {n : Nat} {l : List S38} (h : Lt n l) (hn : n ≤ 20) (a : Int) (b : ByteArray) (c : List Int) (p q : List S38) (hp : Small p) (hq : Small q) : Ev (fun k => vary_Match.f k a b l c p q) (matchP (namesP (listL l varyN)) p q) := by
  refine Ev.congr (fun k => vary_Match.f.eq_1 k a b l c p q) (ev_bind (names_vary h hn a b c) ?_)
  have hs := (names_size h hn).1
  unfold matchP
  cases hstar : (namesP (listL l varyN)).2 with
  | true => exact ev_pos rfl (Ev.now _)
  | false => exact ev_neg (by decide) (ev_pos (by omega) (ev_bind (some_ev p q hp hq _) (Ev.now _)))
theorem star_nil (L : List ByteArray) : (namesP L).2 = true → (namesP L).1 = [] := by
  unfold namesP
  split
  · intro _; rfl
  · intro h; cases h
def keepP (ns : List ByteArray) (q : List S38) : List S38 := ns.filterMap fun n => if (normL q n).2 = true then some ⟨n, (normL q n).1⟩ else none
theorem keep_cons (n : ByteArray) (r : List ByteArray) (q : List S38) : keepP (n :: r) q = (if (normL q n).2 = true then [⟨n, (normL q n).1⟩] else []) ++ keepP r q := by
  unfold keepP
  rw [List.filterMap_cons]
  split <;> rename_i h <;> split at h <;> simp_all
/-! What is kept matches as what it was kept of -/
theorem go_go : ∀ (l : W8) (r : Bool), vary_plain.go r (vary_plain.go r l) = vary_plain.go r l
  | [], r => by cases r <;> rfl
  | c :: l, r => by
    rw [vary_plain.go]
    by_cases h : c = 32 ∨ c = 9
    · rw [if_pos h]
      cases r with
      | true => rw [if_pos rfl]; exact go_go l true
      | false => rw [if_neg (by decide), vary_plain.go, if_pos (.inl rfl), if_neg (by decide), go_go l true]
    · rw [if_neg h, vary_plain.go, if_neg h, go_go l false]
theorem low_same {a b : ByteArray} (h : Leaf.sameB (lowB a) (lowB b) = true) : lowB a = lowB b := by
  unfold Leaf.sameB at h
  rw [beq_iff_eq, bytes_low, bytes_low, List.map_map, List.map_map] at h
  have e : ∀ s : ByteArray, (bytesOf s).map (Leaf.lowC ∘ Leaf.lowC) = (bytesOf s).map Leaf.lowC := fun s => List.map_congr_left fun c _ => low_low c
  rw [e, e] at h
  exact bytes_inj (by rw [bytes_low, bytes_low]; exact h)
theorem same_refl (a : ByteArray) : Leaf.sameB a a = true := by unfold Leaf.sameB; exact beq_self_eq_true _
open Classical in
theorem all_keep (q : List S38) (n : ByteArray) : ∀ ns : List ByteArray, SS (ns.map tl) → (∀ m ∈ ns, ∃ s, m = lowB s) → (∃ s, n = lowB s) → allL (keepP ns q) n = if n ∈ ns ∧ (normL q n).2 = true then [(normL q n).1] else []
  | [], _, _, _ => by rw [if_neg (by simp)]; rfl
  | m :: r, hs, hl, hn => by
    have hs' := List.pairwise_cons.1 hs
    have ih := all_keep q n r hs'.2 (fun x hx => hl x (List.mem_cons_of_mem _ hx)) hn
    have happ : ∀ a b : List S38, allL (a ++ b) n = allL a n ++ allL b n := fun a b => by unfold allL; rw [List.filter_append, List.map_append]
    rw [keep_cons, happ, ih]
    by_cases hmn : n = m
    · subst hmn
      have hnr : ¬ n ∈ r := fun h => List.lt_irrefl _ (hs'.1 (tl n) (List.mem_map_of_mem h))
      rw [if_neg (show ¬ (n ∈ r ∧ (normL q n).2 = true) from fun h => hnr h.1), List.append_nil]
      by_cases h : (normL q n).2 = true
      · rw [if_pos h, if_pos ⟨List.mem_cons_self, h⟩]
        unfold allL
        rw [List.filter_cons, if_pos (same_refl n)]; rfl
      · rw [if_neg h, if_neg fun x => h x.2]; rfl
    · have hne : Leaf.sameB m n = false := by
        rw [Bool.eq_false_iff]
        intro h
        obtain ⟨s, rfl⟩ := hl m List.mem_cons_self
        obtain ⟨t, rfl⟩ := hn
        exact hmn (low_same h).symm
      have h1 : allL (if (normL q m).2 = true then [(⟨m, (normL q m).1⟩ : S38)] else []) n = [] := by
        split
        · unfold allL
          rw [List.filter_cons, if_neg (by rw [hne]; decide)]; rfl
        · rfl
      rw [h1, List.nil_append]
      by_cases h : n ∈ r ∧ (normL q n).2 = true
      · rw [if_pos h, if_pos ⟨List.mem_cons_of_mem _ h.1, h.2⟩]
      · rw [if_neg h, if_neg fun x => h ⟨(List.mem_cons.1 x.1).resolve_left hmn, x.2⟩]
theorem norm_keep (q : List S38) (ns : List ByteArray) (hs : SS (ns.map tl)) (hl : ∀ m ∈ ns, ∃ s, m = lowB s) (n : ByteArray) (hn : n ∈ ns) : normL (keepP ns q) n = normL q n := by
  have h := all_keep q n ns hs hl (hl n hn)
  by_cases h2 : (normL q n).2 = true
  · rw [if_pos ⟨hn, h2⟩] at h
    have e : joinL [(normL q n).1] = vary_plain.go false (joinL (allL q n)) := by show (vary_plain.go false (joinL (allL q n))) ++ [] = _; rw [List.append_nil]
    unfold normL at h2 ⊢
    rw [h]
    show ((⟨(vary_plain.go false (joinL [(normL q n).1])).toArray⟩ : ByteArray), decide ((1 : Int) > 0)) = _
    have h3 : decide (((allL q n).length : Int) > 0) = true := h2
    rw [e, go_go, h3]; rfl
  · rw [if_neg fun x => h2 x.2] at h
    have h0 : allL q n = [] := by
      unfold normL at h2
      have : ¬ ((allL q n).length : Int) > 0 := fun x => h2 (decide_eq_true x)
      exact List.eq_nil_of_length_eq_zero (by omega)
    unfold normL
    rw [h, h0]
theorem match_keep (t : List ByteArray × Bool) (q x : List S38) (hs : SS (t.1.map tl)) (hl : ∀ m ∈ t.1, ∃ s, m = lowB s) : matchP t (keepP t.1 q) x = matchP t q x := by
  unfold matchP
  have h : t.1.any (badN (keepP t.1 q) x) = t.1.any (badN q x) := by
    have h1 : ∀ n ∈ t.1, badN (keepP t.1 q) x n = badN q x n := fun n hn => by unfold badN; rw [norm_keep q t.1 hs hl n hn]
    rw [Bool.eq_iff_iff, List.any_eq_true, List.any_eq_true]
    constructor
    · rintro ⟨n, hn, hb⟩; exact ⟨n, hn, by rw [← h1 n hn]; exact hb⟩
    · rintro ⟨n, hn, hb⟩; exact ⟨n, hn, by rw [h1 n hn]; exact hb⟩
  rw [h]
theorem match_own (t : List ByteArray × Bool) (q : List S38) : matchP t q q = !t.2 := by
  unfold matchP
  have h : t.1.any (badN q q) = false := by
    rw [List.any_eq_false]
    intro n _
    unfold badN
    simp
  rw [h]; simp
theorem keep_small2 {n : Nat} {l q : List S38} (h : Lt n l) (hn : n ≤ 20) (hq : Lt 20 q) : Small (keepP (namesP (listL l varyN)).1 q) := by
  obtain ⟨h1, h2⟩ := names_size h hn
  refine ⟨Nat.le_trans (List.length_filterMap_le _ _) (by omega), fun x hx => ?_⟩
  obtain ⟨m, hm, hx⟩ := List.mem_filterMap.1 hx
  split at hx
  case isFalse => cases hx
  obtain rfl := Option.some.inj hx
  refine ⟨by have := h2 m hm; show m.size ≤ _; omega, ?_⟩
  show (normL q m).1.size ≤ _
  have hg : ∀ (l : W8) (r : Bool), (vary_plain.go r l).length ≤ l.length := by
    intro l
    induction l with
    | nil => intro r; cases r <;> exact Nat.le_refl _
    | cons c l ih =>
      intro r
      have i1 := ih true
      have i2 := ih false
      rw [vary_plain.go]
      split
      · split
        · simp only [List.length_cons]; omega
        · simp only [List.length_cons]; omega
      · simp only [List.length_cons]; omega
  have hv : ∀ v ∈ allL q m, v.size ≤ 300 := by
    intro v hv
    obtain ⟨x, hx, rfl⟩ := List.mem_map.1 hv
    exact (hq.2 x (List.mem_filter.1 hx).1).2
  have ha : (allL q m).length ≤ 20 := by
    unfold allL
    rw [List.length_map]
    exact Nat.le_trans (List.length_filter_le _ _) hq.1
  have h3 := hg (joinL (allL q m)) false
  have h4 := join_len 300 _ hv
  have h5 : (allL q m).length * (300 + 2) ≤ 20 * (300 + 2) := Nat.mul_le_mul_right _ ha
  show (vary_plain.go false (joinL (allL q m))).toArray.size ≤ _
  rw [List.size_toArray]
  omega
end Go.Proofs.Ytefijfanjekchaa.Plain
