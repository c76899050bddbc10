/- Parts, put together with commas and blanks, quoted where they hold commas, are told one by one. -/
import Derived.Test.YtbnilemmgmhbfaaHeadCuts
import Derived.Test.YtbnilemmgmhbfaaHx9
set_option linter.unusedVariables false
set_option linter.unusedSimpArgs false
namespace Go.Proofs.Ytbnilemmgmhbfaa.Pure
open Go.RowKit Go.Proofs.Ytbnilemmgmhbfaa.H Go.Proofs.YtbnilemmgmhbfaaW.PrintWords Go.Proofs.Ytbnilemmgmhbfaa.Plain
theorem lines_ev (l : List ByteArray) : (Ev (fun k => ambrylaw10_lines.f k l) true ∧ ∀ x ∈ l, x.size ≤ 300) ∨ Ev (fun k => ambrylaw10_lines.f k l) false := by
  by_cases h : (l.length : Int) > 120
  · exact .inr (Ev.congr (fun k => ambrylaw10_lines.f.eq_1 k l) (ev_pos h (Ev.now _)))
  have key : ∀ j, j ≤ l.length → (Ev (fun k => ambrylaw10_lines.l0 k l (j : Int)) true ∧ ∀ x ∈ l.drop j, x.size ≤ 300) ∨ Ev (fun k => ambrylaw10_lines.l0 k l (j : Int)) false := by
    refine up _ fun j hj ih => ?_
    by_cases hlt : j < l.length
    · rw [drop_cons l ByteArray.empty hlt]
      by_cases h1 : (((l.getD j ByteArray.empty)).size : Int) > 300
      · refine .inr (Ev.step (fun k => ambrylaw10_lines.l0.eq_2 l (j : Int) k) (ev_pos (by omega) (ev_pos (by omega) ?_)))
        rw [rdOf_nat]; exact ev_pos h1 (Ev.now _)
      have hstep : ∀ r, Ev (fun k => ambrylaw10_lines.l0 k l ((j + 1 : Nat) : Int)) r → Ev (fun k => ambrylaw10_lines.l0 k l (j : Int)) r := fun r hr => by
        refine Ev.step (fun k => ambrylaw10_lines.l0.eq_2 l (j : Int) k) (ev_pos (by omega) (ev_pos (by omega) ?_))
        rw [rdOf_nat, wrap_succ (by omega)]; exact ev_neg h1 hr
      rcases ih hlt with ⟨e, ha⟩ | e
      · refine .inl ⟨hstep _ e, fun x hx => ?_⟩
        rcases List.mem_cons.1 hx with rfl | hx
        · omega
        · exact ha x hx
      · exact .inr (hstep _ e)
    · refine .inl ⟨Ev.step (fun k => ambrylaw10_lines.l0.eq_2 l (j : Int) k) (ev_neg (by omega) (Ev.now _)), fun x hx => ?_⟩
      rw [List.drop_of_length_le (by omega)] at hx; cases hx
  rcases key 0 (Nat.zero_le _) with ⟨e, ha⟩ | e
  · exact .inl ⟨Ev.congr (fun k => ambrylaw10_lines.f.eq_1 k l) (ev_neg h e), ha⟩
  · exact .inr (Ev.congr (fun k => ambrylaw10_lines.f.eq_1 k l) (ev_neg h e))
theorem rd_nat (l : List Int) (j : Nat) : rd l (j : Int) = l.getD j 0 := by unfold rd; rw [Int.toNat_natCast]
/-- So far: put together, it tells its parts, whatever stands behind the next comma. -/
def Good (b : List Int) (W : List (List Int)) : Prop := keptL (cutsL [] false b) = W ∧ ∀ r, keptL (cutsL [] false (b ++ 44 :: r)) = W ++ keptL (cutsL [] false r)
theorem good_item (bl p : List Int) (more : Bool) (hb : ∀ c ∈ bl, blankC c = true) (hp : ∀ c ∈ p, c ≠ 34) : Good (item bl p more) [[34] ++ p ++ [34]] := by
  refine ⟨?_, fun r => ?_⟩
  · have := item_cuts bl p [] more hb hp (.inl rfl) [] (fun r2 h => by cases h) (fun _ => rfl)
    rwa [List.append_nil] at this
  · exact item_cuts bl p (44 :: r) more hb hp (.inr ⟨r, rfl⟩) (keptL (cutsL [] false r)) (fun r2 h => by injection h with _ h; rw [h]) (fun h => by cases h)
theorem good_next {b : List Int} {W : List (List Int)} (h : Good b W) {x : List Int} {q : List Int} (hx : Good x [q]) : Good (b ++ 44 :: x) (W ++ [q]) := by
  refine ⟨?_, fun r => ?_⟩
  · rw [h.2, hx.1]
  · rw [List.append_assoc, List.cons_append, h.2, hx.2, List.append_assoc]
section
variable {parts : List ByteArray} {bl : List Int}
theorem tmod2 {n : Nat} (h : n ≤ 1) : Int.tmod (n : Int) 2 = (n : Int) := by
  rw [Int.tmod_eq_emod_of_nonneg (by omega)]; omega
theorem tmod3 {c : Int} (h : 0 ≤ c) : ∃ m : Nat, m ≤ 2 ∧ wrap64 (Int.tmod c 3) = (m : Int) := by
  refine ⟨(c % 3).toNat, by omega, ?_⟩
  rw [Int.tmod_eq_emod_of_nonneg h]; unfold wrap64; omega
theorem blank_one {n : Nat} (h : n ≤ 1) : ∃ e, bytesOf ((⟨#[32, 9]⟩ : ByteArray).extract n (n + 1)) = [e] ∧ blankC e = true := by
  have hn01 : n = 0 ∨ n = 1 := by omega
  rcases hn01 with h | h
  · exact ⟨32, by rw [h, bytes_extract]; rfl, by decide⟩
  · exact ⟨9, by rw [h, bytes_extract]; rfl, by decide⟩
theorem comma_size : (⟨#[32, 44, 32, 44]⟩ : ByteArray).size = 4 := rfl
theorem comma_bytes : bytesOf (⟨#[32, 44, 32, 44]⟩ : ByteArray) = [32, 44, 32, 44] := rfl
def Next (parts : List ByteArray) (bl : List Int) (s q : ByteArray) (X : List ByteArray) (i : Nat) : Prop :=
  ∀ (t : ByteArray) (B : List Int) (more : Bool), (∀ c ∈ B, blankC c = true) → B.length ≤ 2 → bytesOf t = bytesOf s ++ (B ++ bytesOf q ++ if more = true then [32, 44, 32, 44] else []) → Ev (fun k => ambrylaw10_HeadLists.l0 k parts bl t X (wrap64 ((i : Int) + 1))) true
theorem blanks_end (s q : ByteArray) (X : List ByteArray) (i : Nat) (c : Int) (m : Nat) (hm : wrap64 (Int.tmod c 3) = (m : Int)) (hm2 : m ≤ 2) (hib : i < bl.length) (hc : bl.getD i 0 = c) (cont : Next parts bl s q X i) (t : ByteArray) (B : List Int) (hB : ∀ c ∈ B, blankC c = true) (hBl : B.length = m) (ht : bytesOf t = bytesOf s ++ B) (h1 : t.size + q.size ≤ 9223372036854775807) (h2 : (t ++ q).size + 4 ≤ 9223372036854775807) :
    Ev (fun k => ambrylaw10_HeadLists.l2 k parts bl t X (i : Int) q (m : Int)) true := by
  have p1 : (0 : Int) ≤ (i : Int) := Int.natCast_nonneg i
  have p2 : (i : Int) < (bl.length : Int) := Int.ofNat_lt.2 hib
  refine Ev.step (fun k => ambrylaw10_HeadLists.l2.eq_2 parts bl t X (i : Int) q (m : Int) k) (ev_pos p1 (ev_pos p2 ?_))
  rw [rd_nat, hc, hm]
  refine ev_neg (Int.lt_irrefl _) (ev_pos h1 ?_)
  by_cases h5 : Int.tmod c 5 = 0
  · refine ev_pos h5 (ev_pos h2 (cont _ B true hB (by rw [hBl]; exact hm2) ?_))
    rw [bytes_append, bytes_append, ht, comma_bytes, if_pos rfl, List.append_assoc, List.append_assoc, List.append_assoc]
  · refine ev_neg h5 (cont _ B false hB (by rw [hBl]; exact hm2) ?_)
    rw [bytes_append, ht, if_neg (by decide), List.append_nil, List.append_assoc]
theorem blanks_step (q : ByteArray) (X : List ByteArray) (i : Nat) (c : Int) (m n : Nat) (hm : wrap64 (Int.tmod c 3) = (m : Int)) (hn : n < m) (hn1 : n ≤ 1) (hib : i < bl.length) (hc : bl.getD i 0 = c) (t : ByteArray) (h1 : t.size + ((⟨#[32, 9]⟩ : ByteArray).extract n (n + 1)).size ≤ 9223372036854775807)
    (cont : Ev (fun k => ambrylaw10_HeadLists.l2 k parts bl (t ++ (⟨#[32, 9]⟩ : ByteArray).extract n (n + 1)) X (i : Int) q ((n + 1 : Nat) : Int)) true) :
    Ev (fun k => ambrylaw10_HeadLists.l2 k parts bl t X (i : Int) q (n : Int)) true := by
  have p1 : (0 : Int) ≤ (i : Int) := Int.natCast_nonneg i
  have p2 : (i : Int) < (bl.length : Int) := Int.ofNat_lt.2 hib
  have p3 : (n : Int) < (m : Int) := Int.ofNat_lt.2 hn
  have p4 : (0 : Int) ≤ (n : Int) := Int.natCast_nonneg n
  have p5 : (n : Int) ≤ ((n + 1 : Nat) : Int) := Int.ofNat_le.2 (Nat.le_succ n)
  have p6 : ((n + 1 : Nat) : Int) ≤ 2 := Int.ofNat_le.2 (Nat.succ_le_succ hn1)
  have hw : wrap64 ((n : Int) + 1) = ((n + 1 : Nat) : Int) := wrap_succ (Nat.lt_of_le_of_lt hn1 (by decide))
  refine Ev.step (fun k => ambrylaw10_HeadLists.l2.eq_2 parts bl t X (i : Int) q (n : Int) k) (ev_pos p1 (ev_pos p2 ?_))
  rw [rd_nat, hc, hm, tmod2 hn1, hw, Int.toNat_natCast, Int.toNat_natCast]
  exact ev_pos p3 (ev_pos p4 (ev_pos p5 (ev_pos p6 (ev_pos h1 cont))))
theorem blanks_ev (s q : ByteArray) (X : List ByteArray) (i : Nat) (c : Int) (hib : i < bl.length) (hc : bl.getD i 0 = c) (h0 : 0 ≤ c) (hs : s.size ≤ 100000) (hq : q.size ≤ 1000) (cont : Next parts bl s q X i) :
    Ev (fun k => ambrylaw10_HeadLists.l2 k parts bl s X (i : Int) q 0) true := by
  obtain ⟨m, hm2, hm⟩ := tmod3 h0
  have key : ∀ (d n : Nat), n + d = m → ∀ (t : ByteArray) (B : List Int), (∀ c ∈ B, blankC c = true) → B.length = n → bytesOf t = bytesOf s ++ B → Ev (fun k => ambrylaw10_HeadLists.l2 k parts bl t X (i : Int) q (n : Int)) true := by
    intro d
    induction d with
    | zero =>
      intro n hn t B hB hBl ht
      obtain rfl : n = m := hn
      have hts : t.size = s.size + n := by rw [size_bytes, ht, List.length_append, hBl, ← size_bytes]
      exact blanks_end s q X i c n hm hm2 hib hc cont t B hB hBl ht (by clear cont hm; omega) (by rw [size_append]; clear cont hm; omega)
    | succ d ih =>
      intro n hn t B hB hBl ht
      have hts : t.size = s.size + n := by rw [size_bytes, ht, List.length_append, hBl, ← size_bytes]
      have hn1 : n ≤ 1 := by clear hts ih cont hm; omega
      have hlt : n < m := by clear hts ih cont hm; omega
      obtain ⟨e, hxe, hxb⟩ := blank_one hn1
      have hx1 : ((⟨#[32, 9]⟩ : ByteArray).extract n (n + 1)).size = 1 := by rw [size_bytes, hxe]; rfl
      refine blanks_step q X i c m n hm hlt hn1 hib hc t (by rw [hx1, hts]; clear hts ih cont hm hx1; omega) (ih (n + 1) (by clear hts ih cont hm hx1; omega) _ (B ++ [e]) ?_ ?_ ?_)
      · intro x hx
        rcases List.mem_append.1 hx with hx | hx
        · exact hB x hx
        · rw [List.mem_singleton.1 hx]; exact hxb
      · rw [List.length_append, hBl]; rfl
      · rw [bytes_append, ht, hxe, List.append_assoc]
  exact key m 0 (Nat.zero_add m) s [] (fun _ h => by cases h) rfl (List.append_nil _).symm
def pickC (c : Int) : Bool := decide (97 ≤ c ∧ c ≤ 122) || decide (c = 44)
def pickL (l : List Int) : List Int := l.filter pickC
theorem pick_ev (s : ByteArray) (X : List ByteArray) (i : Nat) (w : ByteArray) (hi : i < parts.length) (hw : parts.getD i ByteArray.empty = w) (hws : w.size ≤ 300) (hs : s.size ≤ 100000) (hX : X.length ≤ 100)
    (cont : ∀ q : ByteArray, bytesOf q = [34] ++ pickL (bytesOf w) ++ [34] → Ev (fun k => ambrylaw10_HeadLists.l2 k parts bl (if 0 < i then s ++ (⟨#[44]⟩ : ByteArray) else s) (X ++ [q]) (i : Int) q 0) true) :
    Ev (fun k => ambrylaw10_HeadLists.l1 k parts bl s X (i : Int) (⟨#[]⟩ : ByteArray) 0) true := by
  have hz := size_bytes w
  have key : ∀ j, j ≤ w.size → ∀ p : ByteArray, p.size ≤ j → bytesOf p ++ pickL ((bytesOf w).drop j) = pickL (bytesOf w) → Ev (fun k => ambrylaw10_HeadLists.l1 k parts bl s X (i : Int) p (j : Int)) true := by
    refine up _ fun j hj ih p hp hpk => ?_
    refine Ev.step (fun k => ambrylaw10_HeadLists.l1.eq_2 parts bl s X (i : Int) p (j : Int) k) (ev_pos (by omega) (ev_pos (by omega) ?_))
    rw [rdOf_nat, hw]
    by_cases hlt : j < w.size
    · rw [drop_cons (bytesOf w) 0 (show j < (bytesOf w).length by omega)] at hpk
      rw [bt_nat, wrap_succ (by omega), Int.toNat_natCast, Int.toNat_natCast]
      have hone : bytesOf (w.extract j (j + 1)) = [(bytesOf w).getD j 0] := by
        rw [bytes_extract, take_one _ (Nat.le_refl _) (by omega), List.drop_eq_nil_of_le (by rw [List.length_take]; omega)]; rfl
      have hone2 : (w.extract j (j + 1)).size = 1 := by rw [size_bytes, hone]; rfl
      have hsz : (p ++ w.extract j (j + 1)).size ≤ j + 1 := by rw [size_append, hone2]; omega
      generalize (bytesOf w).getD j 0 = c at hone hpk ⊢
      have htake : pickC c = true → bytesOf (p ++ w.extract j (j + 1)) ++ pickL ((bytesOf w).drop (j + 1)) = pickL (bytesOf w) := fun h => by
        rw [← hpk, bytes_append, hone, List.append_assoc]
        unfold pickL
        rw [List.filter_cons, if_pos h]; rfl
      have hskip : ¬ pickC c = true → bytesOf p ++ pickL ((bytesOf w).drop (j + 1)) = pickL (bytesOf w) := fun h => by
        rw [← hpk]
        unfold pickL
        rw [List.filter_cons, if_neg h]
      refine ev_pos (by omega) (ev_pos (by omega) ?_)
      have h44 : Ev (fun k => if c = 44 then (if (j : Int) ≤ ((j + 1 : Nat) : Int) then (if ((j + 1 : Nat) : Int) ≤ (w.size : Int) then (if p.size + (w.extract j (j + 1)).size ≤ 9223372036854775807 then (ambrylaw10_HeadLists.l1 k parts bl s X (i : Int) (p ++ w.extract j (j + 1)) ((j + 1 : Nat) : Int)) else none) else none) else none) else (ambrylaw10_HeadLists.l1 k parts bl s X (i : Int) p ((j + 1 : Nat) : Int))) true ∨ (97 ≤ c ∧ c ≤ 122) := by
        by_cases h2 : 97 ≤ c ∧ c ≤ 122
        · exact .inr h2
        · left
          by_cases h : c = 44
          · exact ev_pos h (ev_pos (by omega) (ev_pos (by omega) (ev_pos (by omega) (ih hlt _ hsz (htake (by rw [h]; decide))))))
          · exact ev_neg h (ih hlt _ (by omega) (hskip (by unfold pickC; rw [decide_eq_false h2, decide_eq_false h]; decide)))
      by_cases h97 : c ≥ 97
      · refine ev_pos h97 ?_
        by_cases h122 : c ≤ 122
        · exact ev_pos h122 (ev_pos (by omega) (ev_pos (by omega) (ev_pos (by omega) (ih hlt _ hsz (htake (by unfold pickC; rw [decide_eq_true ⟨h97, h122⟩]; rfl))))))
        · exact ev_neg h122 (h44.resolve_right (fun h => h122 h.2))
      · exact ev_neg h97 (h44.resolve_right (fun h => h97 h.1))
    · rw [List.drop_of_length_le (by omega)] at hpk
      have hpk2 : bytesOf p = pickL (bytesOf w) := by rw [← hpk]; exact (List.append_nil _).symm
      have hq : bytesOf (((⟨#[34]⟩ : ByteArray) ++ p) ++ (⟨#[34]⟩ : ByteArray)) = [34] ++ pickL (bytesOf w) ++ [34] := by rw [bytes_append, bytes_append, hpk2]; rfl
      have s1 : (⟨#[34]⟩ : ByteArray).size = 1 := rfl
      have hcont := cont _ hq
      refine ev_neg (by omega) (ev_pos (by omega) (ev_pos (by rw [size_append]; omega) (ev_pos (by omega) (ev_some rfl ?_))))
      by_cases h0 : 0 < i
      · rw [if_pos h0] at hcont
        exact ev_pos (by omega) (ev_pos (by omega) (Ev.step (fun k => ambrylaw10_HeadLists.j3.eq_2 parts bl _ _ (i : Int) _ k) hcont))
      · rw [if_neg h0] at hcont
        exact ev_neg (by omega) (Ev.step (fun k => ambrylaw10_HeadLists.j3.eq_2 parts bl _ _ (i : Int) _ k) hcont)
  refine key 0 (Nat.zero_le _) _ (Nat.le_refl _) rfl
end
theorem HeadLists_ev (parts : List ByteArray) (bl : List Int) (hbl : ∀ c ∈ bl, 0 ≤ c ∧ c ≤ 255) : Ev (fun k => ambrylaw10_HeadLists.f k parts bl) true := by
  refine Ev.congr (fun k => ambrylaw10_HeadLists.f.eq_1 k parts bl) (ev_bind known_ev (ev_pos rfl ?_))
  have hj : Ev (fun k => ambrylaw10_HeadLists.j0 k parts bl true) true := Ev.step (fun k => ambrylaw10_HeadLists.j0.eq_2 parts bl true k) (ev_pos rfl (Ev.now _))
  rcases lines_ev parts with ⟨e, hx⟩ | e
  case inr => exact ev_bind e (ev_neg (by decide) hj)
  refine ev_bind e (ev_pos rfl ?_)
  by_cases h10 : (parts.length : Int) > 10
  · exact ev_pos h10 hj
  refine ev_neg h10 ?_
  by_cases hlb : (bl.length : Int) < (parts.length : Int)
  · rw [decide_eq_true hlb]; exact hj
  rw [decide_eq_false hlb]
  refine Ev.step (fun k => ambrylaw10_HeadLists.j0.eq_2 parts bl false k) (ev_neg (by decide) ?_)
  have key : ∀ i, i ≤ parts.length → ∀ (s : ByteArray) (X : List ByteArray), X.length = i → s.size ≤ i * 400 → (∀ c ∈ bytesOf s, c ≠ 92) → (if 0 < i then Good (bytesOf s) (X.map bytesOf) else bytesOf s = []) → Ev (fun k => ambrylaw10_HeadLists.l0 k parts bl s X (i : Int)) true := by
    refine up _ fun i hi ih s X hX hs h92 hg => ?_
    refine Ev.step (fun k => ambrylaw10_HeadLists.l0.eq_2 parts bl s X (i : Int) k) ?_
    by_cases hlt : i < parts.length
    · have hws := hx _ (getD_mem ByteArray.empty parts hlt)
      have hib : i < bl.length := by omega
      have hc := hbl _ (getD_mem 0 bl hib)
      refine ev_pos (by omega) (pick_ev s X i _ hlt rfl hws (by omega) (by omega) fun q hq => ?_)
      generalize parts.getD i ByteArray.empty = w at hws hq
      have hqz : q.size ≤ 302 := by
        rw [size_bytes, hq, List.length_append, List.length_append]
        have := List.length_filter_le pickC (bytesOf w)
        have := size_bytes w
        unfold pickL
        simp only [List.length_cons, List.length_nil]
        omega
      have hp34 : ∀ c ∈ pickL (bytesOf w), c ≠ 34 ∧ c ≠ 92 := fun c hc => by
        have := (List.mem_filter.1 hc).2
        unfold pickC at this
        simp only [Bool.or_eq_true, decide_eq_true_eq] at this
        omega
      have hss : (if 0 < i then s ++ (⟨#[44]⟩ : ByteArray) else s).size ≤ i * 400 + 1 := by
        split
        · rw [size_append]; exact Nat.add_le_add hs (Nat.le_refl 1)
        · exact Nat.le_succ_of_le hs
      refine blanks_ev _ q _ i _ hib rfl hc.1 (by omega) (by omega) fun t B more hB hBl ht => ?_
      rw [wrap_succ (by omega)]
      have hit : bytesOf t = bytesOf (if 0 < i then s ++ (⟨#[44]⟩ : ByteArray) else s) ++ item B (pickL (bytesOf w)) more := by rw [ht, hq]; rfl
      have hil : (item B (pickL (bytesOf w)) more).length ≤ 308 := by
        have h2 := congrArg List.length hq
        rw [← size_bytes] at h2
        unfold item
        rw [List.length_append, List.length_append, ← h2]
        have : (if more = true then [32, 44, 32, 44] else ([] : List Int)).length ≤ 4 := by split <;> simp
        omega
      have hi92 : ∀ c ∈ item B (pickL (bytesOf w)) more, c ≠ 92 := fun c hc => by
        unfold item at hc
        rcases List.mem_append.1 hc with hc | hc
        · rcases List.mem_append.1 hc with hc | hc
          · have := hB c hc
            unfold blankC at this
            simp only [Bool.or_eq_true, decide_eq_true_eq] at this
            omega
          · simp only [List.mem_append, List.mem_singleton] at hc
            rcases hc with (rfl | hc) | rfl
            · decide
            · exact (hp34 c hc).2
            · decide
        · split at hc
          · simp only [List.mem_cons, List.not_mem_nil, or_false] at hc
            rcases hc with rfl | rfl | rfl | rfl <;> decide
          · cases hc
      have hgi := good_item B (pickL (bytesOf w)) more hB fun c hc => (hp34 c hc).1
      refine ih hlt t _ (by rw [List.length_append, hX]; rfl) ?_ ?_ ?_
      · rw [size_bytes, hit, List.length_append, ← size_bytes]; omega
      · intro c hc
        rw [hit] at hc
        rcases List.mem_append.1 hc with hc | hc
        · split at hc
          · rw [bytes_append] at hc
            rcases List.mem_append.1 hc with hc | hc
            · exact h92 c hc
            · rw [lit_bytes] at hc
              simp only [List.map_cons, List.map_nil, List.mem_singleton] at hc
              rw [hc]; decide
          · exact h92 c hc
        · exact hi92 c hc
      · rw [if_pos (Nat.succ_pos _), hit, List.map_append, List.map_singleton, hq]
        by_cases h0 : 0 < i
        · rw [if_pos h0] at hg ⊢
          rw [bytes_append, List.append_assoc]
          exact good_next hg hgi
        · have hX0 : X = [] := List.eq_nil_of_length_eq_zero (by omega)
          rw [if_neg h0] at hg ⊢
          rw [hX0, hg]
          exact hgi
    · have hsm : Small [(⟨(⟨#[88]⟩ : ByteArray), s⟩ : S39)] := by
        refine ⟨by show 1 ≤ 4000; decide, fun x hx => ?_⟩
        rw [List.mem_singleton.1 hx]
        exact ⟨by show (1 : Nat) ≤ _; decide, by show s.size ≤ _; omega⟩
      have hall : allL [(⟨(⟨#[88]⟩ : ByteArray), s⟩ : S39)] (⟨#[120]⟩ : ByteArray) = [s] := rfl
      have hk : listL [(⟨(⟨#[88]⟩ : ByteArray), s⟩ : S39)] (⟨#[120]⟩ : ByteArray) = X := by
        unfold listL
        rw [hall]
        have e : partsL [s] = kept (cutsP s 0 false 0) := List.append_nil _
        rw [e]
        have hmap : (kept (cutsP s 0 false 0)).map bytesOf = X.map bytesOf := by
          rw [kept_map, cuts_list s h92 s.size 0 false 0 (Nat.sub_le _ _) (Nat.le_refl _) (Nat.zero_le _)]
          show keptL (cutsL [] false (bytesOf s)) = _
          by_cases h0 : 0 < i
          · rw [if_pos h0] at hg; exact hg.1
          · have hX0 : X = [] := List.eq_nil_of_length_eq_zero (by omega)
            rw [if_neg h0] at hg
            rw [hg, hX0]; rfl
        have inj : ∀ (a b : List ByteArray), a.map bytesOf = b.map bytesOf → a = b := by
          intro a
          induction a with
          | nil => intro b h; cases b with
            | nil => rfl
            | cons => cases h
          | cons x a ih => intro b h; cases b with
            | nil => cases h
            | cons y b =>
              simp only [List.map_cons, List.cons.injEq] at h
              rw [bytes_inj h.1, ih b h.2]
        exact inj _ _ hmap
      refine ev_neg (by omega) (ev_bind (list_head _ _ hsm) ?_)
      rw [hk]
      exact ev_bind (strings_eq _ (by omega)) (ev_ret rfl)
  exact key 0 (Nat.zero_le _) _ [] rfl (Nat.le_refl _) (fun _ h => by cases h) (by rw [if_neg (by decide)]; rfl)
end Go.Proofs.Ytbnilemmgmhbfaa.Pure
