/- Paths without dots, whole addresses: what the program's functions tell and the document's. -/
import Derived.Test.YtgpkgfdojfnafaaDoorNormPlain
set_option linter.unusedVariables false
set_option linter.unusedSimpArgs false
namespace Go.Proofs.YtgpkgfdojfnafaaDoor.Plain
open Go.RowKit Go.Proofs.YtgpkgfdojfnafaaDoor.K Go.Proofs.YtgpkgfdojfnafaaDoorW.PrintWords Go.Proofs.YtgpkgfdojfnafaaDoor.Norm

def nums (l : List UInt8) : List Int := l.map fun b => (b.toNat : Int)
theorem bytes_mk (l : List UInt8) : bytesOf ⟨l.toArray⟩ = nums l := rfl
theorem toList_iff (s : ByteArray) (l : List UInt8) : s.toList = l ↔ bytesOf s = nums l := by
  rw [ByteArray.toList_eq]
  constructor
  · intro h; unfold bytesOf; rw [h]; rfl
  · intro h
    have : s = ⟨l.toArray⟩ := bytes_inj h
    rw [this]
theorem is_none (s : ByteArray) : s.toList = ([] : List UInt8) ↔ bytesOf s = [] := toList_iff s []
theorem is_dot (s : ByteArray) : s.toList = ([46] : List UInt8) ↔ bytesOf s = [46] := toList_iff s [46]
theorem is_up (s : ByteArray) : s.toList = ([46, 46] : List UInt8) ↔ bytesOf s = [46, 46] := toList_iff s [46, 46]
theorem strOf_bytes (y : ByteArray) : strOfNums (bytesOf y) = y := bytes_inj (bytes_of_nums (bytes_range y))
/-! The program's -/
theorem step_map (out : List ByteArray) (s : ByteArray) : (norm_Dots.step out s).map bytesOf = stepL (out.map bytesOf) (bytesOf s) := by
  unfold norm_Dots.step stepL
  by_cases h1 : s.toList = [46]
  · rw [if_pos h1, if_pos ((is_dot s).1 h1)]
  rw [if_neg h1, if_neg (fun h => h1 ((is_dot s).2 h))]
  by_cases h2 : s.toList = [46, 46]
  · rw [if_pos h2, if_pos ((is_up s).1 h2), List.map_dropLast]
  · rw [if_neg h2, if_neg (fun h => h2 ((is_up s).2 h)), List.map_append]; rfl
theorem fold_map : ∀ (l out : List ByteArray), (l.foldl norm_Dots.step out).map bytesOf = (l.map bytesOf).foldl stepL (out.map bytesOf) := by
  intro l
  induction l with
  | nil => intro out; rfl
  | cons s l ih => intro out; rw [List.foldl_cons, ih, step_map]; rfl
theorem last_map (l : List ByteArray) : (l.map bytesOf).getLastD [] = bytesOf (l.getLastD ByteArray.empty) := by
  by_cases h : l = []
  · subst h; rfl
  · obtain ⟨m, x, rfl⟩ : ∃ m x, l = m ++ [x] := ⟨l.dropLast, l.getLast h, (List.dropLast_concat_getLast h).symm⟩
    rw [List.map_append, List.map_singleton, getLastD_concat]
    congr 1
    simp
theorem walk_map (l : List ByteArray) : (norm_Dots.walk l).map bytesOf = walkL (l.map bytesOf) := by
  unfold norm_Dots.walk walkL
  rw [last_map]
  by_cases h : (l.getLastD ByteArray.empty).toList = []
  · rw [if_pos h, if_pos ((is_none _).1 h), List.map_dropLast]
  · rw [if_neg h, if_neg (fun h2 => h ((is_none _).2 h2))]
theorem dec_iff {p q : Prop} [Decidable p] [Decidable q] (h : p ↔ q) : decide p = decide q := by
  by_cases hp : p
  · rw [decide_eq_true hp, decide_eq_true (h.1 hp)]
  · rw [decide_eq_false hp, decide_eq_false (fun hq => hp (h.2 hq))]
theorem ends_map (s : ByteArray) : norm_Dots.ends s = endsL (bytesOf s) := by
  unfold norm_Dots.ends endsL
  rw [dec_iff (is_none s), dec_iff (is_dot s), dec_iff (is_up s)]
theorem text_map (l : List ByteArray) : nums (norm_Dots.text l) = joinL (l.map bytesOf) := by
  induction l with
  | nil => rfl
  | cons s l ih =>
    have e : norm_Dots.text (s :: l) = 47 :: s.data.toList ++ norm_Dots.text l := rfl
    have e2 : joinL ((s :: l).map bytesOf) = 47 :: bytesOf s ++ joinL (l.map bytesOf) := rfl
    rw [e, e2, ← ih]
    unfold nums bytesOf
    rw [List.map_append]; rfl
theorem tell_map (out : List ByteArray) (e : Bool) : nums (norm_Dots.tell out e) = tellL (out.map bytesOf) e := by
  unfold norm_Dots.tell tellL
  have h1 : nums (norm_Dots.text out ++ (if e = true ∨ out.length = 0 then [47] else [])) = nums (norm_Dots.text out) ++ nums (if e = true ∨ out.length = 0 then [47] else []) := List.map_append
  rw [h1, text_map]
  by_cases h : e = true ∨ out.length = 0
  · rw [if_pos h, if_pos (by
      rcases h with h | h
      · exact .inl h
      · rw [List.eq_nil_of_length_eq_zero h]; exact .inr rfl)]; rfl
  · rw [if_neg h, if_neg (fun h2 => h (by
      rcases h2 with h2 | h2
      · exact .inl h2
      · have := congrArg List.length h2
        rw [List.length_map] at this
        exact .inr this))]; rfl
theorem segs_map : ∀ (k : Nat) (s : ByteArray), Lib.countB s ⟨#[47]⟩ = k → (Lib.splitB ⟨#[47]⟩ 0 k s).map bytesOf = splitL [] (bytesOf s) := by
  intro k
  induction k with
  | zero =>
    intro s h
    have hc : s.data.toList.count 47 = 0 := by rw [← Lib.count_one]; exact h
    have hn : ∀ c ∈ bytesOf s, c ≠ 47 := by
      intro c hc2 h47
      obtain ⟨b, hb, rfl⟩ := List.mem_map.1 hc2
      have : b = 47 := UInt8.toNat_inj.1 (by show b.toNat = 47; omega)
      rw [this] at hb
      exact List.count_eq_zero.1 hc hb
    have := splitL_on (bytesOf s) [] [] hn
    rw [List.append_nil, List.nil_append] at this
    rw [this]; rfl
  | succ k ih =>
    intro s h
    have hc : s.data.toList.count 47 = k + 1 := by rw [← Lib.count_one]; exact h
    have hm : (47 : UInt8) ∈ s.data.toList := List.count_pos_iff.1 (by omega)
    obtain ⟨a, b, hd, hna⟩ := List.eq_append_cons_of_mem hm
    have hna2 : ∀ x ∈ nums a, x ≠ 47 := by
      intro c hc2 h47
      obtain ⟨y, hy, rfl⟩ := List.mem_map.1 hc2
      have : y = 47 := UInt8.toNat_inj.1 (by show y.toNat = 47; omega)
      rw [this] at hy; exact hna hy
    have hb : bytesOf s = nums a ++ 47 :: nums b := by
      unfold bytesOf
      rw [hd]; unfold nums; rw [List.map_append]; rfl
    have hla : (nums a).length = a.length := List.length_map ..
    have hix : Lib.indexB s ⟨#[47]⟩ = (a.length : Int) := by
      have h1 : Lib.indexB s ⟨#[47]⟩ = Lib.indexByte s.data.toList 47 := Lib.index_one _ 47
      rw [h1]
      have hb' : (s.data.toList.map fun b => (b.toNat : Int)) = nums a ++ 47 :: nums b := hb
      refine idx_hit 47 s.data.toList a.length (by rw [hd]; simp) ?_ ?_
      · rw [hb', List.getD_eq_getElem?_getD, List.getElem?_append_right (by omega), hla, Nat.sub_self]; rfl
      · rw [hb', List.take_left' hla]; exact hna2
    have hsd := size_data s
    have hlen : s.size = a.length + 1 + b.length := by rw [hsd, hd]; simp; omega
    rw [Lib.splitB_hit ⟨#[47]⟩ 0 k s a.length hix, List.map_cons, Nat.add_zero]
    have h1 : (⟨#[47]⟩ : ByteArray).size = 1 := rfl
    rw [h1]
    have e1 : bytesOf (s.extract 0 a.length) = nums a := by rw [bytes_extract, hb, List.drop_zero, List.take_left' hla]
    have e2 : (s.extract (a.length + 1) s.size).data.toList = b := by
      rw [data_extract, List.take_of_length_le (by omega), hd, ← List.drop_drop, List.drop_left]; rfl
    have e3 : bytesOf (s.extract (a.length + 1) s.size) = nums b := by unfold bytesOf; rw [e2]; rfl
    have e4 : Lib.countB (s.extract (a.length + 1) s.size) ⟨#[47]⟩ = k := by
      have h2 : Lib.countB (s.extract (a.length + 1) s.size) ⟨#[47]⟩ = (s.extract (a.length + 1) s.size).data.toList.count 47 := Lib.count_one 47 _
      rw [h2, e2]
      rw [hd, List.count_append, List.count_cons_self, List.count_eq_zero.2 hna] at hc
      omega
    rw [ih _ e4, e1, e3, hb, splitL_on _ _ _ hna2, List.nil_append, splitL, if_pos rfl]
theorem bare_map (s : ByteArray) : bytesOf (norm_Dots.bare s) = bareL (bytesOf s) := by
  unfold norm_Dots.bare
  rw [bytes_mk]
  show nums (Lib.trimPrefix s.data.toList [47]) = bareL (nums s.data.toList)
  generalize s.data.toList = l
  unfold Lib.trimPrefix Lib.hasPrefix
  cases l with
  | nil => rfl
  | cons x r =>
    have hp : List.isPrefixOf [47] (x :: r) = (47 == x) := by
      show ((47 : UInt8) == x && List.isPrefixOf [] r) = _
      rw [show List.isPrefixOf ([] : List UInt8) r = true by cases r <;> rfl, Bool.and_true]
    rw [hp]
    show _ = (if (x.toNat : Int) = 47 then nums r else (x.toNat : Int) :: nums r)
    by_cases h : x = 47
    · subst h; rw [if_pos (by decide), if_pos (by decide)]; rfl
    · have h2 : ¬ (x.toNat : Int) = 47 := fun e => h (UInt8.toNat_inj.1 (by show x.toNat = 47; omega))
      rw [if_neg (by simp; exact fun e => h e.symm), if_neg h2]; rfl
theorem all_map (s : ByteArray) : nums (norm_Dots.all s) = dotsL (bytesOf s) := by
  unfold norm_Dots.all
  rw [tell_map, fold_map, walk_map, ends_map, ← last_map]
  have h : (norm_Dots.segs (norm_Dots.bare s)).map bytesOf = splitL [] (bareL (bytesOf s)) := by
    rw [← bare_map]; exact segs_map _ _ rfl
  rw [h]; rfl
/-! Lengths -/
theorem join_len (N : Nat) : ∀ l : List (List Int), (∀ s ∈ l, s.length ≤ N) → (joinL l).length ≤ l.length * (N + 1) := by
  intro l
  induction l with
  | nil => intro _; exact Nat.zero_le _
  | cons s l ih =>
    intro h
    have e : joinL (s :: l) = 47 :: s ++ joinL l := rfl
    have := ih fun x hx => h x (List.mem_cons_of_mem _ hx)
    have := h s List.mem_cons_self
    rw [e, List.length_append, List.length_cons, List.length_cons, Nat.succ_mul]; omega
theorem fold_len : ∀ (l out : List (List Int)), (l.foldl stepL out).length ≤ out.length + l.length := by
  intro l
  induction l with
  | nil => intro out; exact Nat.le_refl _
  | cons s l ih =>
    intro out
    rw [List.foldl_cons, List.length_cons]
    have h1 := ih (stepL out s)
    have h2 : (stepL out s).length ≤ out.length + 1 := by
      unfold stepL
      split
      · omega
      · split
        · rw [List.length_dropLast]; omega
        · rw [List.length_append, List.length_singleton]; omega
    omega
theorem split_count : ∀ (l cur : List Int), (splitL cur l).length ≤ l.length + 1 := by
  intro l
  induction l with
  | nil => intro cur; exact Nat.le_refl _
  | cons c l ih =>
    intro cur
    rw [splitL]
    split
    · rw [List.length_cons, List.length_cons]; exact Nat.succ_le_succ (ih _)
    · rw [List.length_cons]; exact Nat.le_succ_of_le (ih _)
theorem split_len : ∀ (l cur : List Int), ∀ s ∈ splitL cur l, s.length ≤ cur.length + l.length := by
  intro l
  induction l with
  | nil => intro cur s hs; rw [splitL, List.mem_singleton] at hs; rw [hs]; omega
  | cons c l ih =>
    intro cur s hs
    rw [splitL] at hs
    rw [List.length_cons]
    split at hs
    · rcases List.mem_cons.1 hs with rfl | hs
      · omega
      · have := ih _ s hs; simp only [List.length_nil] at this; omega
    · have := ih _ s hs
      rw [List.length_append, List.length_singleton] at this; omega
theorem walk_len (l : List (List Int)) : (walkL l).length ≤ l.length := by
  unfold walkL
  split
  · rw [List.length_dropLast]; omega
  · exact Nat.le_refl _
theorem bare_len (l : List Int) : (bareL l).length ≤ l.length := by
  unfold bareL
  split
  · exact Nat.le_refl _
  · split
    · simp
    · exact Nat.le_refl _
theorem outs_len (l : List Int) (h : l.length ≤ 1100) : (joinL (outL (splitL [] (bareL l)))).length ≤ 2000000 := by
  have h0 := bare_len l
  have h1 := split_count (bareL l) []
  have h2 := walk_len (splitL [] (bareL l))
  have h3 := fold_len (walkL (splitL [] (bareL l))) []
  have h4 := join_len 1100 (outL (splitL [] (bareL l))) fun s hs => by
    have := split_len (bareL l) [] s (out_mem hs).1
    simp only [List.length_nil] at this
    omega
  have h5 : (outL (splitL [] (bareL l))).length ≤ 1101 := by
    unfold outL
    simp only [List.length_nil] at h3
    omega
  have h6 := Nat.mul_le_mul_right 1101 h5
  omega
theorem dots_len (l : List Int) (h : l.length ≤ 1100) : (dotsL l).length ≤ 2000001 := by
  have := outs_len l h
  show (joinL (outL (splitL [] (bareL l))) ++ _).length ≤ _
  rw [List.length_append]
  split
  · rw [List.length_singleton]; omega
  · rw [List.length_nil]; omega
theorem dots_range (s : ByteArray) : ∀ c ∈ dotsL (bytesOf s), 0 ≤ c ∧ c ≤ 255 := dots_pure (P := fun c => 0 ≤ c ∧ c ≤ 255) (by omega) (bytes_range s)
def dotsB (s : ByteArray) : ByteArray := strOfNums (dotsL (bytesOf s))
theorem bytes_dots (s : ByteArray) : bytesOf (dotsB s) = dotsL (bytesOf s) := bytes_of_nums (dots_range s)
theorem dots_size (s : ByteArray) (h : s.size ≤ 1100) : (dotsB s).size ≤ 2000001 := by
  rw [size_bytes, bytes_dots]; exact dots_len _ (by rw [← size_bytes]; exact h)
theorem dots_norm (s : ByteArray) (hs : s.size ≤ 1100) : norm_Dots.f s = some (dotsB s) := by
  have hl : (norm_Dots.all s).length ≤ 140737488355328 := by
    have h1 := congrArg List.length (all_map s)
    have h2 := dots_len (bytesOf s) (by rw [← size_bytes]; exact hs)
    unfold nums at h1
    rw [List.length_map] at h1
    omega
  unfold norm_Dots.f
  rw [if_pos ⟨by omega, hl⟩]
  congr 1
  refine bytes_inj ?_
  rw [bytes_mk, all_map, bytes_dots]
/-! The document's -/
theorem bare_cons (c : Int) (r : List Int) : bareL (c :: r) = if c = 47 then r else c :: r := rfl
theorem walk_one (x : List Int) : walkL [x] = if x = [] then [] else [x] := rfl
theorem walk_cons (c : List Int) {l : List (List Int)} (h : l ≠ []) : walkL (c :: l) = c :: walkL l ∧ (c :: l).getLastD [] = l.getLastD [] := by
  obtain ⟨m, x, rfl⟩ := concat_of l h
  have e : c :: (m ++ [x]) = (c :: m) ++ [x] := rfl
  have h2 : (c :: (m ++ [x])).getLastD [] = (m ++ [x]).getLastD [] := by rw [e, getLastD_concat, getLastD_concat]
  refine ⟨?_, h2⟩
  unfold walkL
  rw [h2, getLastD_concat]
  split
  · rw [e, List.dropLast_concat, List.dropLast_concat]
  · rfl
theorem tell_ev (out : List ByteArray) (e : Bool) (hb : (joinL (out.map bytesOf)).length ≤ 2000000) (ho : out.length ≤ 5000) : Ev (fun k => ambryref23_Dots.l1 k out e (⟨#[]⟩ : ByteArray) 0) (strOfNums (tellL (out.map bytesOf) e)) := by
  have key : ∀ j, j ≤ out.length → ∀ acc : ByteArray, bytesOf acc ++ joinL ((out.drop j).map bytesOf) = joinL (out.map bytesOf) → Ev (fun k => ambryref23_Dots.l1 k out e acc (j : Int)) (strOfNums (tellL (out.map bytesOf) e)) := by
    refine up _ fun j hj ih acc ha => ?_
    refine Ev.step (fun k => ambryref23_Dots.l1.eq_2 out e acc (j : Int) k) ?_
    have hal : acc.size ≤ 2000000 := by
      have := congrArg List.length ha
      rw [List.length_append, ← size_bytes] at this; omega
    have s1 : (⟨#[47]⟩ : ByteArray).size = 1 := rfl
    by_cases hlt : j < out.length
    · rw [drop_cons out ByteArray.empty hlt, List.map_cons] at ha
      rw [rdOf_nat, wrap_succ (by omega)]
      generalize out.getD j ByteArray.empty = y at ha ⊢
      have e1 : joinL (bytesOf y :: (out.drop (j + 1)).map bytesOf) = 47 :: bytesOf y ++ joinL ((out.drop (j + 1)).map bytesOf) := rfl
      rw [e1] at ha
      have hl := congrArg List.length ha
      rw [List.length_append, List.length_append, List.length_cons, ← size_bytes, ← size_bytes] at hl
      refine ev_pos (by omega) (ev_pos (by omega) (ev_pos (by omega) (ev_pos (by rw [size_append, s1]; omega) (ih hlt _ ?_))))
      rw [← ha, bytes_append, bytes_append]
      simp only [List.append_assoc]
      rfl
    · rw [List.drop_of_length_le (by omega)] at ha
      have ha2 : bytesOf acc = joinL (out.map bytesOf) := by rw [← ha]; exact (List.append_nil _).symm
      have hslash : bytesOf (acc ++ (⟨#[47]⟩ : ByteArray)) = joinL (out.map bytesOf) ++ [47] := by rw [bytes_append, ha2]; rfl
      refine ev_neg (by omega) ?_
      by_cases he : e = true
      · refine ev_pos he (ev_pos (by omega) (ev_ret ?_))
        rw [← strOf_bytes (acc ++ (⟨#[47]⟩ : ByteArray)), hslash]
        unfold tellL
        rw [if_pos (.inl he)]
      · refine ev_neg he ?_
        by_cases h0 : out.map bytesOf = []
        · refine ev_pos ((is_none acc).2 (by rw [ha2, h0]; rfl)) (ev_pos (by omega) (ev_ret ?_))
          rw [← strOf_bytes (acc ++ (⟨#[47]⟩ : ByteArray)), hslash]
          unfold tellL
          rw [if_pos (.inr h0)]
        · have hne : ¬ acc.toList = [] := fun h => by
            have := (is_none acc).1 h
            rw [ha2] at this
            cases hm : out.map bytesOf with
            | nil => exact h0 hm
            | cons x l => rw [hm] at this; cases this
          refine ev_neg hne (ev_ret ?_)
          unfold tellL
          rw [if_neg (fun h => h.elim he h0), List.append_nil, ← ha2, strOf_bytes]
  exact key 0 (Nat.zero_le _) _ rfl
/-- What is told of segments that are left. -/
def resL (out : List ByteArray) (R : List (List Int)) : List Int := tellL ((walkL R).foldl stepL (out.map bytesOf)) (endsL (R.getLastD []))
section
variable {P : ByteArray}
theorem dots_stop (out : List ByteArray) (e : Bool) (hb : (joinL (out.map bytesOf)).length ≤ 2000000) (ho : out.length ≤ 5000) (x : Int) (hP : P.size ≤ 2000) : Ev (fun k => ambryref23_Dots.l0 k P out e x ((P.size + 1 : Nat) : Int)) (strOfNums (tellL (out.map bytesOf) e)) :=
  Ev.step (fun k => ambryref23_Dots.l0.eq_2 P out e x _ k) (ev_neg (by omega) (tell_ev out e hb ho))
theorem take_last (out : List ByteArray) : (out.take (out.length - 1)).map bytesOf = (out.map bytesOf).dropLast := by
  rw [← List.map_dropLast, List.dropLast_eq_take]
/-- One segment: what is done with it; where it is the last one or not. -/
theorem seg_ev (out : List ByteArray) (q : ByteArray) (i : Nat) (last : Bool) (r : ByteArray) (ho : out.length ≤ 5000) (hi : i ≤ 2000)
    (next : ∀ (o : List ByteArray) (e : Bool), o.map bytesOf = stepL (out.map bytesOf) (bytesOf q) → (bytesOf q = [] → last = true → False) → o.length ≤ out.length + 1 → (e = (last && endsL (bytesOf q)) ∨ (last = false ∧ e = false)) → Ev (fun k => ambryref23_Dots.l0 k P o e ((i + 1 : Nat) : Int) ((i + 1 : Nat) : Int)) r)
    (none : bytesOf q = [] → last = true → Ev (fun k => ambryref23_Dots.l0 k P out true ((i + 1 : Nat) : Int) ((i + 1 : Nat) : Int)) r)
    (b : Nat) (hb : b ≤ i) (hiP : i ≤ P.size) (hq : P.extract b i = q) (hlast : ((i : Int) == (P.size : Int)) = last) :
    Ev (fun k => ambryref23_Dots.j3 k P out false (b : Int) (i : Int) false) r := by
  refine Ev.step (fun k => ambryref23_Dots.j3.eq_2 P out false (b : Int) (i : Int) false k) (ev_neg (by decide) (ev_pos (by omega) (ev_pos (by omega) (ev_pos (by omega) ?_))))
  rw [Int.toNat_natCast, Int.toNat_natCast, hq, hlast]
  by_cases h1 : q.toList = [46]
  · have hb1 := (is_dot q).1 h1
    have hst : stepL (out.map bytesOf) (bytesOf q) = out.map bytesOf := by unfold stepL; rw [if_pos hb1]
    refine ev_pos h1 ?_
    rw [show (q.toList == ([46] : List UInt8)) = true by rw [h1]; rfl]
    refine Ev.step (fun k => ambryref23_Dots.j4.eq_2 P out false (i : Int) q last true k) (ev_pos rfl (ev_neg (by rw [h1]; decide) ?_))
    rw [wrap_succ (n := i) (by omega)]
    exact next out last hst.symm (fun h => by rw [hb1] at h; cases h) (Nat.le_succ _) (.inl (by rw [hb1]; cases last <;> rfl))
  refine ev_neg h1 ?_
  by_cases h2 : q.toList = [46, 46]
  · have hb2 := (is_up q).1 h2
    have hst : stepL (out.map bytesOf) (bytesOf q) = (out.map bytesOf).dropLast := by unfold stepL; rw [if_neg (by rw [hb2]; decide), if_pos hb2]
    rw [show (q.toList == ([46, 46] : List UInt8)) = true by rw [h2]; rfl]
    refine Ev.step (fun k => ambryref23_Dots.j4.eq_2 P out false (i : Int) q last true k) (ev_pos rfl (ev_pos h2 ?_))
    rw [wrap_succ (n := i) (by omega)]
    have hend : last = (last && endsL (bytesOf q)) := by rw [hb2]; cases last <;> rfl
    by_cases h0 : (out.length : Int) > 0
    · have hw : wrap64 ((out.length : Int) - 1) = ((out.length - 1 : Nat) : Int) := by unfold wrap64; omega
      rw [hw, Int.toNat_natCast]
      clear hw
      refine ev_pos h0 (ev_pos (by omega) (ev_pos (by omega) (next _ last ?_ (fun h => by rw [hb2] at h; cases h) (by rw [List.length_take]; omega) (.inl hend))))
      rw [hst, take_last]
    · refine ev_neg h0 (next out last ?_ (fun h => by rw [hb2] at h; cases h) (Nat.le_succ _) (.inl hend))
      rw [hst, List.eq_nil_of_length_eq_zero (show out.length = 0 by omega)]; rfl
  · have hn1 : ¬ bytesOf q = [46] := fun h => h1 ((is_dot q).2 h)
    have hn2 : ¬ bytesOf q = [46, 46] := fun h => h2 ((is_up q).2 h)
    have hst : stepL (out.map bytesOf) (bytesOf q) = (out ++ [q]).map bytesOf := by unfold stepL; rw [if_neg hn1, if_neg hn2, List.map_append]; rfl
    rw [show (q.toList == ([46, 46] : List UInt8)) = false from beq_false_of_ne h2]
    refine Ev.step (fun k => ambryref23_Dots.j4.eq_2 P out false (i : Int) q last false k) (ev_neg (by decide) ?_)
    rw [wrap_succ (n := i) (by omega)]
    cases last with
    | true =>
      refine ev_pos rfl ?_
      by_cases h0 : q.toList = []
      · exact ev_pos h0 (none ((is_none q).1 h0) rfl)
      · have hn0 : ¬ bytesOf q = [] := fun h => h0 ((is_none q).2 h)
        refine ev_neg h0 (ev_pos (by omega) (next _ false hst.symm (fun h => absurd h hn0) (by rw [List.length_append]; exact Nat.le_refl _) (.inl ?_)))
        unfold endsL
        rw [decide_eq_false hn0, decide_eq_false hn1, decide_eq_false hn2]; rfl
    | false => exact ev_neg (by decide) (ev_pos (by omega) (next _ false hst.symm (fun _ h => by cases h) (by rw [List.length_append]; exact Nat.le_refl _) (.inr ⟨rfl, rfl⟩)))
theorem dots_loop (hP : P.size ≤ 2000) : ∀ (m i : Nat), P.size - i ≤ m → i ≤ P.size → ∀ (out : List ByteArray) (b : Nat), b ≤ i → out.length ≤ i → (joinL ((walkL (splitL (((bytesOf P).take i).drop b) ((bytesOf P).drop i))).foldl stepL (out.map bytesOf))).length ≤ 2000000 →
    Ev (fun k => ambryref23_Dots.l0 k P out false (b : Int) (i : Int)) (strOfNums (resL out (splitL (((bytesOf P).take i).drop b) ((bytesOf P).drop i)))) := by
  have hz := size_bytes P
  have hlast : ∀ (out : List ByteArray) (b : Nat), b ≤ P.size → out.length ≤ P.size → (joinL ((walkL [((bytesOf P).take P.size).drop b]).foldl stepL (out.map bytesOf))).length ≤ 2000000 → Ev (fun k => ambryref23_Dots.l0 k P out false (b : Int) (P.size : Int)) (strOfNums (resL out [((bytesOf P).take P.size).drop b])) := by
    intro out b hb ho hJ
    refine Ev.step (fun k => ambryref23_Dots.l0.eq_2 P out false (b : Int) _ k) (ev_pos (by omega) (ev_neg (by omega) ?_))
    have hq : bytesOf (P.extract b P.size) = ((bytesOf P).take P.size).drop b := bytes_extract _ _ _
    rw [← hq] at hJ ⊢
    unfold resL
    have hgl : ([bytesOf (P.extract b P.size)] : List (List Int)).getLastD [] = bytesOf (P.extract b P.size) := rfl
    rw [hgl]
    obtain ⟨q, hq2⟩ : ∃ q, P.extract b P.size = q := ⟨_, rfl⟩
    rw [hq2] at hJ ⊢
    refine seg_ev out q P.size true _ (by omega) hP (fun o e h1 h2 h3 h4 => ?_) (fun h1 _ => ?_) b hb (Nat.le_refl _) hq2 (beq_self_eq_true _)
    · have hw : walkL [bytesOf q] = [bytesOf q] := by
        rw [walk_one, if_neg (fun h => h2 h rfl)]
      have he : e = endsL (bytesOf q) := by
        rcases h4 with h4 | h4
        · rw [h4, Bool.true_and]
        · cases h4.1
      have hf : [bytesOf q].foldl stepL (out.map bytesOf) = o.map bytesOf := by rw [h1]; rfl
      rw [hw, hf] at hJ ⊢
      rw [← he]
      exact dots_stop o e hJ (by omega) _ hP
    · have hw : walkL [bytesOf q] = [] := by
        rw [walk_one, if_pos h1]
      have he : endsL (bytesOf q) = true := by rw [h1]; rfl
      rw [hw] at hJ ⊢
      rw [he]
      exact dots_stop out true hJ (by omega) _ hP
  intro m
  induction m with
  | zero =>
    intro i h hi out b hb ho hJ
    obtain rfl : i = P.size := by omega
    have hd : (bytesOf P).drop P.size = [] := List.drop_eq_nil_of_le (by omega)
    rw [hd] at hJ ⊢
    exact hlast out b hb ho hJ
  | succ m ih =>
    intro i h hi out b hb ho hJ
    by_cases hlt : i < P.size
    case neg =>
      obtain rfl : i = P.size := by omega
      have hd : (bytesOf P).drop P.size = [] := List.drop_eq_nil_of_le (by omega)
      rw [hd] at hJ ⊢
      exact hlast out b hb ho hJ
    have ht := take_one (bytesOf P) hb (show i < (bytesOf P).length by omega)
    rw [drop_cons (bytesOf P) 0 (show i < (bytesOf P).length by omega), splitL] at hJ ⊢
    refine Ev.step (fun k => ambryref23_Dots.l0.eq_2 P out false (b : Int) (i : Int) k) (ev_pos (by omega) (ev_pos (by omega) (ev_pos (by omega) ?_)))
    rw [bt_nat]
    by_cases hc : (bytesOf P).getD i 0 = 47
    · rw [if_pos hc] at hJ ⊢
      rw [show ((bytesOf P).getD i 0 != 47) = false by rw [hc]; rfl]
      have hR := splitL_ne ((bytesOf P).drop (i + 1)) []
      obtain ⟨hw, hgl⟩ := walk_cons (((bytesOf P).take i).drop b) hR
      unfold resL
      rw [hw, List.foldl_cons] at hJ ⊢
      rw [hgl]
      have hq : bytesOf (P.extract b i) = ((bytesOf P).take i).drop b := bytes_extract _ _ _
      rw [← hq] at hJ ⊢
      obtain ⟨q, hq2⟩ : ∃ q, P.extract b i = q := ⟨_, rfl⟩
      rw [hq2] at hJ ⊢
      refine seg_ev out q i false _ (by omega) (by omega) (fun o e h1 h2 h3 h4 => ?_) (fun _ h2 => by cases h2) b hb (by omega) hq2 (beq_false_of_ne (by omega))
      have he : e = false := by
        rcases h4 with h4 | h4
        · rw [h4, Bool.false_and]
        · exact h4.2
      have hcur : ((bytesOf P).take (i + 1)).drop (i + 1) = [] := List.drop_eq_nil_of_le (by rw [List.length_take]; omega)
      have := ih (i + 1) (by omega) (by omega) o (i + 1) (Nat.le_refl _) (by omega)
      rw [hcur] at this
      unfold resL at this
      rw [← h1] at hJ ⊢
      rw [he]
      exact this hJ
    · rw [if_neg hc] at hJ ⊢
      rw [show ((bytesOf P).getD i 0 != 47) = true from bne_iff_ne.2 hc]
      refine Ev.step (fun k => ambryref23_Dots.j3.eq_2 P out false (b : Int) (i : Int) true k) (ev_pos rfl ?_)
      rw [wrap_succ (by omega)]
      rw [← ht] at hJ ⊢
      exact ih (i + 1) (by omega) (by omega) out b (by omega) (by omega) hJ
end
theorem dots_ref (s : ByteArray) (hs : s.size ≤ 1100) : Ev (fun k => ambryref23_Dots.f k s) (dotsB s) := by
  have hz := size_bytes s
  have run : ∀ P : ByteArray, bytesOf P = 47 :: bareL (bytesOf s) → Ev (fun k => ambryref23_Dots.j1 k P) (dotsB s) := by
    intro P hP
    have hb := bare_len (bytesOf s)
    have hPz : P.size = (bareL (bytesOf s)).length + 1 := by rw [size_bytes, hP]; rfl
    have e1 : ((bytesOf P).take 1).drop 1 = [] := by rw [hP]; rfl
    have e2 : (bytesOf P).drop 1 = bareL (bytesOf s) := by rw [hP]; rfl
    have hJ : (joinL ((walkL (splitL (((bytesOf P).take 1).drop 1) ((bytesOf P).drop 1))).foldl stepL (([] : List ByteArray).map bytesOf))).length ≤ 2000000 := by
      rw [e1, e2]
      exact outs_len (bytesOf s) (by omega)
    have h := dots_loop (P := P) (by omega) P.size 1 (by omega) (by omega) [] 1 (Nat.le_refl _) (Nat.zero_le _) hJ
    rw [e1, e2] at h
    exact Ev.step (fun k => ambryref23_Dots.j1.eq_2 P k) h
  refine Ev.congr (fun k => ambryref23_Dots.f.eq_1 k s) ?_
  have s1 : (⟨#[47]⟩ : ByteArray).size = 1 := rfl
  have slash : Ev (fun k => ambryref23_Dots.j1 k ((⟨#[47]⟩ : ByteArray) ++ s)) (dotsB s) ∨ ∃ r, bytesOf s = 47 :: r := by
    cases hb : bytesOf s with
    | nil => exact .inl (run _ (by rw [bytes_append, hb]; rfl))
    | cons c r =>
      by_cases hc : c = 47
      · exact .inr ⟨r, by rw [hc]⟩
      · refine .inl (run _ ?_)
        rw [bytes_append, hb]
        show 47 :: c :: r = 47 :: bareL (c :: r)
        rw [bare_cons, if_neg hc]
  have jt : ∀ h : Ev (fun k => ambryref23_Dots.j1 k ((⟨#[47]⟩ : ByteArray) ++ s)) (dotsB s), Ev (fun k => ambryref23_Dots.j0 k s true) (dotsB s) := fun h =>
    Ev.step (fun k => ambryref23_Dots.j0.eq_2 s true k) (ev_pos rfl (ev_pos (by omega) h))
  by_cases h0 : s.toList = []
  · rcases slash with h | ⟨r, h⟩
    · exact ev_pos h0 (jt h)
    · rw [(is_none s).1 h0] at h; cases h
  · have hne : bytesOf s ≠ [] := fun h => h0 ((is_none s).2 h)
    have hpos : 0 < s.size := by
      rw [hz]; exact List.length_pos_iff.2 hne
    have hbt : bt s 0 = (bytesOf s).getD 0 0 := bt_nat s 0
    refine ev_neg h0 (ev_pos (by omega) ?_)
    rw [hbt]
    by_cases hc : (bytesOf s).getD 0 0 = 47
    · rw [show ((bytesOf s).getD 0 0 != 47) = false by rw [hc]; rfl]
      refine Ev.step (fun k => ambryref23_Dots.j0.eq_2 s false k) (ev_neg (by decide) (run s ?_))
      cases hb : bytesOf s with
      | nil => exact absurd hb hne
      | cons c r =>
        rw [hb] at hc
        have hc2 : c = 47 := hc
        subst hc2
        rw [bare_cons, if_pos rfl]
    · rw [show ((bytesOf s).getD 0 0 != 47) = true from bne_iff_ne.2 hc]
      rcases slash with h | ⟨r, h⟩
      · exact jt h
      · rw [h] at hc; exact absurd rfl hc
/-! Whole addresses -/
def targetE (e : ByteArray) : ByteArray × Bool := if (qCut e).2.2 = true then (dotsB (qCut e).1 ++ ((⟨#[63]⟩ : ByteArray) ++ (qCut e).2.1), true) else (dotsB (qCut e).1, true)
def targetB (s : ByteArray) : ByteArray × Bool := match escL (bytesOf s) with
  | none => ((⟨#[]⟩ : ByteArray), false)
  | some y => targetE (strOfNums y)
theorem target_has {e : ByteArray} (h : (qCut e).2.2 = true) : targetE e = (dotsB (qCut e).1 ++ ((⟨#[63]⟩ : ByteArray) ++ (qCut e).2.1), true) := if_pos h
theorem target_not {e : ByteArray} (h : ¬ (qCut e).2.2 = true) : targetE e = (dotsB (qCut e).1, true) := if_neg h
theorem join_drop (l : List (List Int)) : (joinL l.dropLast).length ≤ (joinL l).length := by
  by_cases h : l = []
  · subst h; exact Nat.le_refl _
  · obtain ⟨m, x, rfl⟩ := Norm.concat_of l h
    rw [List.dropLast_concat, joinL_append, List.length_append]; omega
theorem fold_join : ∀ (l out : List (List Int)), (joinL (l.foldl stepL out)).length ≤ (joinL out).length + (joinL l).length := by
  intro l
  induction l with
  | nil => intro out; exact Nat.le_refl _
  | cons s l ih =>
    intro out
    have h1 := ih (stepL out s)
    have e1 : joinL (s :: l) = 47 :: s ++ joinL l := rfl
    have h2 : (joinL (stepL out s)).length ≤ (joinL out).length + (s.length + 1) := by
      unfold stepL
      split
      · omega
      · split
        · have := join_drop out; omega
        · rw [joinL_append, List.length_append]
          show _ + (47 :: s ++ []).length ≤ _
          rw [List.append_nil, List.length_cons]; omega
    rw [List.foldl_cons, e1, List.length_append, List.length_cons]
    omega
theorem walk_join (l : List (List Int)) : (joinL (walkL l)).length ≤ (joinL l).length := by
  unfold walkL
  split
  · exact join_drop l
  · exact Nat.le_refl _
theorem split_join_len : ∀ l cur : List Int, (joinL (splitL cur l)).length = cur.length + l.length + 1 := by
  intro l
  induction l with
  | nil =>
    intro cur
    show (47 :: cur ++ []).length = _
    rw [List.append_nil]; rfl
  | cons c l ih =>
    intro cur
    rw [splitL]
    split
    · have e1 : joinL (cur :: splitL [] l) = 47 :: cur ++ joinL (splitL [] l) := rfl
      rw [e1, List.length_append, ih, List.length_cons, List.length_cons, List.length_nil]; omega
    · rw [ih, List.length_append, List.length_singleton, List.length_cons]; omega
theorem dots_len2 (l : List Int) : (dotsL l).length ≤ l.length + 2 := by
  have h1 := fold_join (walkL (splitL [] (bareL l))) []
  have h2 := walk_join (splitL [] (bareL l))
  have h3 := split_join_len (bareL l) []
  have h4 := bare_len l
  have h5 : (joinL ([] : List (List Int))).length = 0 := rfl
  have h6 : ([] : List Int).length = 0 := rfl
  show (joinL (outL (splitL [] (bareL l))) ++ _).length ≤ _
  rw [List.length_append]
  have h7 : (joinL (outL (splitL [] (bareL l)))).length ≤ l.length + 1 := by unfold outL; omega
  split
  · rw [List.length_singleton]; omega
  · rw [List.length_nil]; omega
theorem dots_size2 (s : ByteArray) : (dotsB s).size ≤ s.size + 2 := by
  have := dots_len2 (bytesOf s)
  rw [size_bytes, bytes_dots, size_bytes s]; exact this
theorem cut_size (s : ByteArray) (i : Int) : (Leaf.cutAt s i).1.size ≤ s.size ∧ (Leaf.cutAt s i).2.1.size ≤ s.size := by
  have ext : ∀ a b, (s.extract a b).size ≤ s.size := fun a b => by
    rw [size_bytes, bytes_extract, size_bytes s, List.length_drop, List.length_take]; omega
  unfold Leaf.cutAt
  split
  · exact ⟨ext _ _, ext _ _⟩
  · exact ⟨Nat.le_refl _, Nat.zero_le _⟩
theorem esc_size {s : ByteArray} {y : List Int} (h : escL (bytesOf s) = some y) : (strOfNums y).size ≤ s.size := by
  rw [norm_Host.size, size_bytes]; exact esc_length _ _ h
theorem target_size {s : ByteArray} (hs : s.size ≤ 500) : (targetB s).1.size ≤ 1100 := by
  unfold targetB
  cases he : escL (bytesOf s) with
  | none => exact Nat.zero_le _
  | some y =>
    have hz := esc_size he
    show (targetE (strOfNums y)).1.size ≤ 1100
    generalize strOfNums y = e at hz ⊢
    have h1 := cut_size e (Lib.indexByte e.data.toList 63)
    have h2 : (qCut e).1.size ≤ e.size := h1.1
    have h3 : (qCut e).2.1.size ≤ e.size := h1.2
    have h4 := dots_size2 (qCut e).1
    by_cases hh : (qCut e).2.2 = true
    · rw [target_has hh]
      show (dotsB (qCut e).1 ++ ((⟨#[63]⟩ : ByteArray) ++ (qCut e).2.1)).size ≤ 1100
      have s1 : (⟨#[63]⟩ : ByteArray).size = 1 := rfl
      rw [size_append, size_append]; omega
    · rw [target_not hh]
      show (dotsB (qCut e).1).size ≤ 1100
      omega
theorem target_norm (s : ByteArray) (hs : s.size ≤ 1100) : Ev (fun k => norm_Target.f k s) (targetB s) := by
  refine Ev.congr (fun k => norm_Target.f.eq_1 k s) (ev_bind (esc_norm s (by omega)) ?_)
  unfold targetB
  cases he : escL (bytesOf s) with
  | none => exact ev_neg (by show ¬ (false = true); decide) (Ev.now _)
  | some y =>
    have hz := esc_size he
    have h1 := cut_size (strOfNums y) (Lib.indexByte (strOfNums y).data.toList 63)
    show Ev (fun k => if true = true then _ else _) (targetE (strOfNums y))
    refine ev_pos rfl ?_
    show Ev (fun k => (norm_Split.f (strOfNums y)).bind _) (targetE (strOfNums y))
    generalize strOfNums y = e at hz h1 ⊢
    have h2 : (qCut e).1.size ≤ e.size := h1.1
    have h3 : (qCut e).2.1.size ≤ e.size := h1.2
    have h4 := dots_size (qCut e).1 (by omega)
    have s1 : (⟨#[63]⟩ : ByteArray).size = 1 := rfl
    refine ev_some (split_norm e (by omega)) (ev_some (dots_norm _ (by omega)) ?_)
    by_cases hh : (qCut e).2.2 = true
    · rw [target_has hh]
      exact ev_pos hh (ev_pos (by omega) (ev_pos (by rw [size_append]; omega) (Ev.now _)))
    · rw [target_not hh]
      exact ev_neg hh (Ev.now _)
theorem target_ref (s : ByteArray) (hs : s.size ≤ 1100) : Ev (fun k => ambryref23_Target.f k s) (targetB s) := by
  refine Ev.congr (fun k => ambryref23_Target.f.eq_1 k s) (ev_bind (esc_ref s (by omega)) ?_)
  unfold targetB
  cases he : escL (bytesOf s) with
  | none => exact ev_neg (by show ¬ (false = true); decide) (Ev.now _)
  | some y =>
    have hz := esc_size he
    have h1 := cut_size (strOfNums y) (Lib.indexByte (strOfNums y).data.toList 63)
    show Ev (fun k => if true = true then _ else _) (targetE (strOfNums y))
    refine ev_pos rfl ?_
    show Ev (fun k => (ambryref23_Split.f k (strOfNums y)).bind _) (targetE (strOfNums y))
    generalize strOfNums y = e at hz h1 ⊢
    have h2 : (qCut e).1.size ≤ e.size := h1.1
    have h3 : (qCut e).2.1.size ≤ e.size := h1.2
    have h4 := dots_size (qCut e).1 (by omega)
    have s1 : (⟨#[63]⟩ : ByteArray).size = 1 := rfl
    refine ev_bind (split_ref e (by omega)) (ev_bind (dots_ref _ (by omega)) ?_)
    by_cases hh : (qCut e).2.2 = true
    · rw [target_has hh, ← ByteArray.append_assoc]
      exact ev_pos hh (ev_pos (by omega) (ev_pos (by rw [size_append]; omega) (Ev.now _)))
    · rw [target_not hh]
      exact ev_neg hh (Ev.now _)
theorem known_tab : ambrylaw23_known.f 60 = some true := by decide +kernel
theorem known_ev : Ev (fun k => ambrylaw23_known.f k) true := Ev.of (fun k => ambrylaw23_known.mono k) known_tab
end Go.Proofs.YtgpkgfdojfnafaaDoor.Plain
