/- Escapes, queries, hosts: what the program's functions tell and the document's, in plain words. -/
import Derived.Test.YtgpkgfdojfnafaaDoorNormTabs
set_option linter.unusedVariables false
set_option linter.unusedSimpArgs false
namespace Go.Proofs.YtgpkgfdojfnafaaDoor.Plain
open Go.RowKit Go.Proofs.YtgpkgfdojfnafaaDoor.K Go.Proofs.YtgpkgfdojfnafaaDoorW.PrintWords Go.Proofs.YtgpkgfdojfnafaaDoor.Norm

/-! Escapes -/
def escR : List Int → Int × Bool
  | a :: b :: _ => if 0 ≤ hexC a ∧ 0 ≤ hexC b then (16 * hexC a + hexC b, true) else (0, false)
  | _ => (0, false)
theorem escR_cons (a b : Int) (r : List Int) : escR (a :: b :: r) = if 0 ≤ hexC a ∧ 0 ≤ hexC b then (16 * hexC a + hexC b, true) else (0, false) := rfl
theorem escaped_ev (t : ByteArray) (rest : List Int) (ht : bytesOf t = 37 :: rest) : Ev (fun k => norm_escaped.f k t) (escR rest) := by
  have hz : t.size = rest.length + 1 := by rw [size_bytes, ht]; rfl
  have g : ∀ j : Nat, bt t (j : Int) = (37 :: rest).getD j 0 := fun j => by rw [bt_nat, ht]
  have hr := bytes_range t
  rw [ht] at hr
  have jt : Ev (fun k => norm_escaped.j0 k t true) (0, false) := Ev.step (fun k => norm_escaped.j0.eq_2 t true k) (ev_pos rfl (Ev.now _))
  refine Ev.congr (fun k => norm_escaped.f.eq_1 k t) ?_
  match rest, hz, g, hr with
  | [], hz, _, _ => exact ev_pos (by simp only [List.length_nil] at hz; omega) jt
  | [a], hz, _, _ => exact ev_pos (by simp only [List.length_cons, List.length_nil] at hz; omega) jt
  | a :: b :: r, hz, g, hr =>
    simp only [List.length_cons] at hz
    have e0 : bt t 0 = 37 := g 0
    have e1 : bt t 1 = a := g 1
    have e2 : bt t 2 = b := g 2
    have ha := hr a (by simp)
    have hb := hr b (by simp)
    have ta := hex_top a
    have tb := hex_top b
    refine ev_neg (by omega) (ev_pos (by omega) (ev_pos e0 (ev_pos (by omega) ?_)))
    rw [e1]
    refine ev_bind (digit_ev ha) ?_
    by_cases h1 : hexC a < 0
    · exact ev_pos h1 (ev_eq jt (by rw [escR_cons, if_neg (by omega)]))
    refine ev_neg h1 (ev_pos (by omega) ?_)
    rw [e2]
    refine ev_bind (digit_ev hb) ?_
    by_cases h2 : hexC b < 0
    · rw [decide_eq_true h2]
      exact ev_eq jt (by rw [escR_cons, if_neg (by omega)])
    rw [decide_eq_false h2]
    refine Ev.step (fun k => norm_escaped.j0.eq_2 t false k) (ev_neg (by decide) (ev_pos (by omega) ?_))
    rw [e1]
    refine ev_bind (digit_ev ha) (ev_pos (by omega) ?_)
    rw [e2]
    refine ev_bind (digit_ev hb) (ev_ret ?_)
    rw [escR_cons, if_pos ⟨by omega, by omega⟩, or_eq (by omega) ta (by omega) tb]
def finE (acc : List Int) (o : Option (List Int)) : ByteArray × Bool := match o with
  | none => ((⟨#[]⟩ : ByteArray), false)
  | some y => (strOfNums (acc ++ y), true)
theorem wrap_two {n : Nat} (h : n < 1000000000) : wrap64 ((n : Int) + 2) = ((n + 2 : Nat) : Int) := by unfold wrap64; omega
theorem finE_map (acc x : List Int) (o : Option (List Int)) : finE (acc ++ x) o = finE acc (o.map (x ++ ·)) := by
  cases o with
  | none => rfl
  | some y => show (strOfNums (acc ++ x ++ y), true) = (strOfNums (acc ++ (x ++ y)), true); rw [List.append_assoc]
theorem val_eq {a b : Int} (h0 : 0 ≤ a) (h1 : a ≤ 15) (h2 : 0 ≤ b) (h3 : b ≤ 15) : wrap64 (wrap64 (16 * a) + b) % 256 = 16 * a + b := by unfold wrap64; omega
theorem finE_one (acc : List Int) (c : Int) (o : Option (List Int)) : finE (acc ++ [c]) o = finE acc (o.map (c :: ·)) := finE_map acc [c] o
theorem enc_plain {v : Int} (h : plainC v = true) : encC v = [v] := if_pos h
theorem enc_else {v : Int} (h : ¬ plainC v = true) : encC v = [37, digU (v / 16), digU (v % 16)] := if_neg h
theorem esc_norm (s : ByteArray) (hs : s.size ≤ 1000000) : Ev (fun k => norm_Escapes.f k s) (finE [] (escL (bytesOf s))) := by
  have hz := size_bytes s
  have key : ∀ (m i : Nat), s.size - i ≤ m → i ≤ s.size → ∀ acc : List Int, acc.length ≤ i → Ev (fun k => norm_Escapes.l0 k s acc (i : Int)) (finE acc (escL ((bytesOf s).drop i))) := by
    intro m
    induction m with
    | zero =>
      intro i h hi acc ha
      have hd : (bytesOf s).drop i = [] := List.drop_eq_nil_of_le (by omega)
      refine Ev.step (fun k => norm_Escapes.l0.eq_2 s acc (i : Int) k) (ev_neg (by omega) (ev_ret ?_))
      rw [hd, escL_nil]; show _ = (strOfNums (acc ++ []), true); rw [List.append_nil]
    | succ m ih =>
      intro i h hi acc ha
      refine Ev.step (fun k => norm_Escapes.l0.eq_2 s acc (i : Int) k) ?_
      by_cases hlt : i < s.size
      case neg =>
        have hd : (bytesOf s).drop i = [] := List.drop_eq_nil_of_le (by omega)
        refine ev_neg (by omega) (ev_ret ?_)
        rw [hd, escL_nil]; show _ = (strOfNums (acc ++ []), true); rw [List.append_nil]
      refine ev_pos (by omega) (ev_pos (by omega) ?_)
      rw [bt_nat, drop_cons (bytesOf s) 0 (show i < (bytesOf s).length by omega), Int.toNat_natCast]
      by_cases hc : (bytesOf s).getD i 0 = 37
      case neg =>
        refine ev_neg hc (ev_pos (by omega) ?_)
        rw [wrap_succ (by omega), escL_plain hc, ← finE_one]
        exact ih (i + 1) (by omega) (by omega) _ (by rw [List.length_append, List.length_singleton]; omega)
      rw [hc]
      have ht : bytesOf (s.extract i s.size) = 37 :: (bytesOf s).drop (i + 1) := by
        rw [bytes_extract, List.take_of_length_le (by omega), drop_cons (bytesOf s) 0 (show i < (bytesOf s).length by omega), hc]
      refine ev_pos rfl (ev_pos (by omega) (ev_bind (escaped_ev _ _ ht) ?_))
      have hl := congrArg List.length (rfl : (bytesOf s).drop (i + 1) = (bytesOf s).drop (i + 1))
      have hlen : ((bytesOf s).drop (i + 1)).length = s.size - (i + 1) := by rw [List.length_drop, ← hz]
      have hrange : ∀ c ∈ (bytesOf s).drop (i + 1), 0 ≤ c ∧ c ≤ 255 := fun c hc => bytes_range s c (List.mem_of_mem_drop hc)
      have hdd : (bytesOf s).drop (i + 3) = ((bytesOf s).drop (i + 1)).drop 2 := by rw [List.drop_drop]
      generalize (bytesOf s).drop (i + 1) = rest at ht hlen hrange hdd ⊢
      match rest, hlen, hrange, hdd with
      | [], _, _, _ => exact ev_neg (by show ¬ (false = true); decide) (ev_ret (by rw [escL_short0]; rfl))
      | [a], _, _, _ => exact ev_neg (by show ¬ (false = true); decide) (ev_ret (by rw [escL_short1]; rfl))
      | a :: b :: r, hlen, hrange, hdd =>
        simp only [List.length_cons] at hlen
        have ta := hex_top a
        have tb := hex_top b
        rw [escL_hex]
        by_cases hh : 0 ≤ hexC a ∧ 0 ≤ hexC b
        case neg =>
          have he : escR (a :: b :: r) = (0, false) := if_neg hh
          rw [he, if_neg hh]
          exact ev_neg (by decide) (ev_ret rfl)
        have he : escR (a :: b :: r) = (16 * hexC a + hexC b, true) := if_pos hh
        rw [he, if_pos hh]
        have hv0 : 0 ≤ 16 * hexC a + hexC b := by omega
        have hv1 : 16 * hexC a + hexC b ≤ 255 := by omega
        generalize 16 * hexC a + hexC b = v at hv0 hv1 ⊢
        have hd2 : (bytesOf s).drop (i + 3) = r := hdd
        refine ev_pos rfl ?_
        dsimp only
        refine ev_some (plain_norm hv0 hv1) ?_
        rw [wrap_two (by omega), wrap_succ (by omega), ← hd2, ← finE_map]
        by_cases hp : plainC v = true
        · rw [enc_plain hp]
          exact ev_pos hp (ev_pos (by omega) (ih (i + 3) (by omega) (by omega) _ (by rw [List.length_append, List.length_singleton]; omega)))
        · rw [and_eq hv0 hv1, dig_eq (show 0 ≤ v / 16 by omega) (by omega), dig_eq (show 0 ≤ v % 16 by omega) (by omega), enc_else hp]
          refine ev_neg hp (ev_pos (by omega) (ev_pos (by omega) (ev_pos (by omega) (ev_pos (by omega) (ev_some rfl (ev_pos (show acc.length + 3 < 140737488355328 by omega) ?_))))))
          exact ih (i + 3) (by omega) (by omega) _ (by rw [List.length_append]; show acc.length + 3 ≤ i + 3; omega)
  exact Ev.congr (fun k => norm_Escapes.f.eq_1 k s) (key s.size 0 (by omega) (by omega) [] (Nat.le_refl _))
theorem esc_ref (s : ByteArray) (hs : s.size ≤ 1000000) : Ev (fun k => ambryref23_Escapes.f k s) (finE [] (escL (bytesOf s))) := by
  have hz := size_bytes s
  have key : ∀ (m i : Nat), s.size - i ≤ m → i ≤ s.size → ∀ acc : List Int, acc.length ≤ i → Ev (fun k => ambryref23_Escapes.l0 k s acc (i : Int)) (finE acc (escL ((bytesOf s).drop i))) := by
    intro m
    induction m with
    | zero =>
      intro i h hi acc ha
      have hd : (bytesOf s).drop i = [] := List.drop_eq_nil_of_le (by omega)
      refine Ev.step (fun k => ambryref23_Escapes.l0.eq_2 s acc (i : Int) k) (ev_neg (by omega) (ev_ret ?_))
      rw [hd, escL_nil]; show _ = (strOfNums (acc ++ []), true); rw [List.append_nil]
    | succ m ih =>
      intro i h hi acc ha
      refine Ev.step (fun k => ambryref23_Escapes.l0.eq_2 s acc (i : Int) k) ?_
      by_cases hlt : i < s.size
      case neg =>
        have hd : (bytesOf s).drop i = [] := List.drop_eq_nil_of_le (by omega)
        refine ev_neg (by omega) (ev_ret ?_)
        rw [hd, escL_nil]; show _ = (strOfNums (acc ++ []), true); rw [List.append_nil]
      have jt : Ev (fun k => ambryref23_Escapes.j1 k s acc (i : Int) true) ((⟨#[]⟩ : ByteArray), false) := Ev.step (fun k => ambryref23_Escapes.j1.eq_2 s acc (i : Int) true k) (ev_pos rfl (Ev.now _))
      refine ev_pos (by omega) (ev_pos (by omega) ?_)
      rw [bt_nat s i, drop_cons (bytesOf s) 0 (show i < (bytesOf s).length by omega), wrap_succ (n := i) (by omega), wrap_two (n := i) (by omega)]
      by_cases hc : (bytesOf s).getD i 0 = 37
      case neg =>
        refine ev_neg hc (ev_pos (by omega) ?_)
        rw [escL_plain hc, ← finE_one]
        exact ih (i + 1) (by omega) (by omega) _ (by rw [List.length_append, List.length_singleton]; omega)
      rw [hc]
      refine ev_pos rfl ?_
      have hlen : ((bytesOf s).drop (i + 1)).length = s.size - (i + 1) := by rw [List.length_drop, ← hz]
      have hrange : ∀ c ∈ (bytesOf s).drop (i + 1), 0 ≤ c ∧ c ≤ 255 := fun c hc => bytes_range s c (List.mem_of_mem_drop hc)
      have hrest : ∃ rest, (bytesOf s).drop (i + 1) = rest := ⟨_, rfl⟩
      obtain ⟨rest, hrest⟩ := hrest
      rw [hrest] at hlen hrange ⊢
      match rest, hrest, hlen, hrange with
      | [], _, hlen, _ =>
        simp only [List.length_nil] at hlen
        exact ev_pos (by omega) (ev_eq jt (by rw [escL_short0]; rfl))
      | [a], _, hlen, _ =>
        simp only [List.length_cons, List.length_nil] at hlen
        exact ev_pos (by omega) (ev_eq jt (by rw [escL_short1]; rfl))
      | a :: b :: r, hrest, hlen, hrange =>
        simp only [List.length_cons] at hlen
        have ga : bt s ((i + 1 : Nat) : Int) = a := by rw [bt_nat, getD_of_drop hrest]
        have hr2 : (bytesOf s).drop (i + 2) = b :: r := drop_next hrest
        have gb : bt s ((i + 2 : Nat) : Int) = b := by rw [bt_nat, getD_of_drop hr2]
        have hr3 : (bytesOf s).drop (i + 3) = r := drop_next hr2
        have ha' := hrange a (by simp)
        have hb' := hrange b (by simp)
        have ta := hex_top a
        have tb := hex_top b
        rw [escL_hex, ga, gb]
        refine ev_neg (by omega) (ev_pos (by omega) (ev_pos (by omega) (ev_bind (hex_ev ha') ?_)))
        by_cases h1 : hexC a < 0
        · refine ev_pos h1 (ev_eq jt ?_)
          rw [if_neg (by omega)]; rfl
        refine ev_neg h1 (ev_pos (by omega) (ev_pos (by omega) (ev_bind (hex_ev hb') ?_)))
        by_cases h2 : hexC b < 0
        · rw [decide_eq_true h2, if_neg (by omega)]; exact ev_eq jt rfl
        rw [decide_eq_false h2, if_pos ⟨by omega, by omega⟩]
        refine Ev.step (fun k => ambryref23_Escapes.j1.eq_2 s acc (i : Int) false k) (ev_neg (by decide) ?_)
        rw [wrap_succ (n := i) (by omega), wrap_two (n := i) (by omega), ga, gb]
        refine ev_pos (by omega) (ev_pos (by omega) (ev_bind (hex_ev ha') (ev_pos (by omega) (ev_pos (by omega) (ev_bind (hex_ev hb') ?_)))))
        rw [val_eq (a := hexC a) (b := hexC b) (by omega) ta (by omega) tb, wrap_succ (n := i + 2) (by omega)]
        have hv0 : 0 ≤ 16 * hexC a + hexC b := by omega
        have hv1 : 16 * hexC a + hexC b ≤ 255 := by omega
        generalize 16 * hexC a + hexC b = v at hv0 hv1 ⊢
        refine ev_some (plain_ref hv0 hv1) ?_
        rw [← hr3, ← finE_map]
        by_cases hp : plainC v = true
        · rw [enc_plain hp]
          exact ev_pos hp (ev_pos (by omega) (ih (i + 3) (by omega) (by omega) _ (by rw [List.length_append, List.length_singleton]; omega)))
        · rw [and_eq hv0 hv1, dig_eq (show 0 ≤ v / 16 by omega) (by omega), dig_eq (show 0 ≤ v % 16 by omega) (by omega), enc_else hp]
          refine ev_neg hp (ev_pos (by omega) (ev_pos (by omega) (ev_pos (by omega) (ev_pos (by omega) (ev_some rfl (ev_pos (show acc.length + 3 < 140737488355328 by omega) ?_))))))
          exact ih (i + 3) (by omega) (by omega) _ (by rw [List.length_append]; show acc.length + 3 ≤ i + 3; omega)
  exact Ev.congr (fun k => ambryref23_Escapes.f.eq_1 k s) (key s.size 0 (by omega) (by omega) [] (Nat.le_refl _))
/-! The query -/
def qCut (s : ByteArray) : ByteArray × ByteArray × Bool := Leaf.cutAt s (Lib.indexByte s.data.toList 63)
theorem split_norm (s : ByteArray) (hs : s.size ≤ 1000000) : norm_Split.f s = some (qCut s) := by
  have h : strings_Cut.f s (⟨#[63]⟩ : ByteArray) = some (qCut s) := if_pos (by omega)
  unfold norm_Split.f
  rw [h, Option.bind_some]
theorem idx_hit (c : UInt8) : ∀ (l : List UInt8) (i : Nat), i < l.length → (l.map fun b => (b.toNat : Int)).getD i 0 = (c.toNat : Int) → (∀ x ∈ (l.map fun b => (b.toNat : Int)).take i, x ≠ (c.toNat : Int)) → Lib.indexByte l c = i := by
  intro l
  induction l with
  | nil => intro i h; simp at h
  | cons b l ih =>
    intro i h h1 h2
    rw [Lib.indexByte]
    cases i with
    | zero =>
      have : b = c := UInt8.toNat_inj.1 (by have : (b.toNat : Int) = c.toNat := h1; omega)
      rw [this, if_pos (by simp)]; rfl
    | succ i =>
      have hb : (b == c) = false := beq_false_of_ne fun e => h2 (b.toNat : Int) (by simp) (by rw [e])
      have := ih i (by simp only [List.length_cons] at h; omega) h1 (fun x hx => h2 x (by simp only [List.map_cons, List.take_succ_cons]; exact List.mem_cons_of_mem _ hx))
      rw [hb, this, if_neg (by decide), if_neg (by first | (simp; done) | (simp; omega))]
      omega
theorem idx_none (c : UInt8) : ∀ (l : List UInt8), (∀ x ∈ (l.map fun b => (b.toNat : Int)), x ≠ (c.toNat : Int)) → Lib.indexByte l c = -1 := by
  intro l
  induction l with
  | nil => intro _; rfl
  | cons b l ih =>
    intro h
    have hb : (b == c) = false := beq_false_of_ne fun e => h (b.toNat : Int) (by simp) (by rw [e])
    rw [Lib.indexByte, hb, ih fun x hx => h x (by rw [List.map_cons]; exact List.mem_cons_of_mem _ hx), if_neg (by decide), if_pos (by decide)]
theorem split_ref (s : ByteArray) (hs : s.size ≤ 1000000) : Ev (fun k => ambryref23_Split.f k s) (qCut s) := by
  have hz := size_bytes s
  have key : ∀ i, i ≤ s.size → (∀ x ∈ (bytesOf s).take i, x ≠ 63) → Ev (fun k => ambryref23_Split.l0 k s (i : Int)) (qCut s) := by
    refine up _ fun i hi ih h => ?_
    refine Ev.step (fun k => ambryref23_Split.l0.eq_2 s (i : Int) k) ?_
    by_cases hlt : i < s.size
    · refine ev_pos (by omega) (ev_pos (by omega) ?_)
      rw [bt_nat, wrap_succ (by omega)]
      by_cases hc : (bytesOf s).getD i 0 = 63
      · refine ev_pos hc (ev_pos (by omega) (ev_pos (by omega) (ev_pos (by omega) (ev_ret ?_))))
        have hx : Lib.indexByte s.data.toList 63 = (i : Int) := idx_hit 63 s.data.toList i (by have : s.data.toList.length = s.size := (by rw [Array.length_toList]; rfl); omega) hc h
        unfold qCut Leaf.cutAt
        rw [hx, if_pos (by omega), Int.toNat_natCast, Int.toNat_natCast]
      · refine ev_neg hc (ih hlt fun x hx => ?_)
        have e := take_one (bytesOf s) (Nat.zero_le i) (show i < (bytesOf s).length by omega)
        rw [List.drop_zero, List.drop_zero] at e
        rw [e] at hx
        rcases List.mem_append.1 hx with hx | hx
        · exact h x hx
        · rw [List.mem_singleton.1 hx]; exact hc
    · refine ev_neg (by omega) (ev_ret ?_)
      rw [List.take_of_length_le (by omega)] at h
      unfold qCut Leaf.cutAt
      rw [idx_none 63 _ h, if_neg (by decide)]
  exact Ev.congr (fun k => ambryref23_Split.f.eq_1 k s) (key 0 (Nat.zero_le _) (fun x hx => by rw [List.take_zero] at hx; cases hx))
/-! Hosts -/
theorem size_data (b : ByteArray) : b.size = b.data.toList.length := by rw [Array.length_toList]; rfl
theorem data_extract (s : ByteArray) (a b : Nat) : (s.extract a b).data.toList = (s.data.toList.take b).drop a := by
  rw [ByteArray.data_extract, Array.toList_extract, List.extract_eq_take_drop, List.drop_take]
theorem data_inj {s t : ByteArray} (h : s.data.toList = t.data.toList) : s = t := by
  cases s; cases t
  exact congrArg ByteArray.mk (Array.toList_inj.1 h)
def hostB (s : ByteArray) : ByteArray := ⟨(Lib.trimSuffix (strOfNums ((bytesOf s).map Leaf.lowC)).data.toList [58, 56, 48]).toArray⟩
theorem host_norm (s : ByteArray) (hs : s.size ≤ 1000000) : norm_Host.f s = some (hostB s) := if_pos (by omega)
theorem low_size (s : ByteArray) : (strOfNums ((bytesOf s).map Leaf.lowC)).size = s.size := by rw [norm_Host.size, List.length_map, ← size_bytes]
theorem host_ref (s : ByteArray) (hs : s.size ≤ 1000000) : ambryref23_Host.f s = some (hostB s) := by
  have h : ambryref10_Low.f s = some (strOfNums ((bytesOf s).map Leaf.lowC)) := if_pos (by omega)
  have hsz := low_size s
  unfold ambryref23_Host.f hostB
  rw [h, Option.bind_some]
  generalize strOfNums ((bytesOf s).map Leaf.lowC) = t at hsz ⊢
  have hd := size_data t
  unfold Lib.trimSuffix Lib.hasSuffix
  by_cases h3 : (t.size : Int) ≥ 3
  · have hw : wrap64 ((t.size : Int) - 3) = ((t.size - 3 : Nat) : Int) := by unfold wrap64; omega
    rw [if_pos h3, hw]
    clear hw
    rw [if_pos (by omega), if_pos (by omega), Int.toNat_natCast]
    have e1 : (t.extract (t.size - 3) t.size).toList = t.data.toList.drop (t.size - 3) := by
      rw [ByteArray.toList_eq, data_extract, List.take_of_length_le (by omega)]
    rw [e1]
    by_cases hx : t.data.toList.drop (t.size - 3) = [58, 56, 48]
    · have hsuf : List.isSuffixOf [58, 56, 48] t.data.toList = true := List.isSuffixOf_iff_suffix.2 ⟨t.data.toList.take (t.size - 3), by rw [← hx, List.take_append_drop]⟩
      rw [if_pos hx, if_pos hsuf]
      congr 1
      refine data_inj ?_
      rw [data_extract, List.drop_zero]
      show _ = ((t.data.toList.take (t.data.toList.length - 3)).toArray).toList
      rw [← hd]
    · have hsuf : ¬ List.isSuffixOf [58, 56, 48] t.data.toList = true := fun h => hx (by
        obtain ⟨a, ha⟩ := List.isSuffixOf_iff_suffix.1 h
        have hl := congrArg List.length ha
        rw [List.length_append] at hl
        have : t.size - 3 = a.length := by simp only [List.length_cons, List.length_nil] at hl; omega
        rw [this, ← ha, List.drop_left])
      rw [if_neg hx, if_neg hsuf]
  · have hsuf : ¬ List.isSuffixOf [58, 56, 48] t.data.toList = true := fun h => by
      obtain ⟨a, ha⟩ := List.isSuffixOf_iff_suffix.1 h
      have hl := congrArg List.length ha
      rw [List.length_append] at hl
      simp only [List.length_cons, List.length_nil] at hl
      omega
    rw [if_neg h3, if_neg hsuf]
end Go.Proofs.YtgpkgfdojfnafaaDoor.Plain
