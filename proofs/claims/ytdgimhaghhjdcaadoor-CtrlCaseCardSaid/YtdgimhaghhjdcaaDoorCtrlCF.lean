/- Texts that are alike but for capitals say the same. What parts say, told plainly; fields alike but for capitals. Lists of fields whose names are one and whose values are alike say the same. CtrlCase: what its loops hold. -/
import Derived.Test.YtdgimhaghhjdcaaDoorCtrlS
import Derived.Test.YtdgimhaghhjdcaaDoorCtrlK
import Derived.Test.YtdgimhaghhjdcaaDoorFeet
import Derived.Test.YtdgimhaghhjdcaaDoorGx5
import Derived.Test.YtdgimhaghhjdcaaDoorGx10
import Derived.OpenShut
set_option linter.unusedVariables false
set_option linter.unusedSimpArgs false
namespace Go.Proofs.YtdgimhaghhjdcaaDoor.Ctrl
open Go.RowKit Go.Proofs.YtdgimhaghhjdcaaDoor.G Go.Proofs.YtdgimhaghhjdcaaDoorW.PrintWords Go.Proofs.YtdgimhaghhjdcaaDoorW.PrintMore Go.Proofs.YtdgimhaghhjdcaaDoor.Plain

def lowB (s : ByteArray) : List Int := (bytesOf s).map Leaf.lowC
theorem low_non {x y c : Int} (h : Leaf.lowC x = Leaf.lowC y) (hc : c < 65 ∨ (90 < c ∧ c < 97) ∨ 122 < c) : x = c ↔ y = c := by
  unfold Leaf.lowC at h
  split at h <;> split at h <;> omega
theorem low_size {s t : ByteArray} (h : lowB s = lowB t) : s.size = t.size := by
  have := congrArg List.length h
  unfold lowB at this
  rw [List.length_map, List.length_map, ← size_bytes, ← size_bytes] at this
  exact this
theorem low_getD {s t : ByteArray} (h : lowB s = lowB t) (i : Nat) : Leaf.lowC ((bytesOf s).getD i 0) = Leaf.lowC ((bytesOf t).getD i 0) := by
  have e : ∀ l : List Int, Leaf.lowC (l.getD i 0) = (l.map Leaf.lowC).getD i 0 := fun l => by
    rw [List.getD_eq_getElem?_getD, List.getD_eq_getElem?_getD, List.getElem?_map]
    cases l[i]? <;> rfl
  rw [e, e]
  exact congrArg (fun l => List.getD l i 0) h
theorem low_extract (s : ByteArray) (a b : Nat) : lowB (s.extract a b) = ((lowB s).take b).drop a := by
  unfold lowB
  rw [bytes_extract, List.map_drop, List.map_take]
theorem cuts_low {s t : ByteArray} (h : lowB s = lowB t) : ∀ (m b : Nat) (q : Bool) (i : Nat), s.size - i ≤ m → (cutsP s b q i).map lowB = (cutsP t b q i).map lowB := by
  have hz := low_size h
  have hx : ∀ a b, lowB (s.extract a b) = lowB (t.extract a b) := fun a b => by rw [low_extract, low_extract, h]
  have hend : ∀ b q i, ¬ i < s.size → (cutsP s b q i).map lowB = (cutsP t b q i).map lowB := fun b q i hi => by
    rw [cuts_end hi, cuts_end (by omega), List.map_singleton, List.map_singleton, hx, hz]
  intro m
  induction m with
  | zero => exact fun b q i hm => hend b q i (by omega)
  | succ m ih =>
    intro b q i hm
    by_cases hi : i < s.size
    case neg => exact hend b q i hi
    have hg := low_getD h i
    have e34 := low_non hg (c := 34) (by omega)
    have e44 := low_non hg (c := 44) (by omega)
    have e92 := low_non hg (c := 92) (by omega)
    by_cases h34 : (bytesOf s).getD i 0 = 34
    · rw [cuts_quote hi h34, cuts_quote (s := t) (by omega) (e34.1 h34)]
      exact ih b _ (i + 1) (by omega)
    by_cases hq : q = true ∧ (bytesOf s).getD i 0 = 92
    · obtain ⟨rfl, h92⟩ := hq
      rw [cuts_back hi h92, cuts_back (s := t) (by omega) (e92.1 h92)]
      exact ih b _ (i + 2) (by omega)
    by_cases h44 : (bytesOf s).getD i 0 = 44 ∧ q = false
    · obtain ⟨h5, rfl⟩ := h44
      rw [cuts_comma hi h5, cuts_comma (s := t) (by omega) (e44.1 h5), List.map_cons, List.map_cons, hx]
      exact congrArg _ (ih (i + 1) _ (i + 1) (by omega))
    · rw [cuts_else hi hq h34 h44, cuts_else (s := t) (by omega) (fun h => hq ⟨h.1, e92.2 h.2⟩) (fun h => h34 (e34.2 h)) (fun h => h44 ⟨e44.2 h.1, h.2⟩)]
      exact ih b _ (i + 1) (by omega)
theorem blank_low : (blankC ∘ Leaf.lowC) = blankC := by
  funext c
  show blankC (Leaf.lowC c) = blankC c
  unfold blankC Leaf.lowC
  split
  · rw [decide_eq_false (by omega), decide_eq_false (by omega), decide_eq_false (by omega), decide_eq_false (by omega)]
  · rfl
theorem back_low (l : List Int) : backL (l.map Leaf.lowC) = (backL l).map Leaf.lowC := by
  unfold backL
  rw [← List.map_reverse, List.dropWhile_map, blank_low, List.map_reverse]
theorem trim_low (l : List Int) : trimL (l.map Leaf.lowC) = (trimL l).map Leaf.lowC := by
  unfold trimL
  rw [List.dropWhile_map, blank_low, back_low]
theorem low_trim (s : ByteArray) : lowB (trimB s) = trimL (lowB s) := by
  unfold lowB
  rw [bytes_trim, trim_low]
theorem kept_low (l : List ByteArray) : (kept l).map lowB = keptL (l.map lowB) := by
  induction l with
  | nil => rfl
  | cons x l ih =>
    rw [kept_cons, List.map_cons, keptL_cons, ← low_trim]
    have e : lowB (trimB x) = [] ↔ bytesOf (trimB x) = [] := List.map_eq_nil_iff
    by_cases h : bytesOf (trimB x) = []
    · rw [if_pos h, if_pos (e.2 h), ih]
    · rw [if_neg h, if_neg (fun h' => h (e.1 h')), List.map_cons, ih]
theorem parts_low : ∀ (X Y : List ByteArray), X.map lowB = Y.map lowB → (partsL X).map lowB = (partsL Y).map lowB
  | [], [], _ => rfl
  | [], y :: Y, h => by cases h
  | x :: X, [], h => by cases h
  | x :: X, y :: Y, h => by
    rw [List.map_cons, List.map_cons] at h
    injection h with h1 h2
    show ((x :: X).flatMap fun v => kept (cutsP v 0 false 0)).map lowB = ((y :: Y).flatMap fun v => kept (cutsP v 0 false 0)).map lowB
    rw [List.flatMap_cons, List.flatMap_cons, List.map_append, List.map_append, kept_low, kept_low, cuts_low h1 x.size 0 false 0 (by omega)]
    exact congrArg _ (parts_low X Y h2)
/-! A part. -/
def idxL : List Int → Int
  | [] => -1
  | b :: l => if b = 61 then 0 else if idxL l = -1 then -1 else idxL l + 1
theorem idx_bytes : ∀ (l : List UInt8), Lib.indexByte l 61 = idxL (l.map fun b => (b.toNat : Int))
  | [] => rfl
  | b :: l => by
    rw [Lib.indexByte, List.map_cons, idxL, idx_bytes l]
    have e : (b == 61) = true ↔ (b.toNat : Int) = 61 := by
      rw [beq_iff_eq]
      exact (ctrl_plain.num b 61).symm
    by_cases h : (b == 61) = true
    · rw [if_pos h, if_pos (e.1 h)]
    · rw [if_neg h, if_neg (fun h' => h (e.2 h'))]
      by_cases h2 : idxL (l.map fun b => (b.toNat : Int)) = -1
      · rw [if_pos (beq_iff_eq.2 h2), if_pos h2]
      · rw [if_neg (fun h' => h2 (beq_iff_eq.1 h')), if_neg h2]
theorem idx_low : ∀ (l : List Int), idxL (l.map Leaf.lowC) = idxL l
  | [] => rfl
  | b :: l => by
    rw [List.map_cons, idxL, idxL, idx_low l]
    have e : Leaf.lowC b = 61 ↔ b = 61 := by unfold Leaf.lowC; split <;> omega
    by_cases h : b = 61
    · rw [if_pos h, if_pos (e.2 h)]
    · rw [if_neg h, if_neg (fun h' => h (e.1 h'))]
theorem idx_like {s t : ByteArray} (h : lowB s = lowB t) : Lib.indexByte s.data.toList 61 = Lib.indexByte t.data.toList 61 := by
  rw [idx_bytes, idx_bytes]
  show idxL (bytesOf s) = idxL (bytesOf t)
  rw [← idx_low (bytesOf s), ← idx_low (bytesOf t)]
  exact congrArg idxL h
theorem cutAt_low {s t : ByteArray} (h : lowB s = lowB t) (i : Int) : lowB (Leaf.cutAt s i).1 = lowB (Leaf.cutAt t i).1 ∧ lowB (Leaf.cutAt s i).2.1 = lowB (Leaf.cutAt t i).2.1 ∧ (Leaf.cutAt s i).2.2 = (Leaf.cutAt t i).2.2 := by
  have hz := low_size h
  unfold Leaf.cutAt
  split
  · exact ⟨by rw [low_extract, low_extract, h], by rw [low_extract, low_extract, h, hz], rfl⟩
  · exact ⟨h, rfl, rfl⟩
/-! A number. -/
def secL : Int → List Int → Int
  | acc, [] => acc
  | acc, c :: r => if 48 ≤ c ∧ c ≤ 57 then secL (min (10 * acc + (c - 48)) 2147483647) r else -1
def secP (s : ByteArray) : Int := if bytesOf s = [] then -1 else secL 0 (bytesOf s)
theorem sec_low : ∀ (l l' : List Int) (acc : Int), l.map Leaf.lowC = l'.map Leaf.lowC → secL acc l = secL acc l'
  | [], [], _, _ => rfl
  | [], y :: Y, _, h => by cases h
  | x :: X, [], _, h => by cases h
  | x :: X, y :: Y, acc, h => by
    rw [List.map_cons, List.map_cons] at h
    injection h with h1 h2
    have e : (48 ≤ x ∧ x ≤ 57) ↔ (48 ≤ y ∧ y ≤ 57) := by unfold Leaf.lowC at h1; split at h1 <;> split at h1 <;> omega
    rw [secL, secL]
    by_cases hx : 48 ≤ x ∧ x ≤ 57
    · have exy : x = y := by have hy := e.1 hx; unfold Leaf.lowC at h1; split at h1 <;> split at h1 <;> omega
      subst exy
      rw [if_pos hx, if_pos hx]
      exact sec_low X Y _ h2
    · rw [if_neg hx, if_neg (fun h => hx (e.2 h))]
theorem secP_low {s t : ByteArray} (h : lowB s = lowB t) : secP s = secP t := by
  have e : bytesOf s = [] ↔ bytesOf t = [] := by
    have h1 : lowB s = [] ↔ bytesOf s = [] := List.map_eq_nil_iff
    have h2 : lowB t = [] ↔ bytesOf t = [] := List.map_eq_nil_iff
    rw [← h1, ← h2, h]
  unfold secP
  rw [sec_low _ _ 0 h]
  by_cases h0 : bytesOf s = []
  · rw [if_pos h0, if_pos (e.1 h0)]
  · rw [if_neg h0, if_neg (fun h => h0 (e.2 h))]
end Go.Proofs.YtdgimhaghhjdcaaDoor.Ctrl

namespace Go.Proofs.YtdgimhaghhjdcaaDoor.Ctrl
open Go.RowKit Go.Proofs.YtdgimhaghhjdcaaDoor.G Go.Proofs.YtdgimhaghhjdcaaDoorW.PrintWords Go.Proofs.YtdgimhaghhjdcaaDoorW.PrintMore Go.Proofs.YtdgimhaghhjdcaaDoor.Plain

def lu (u : UInt8) : Int := Leaf.lowC (u.toNat : Int)
theorem lowB_lu (s : ByteArray) : lowB s = s.data.toList.map lu := by
  unfold lowB bytesOf
  rw [List.map_map]
  rfl
theorem lu_mark {u v : UInt8} (h : lu u = lu v) (m : UInt8) (hm : (m.toNat : Int) < 65 ∨ (90 < (m.toNat : Int) ∧ (m.toNat : Int) < 97) ∨ 122 < (m.toNat : Int)) : u = m ↔ v = m := by
  rw [← ctrl_plain.num, ← ctrl_plain.num]
  exact low_non h hm
theorem lu_getD {a b : List UInt8} (h : a.map lu = b.map lu) (i : Nat) : lu (a.getD i 0) = lu (b.getD i 0) := by
  have e : ∀ l : List UInt8, lu (l.getD i 0) = (l.map lu).getD i (lu 0) := fun l => by
    rw [List.getD_eq_getElem?_getD, List.getD_eq_getElem?_getD, List.getElem?_map]
    cases l[i]? <;> rfl
  rw [e, e]
  exact congrArg (fun l => List.getD l i (lu 0)) h
theorem un_low : ∀ (n : Nat) (a b : List UInt8), a.length ≤ n → a.map lu = b.map lu → (ctrl_plain.un a).map lu = (ctrl_plain.un b).map lu
  | _, [], [], _, _ => rfl
  | _, [], _ :: _, _, h => by cases h
  | _, _ :: _, [], _, h => by cases h
  | _, [x], [y], _, h => h
  | _, [x], y :: z :: r, _, h => by
    rw [List.map_cons, List.map_cons] at h
    injection h with _ h
    cases h
  | _, x :: z :: r, [y], _, h => by
    rw [List.map_cons, List.map_cons] at h
    injection h with _ h
    cases h
  | 0, x :: x2 :: r, y :: y2 :: r', hn, _ => by cases hn
  | n + 1, x :: x2 :: r, y :: y2 :: r', hn, h => by
    obtain ⟨h1, h2⟩ := List.cons.inj (show lu x :: (x2 :: r).map lu = lu y :: (y2 :: r').map lu from h)
    obtain ⟨h3, h4⟩ := List.cons.inj (show lu x2 :: r.map lu = lu y2 :: r'.map lu from h2)
    have e := lu_mark h1 92 (by decide)
    simp only [List.length_cons] at hn
    rw [ctrl_plain.un, ctrl_plain.un]
    by_cases hx : x = 92
    · rw [if_pos hx, if_pos (e.1 hx), List.map_cons, List.map_cons, h3, un_low n r r' (by omega) h4]
    · rw [if_neg hx, if_neg (fun hy => hx (e.2 hy)), List.map_cons, List.map_cons, h1, un_low n (x2 :: r) (y2 :: r') (by rw [List.length_cons]; omega) h2]
theorem text_low {a b : List UInt8} (h : a.map lu = b.map lu) : (ctrl_plain.text a).map lu = (ctrl_plain.text b).map lu := by
  have hl : a.length = b.length := by have := congrArg List.length h; rwa [List.length_map, List.length_map] at this
  have e0 := lu_mark (lu_getD h 0) 34 (by decide)
  have e1 := lu_mark (lu_getD h (a.length - 1)) 34 (by decide)
  unfold ctrl_plain.text
  by_cases hc : 2 ≤ a.length ∧ a.getD 0 0 = 34 ∧ a.getD (a.length - 1) 0 = 34
  · rw [if_pos hc, if_pos ⟨by omega, e0.1 hc.2.1, by rw [← hl]; exact e1.1 hc.2.2⟩]
    exact un_low _ _ _ (Nat.le_refl _) (by rw [List.map_drop, List.map_take, List.map_drop, List.map_take, h, hl])
  · rw [if_neg hc, if_neg (fun hd => hc ⟨by omega, e0.2 hd.2.1, e1.2 (by rw [hl]; exact hd.2.2)⟩)]
    exact h
def plainB (s : ByteArray) : ByteArray := ⟨(ctrl_plain.text s.data.toList).toArray⟩
theorem plain_low {s t : ByteArray} (h : lowB s = lowB t) : lowB (plainB s) = lowB (plainB t) := by
  rw [lowB_lu, lowB_lu] at h ⊢
  exact text_low h
theorem un_len : ∀ (n : Nat) (a : List UInt8), a.length ≤ n → (ctrl_plain.un a).length ≤ a.length
  | _, [], _ => Nat.le_refl _
  | _, [x], _ => Nat.le_refl _
  | 0, x :: y :: r, h => by cases h
  | n + 1, x :: y :: r, h => by
    simp only [List.length_cons] at h
    rw [ctrl_plain.un]
    split
    · have := un_len n r (by omega)
      simp only [List.length_cons]
      omega
    · have := un_len n (y :: r) (by rw [List.length_cons]; omega)
      simp only [List.length_cons] at this ⊢
      omega
theorem plain_size (s : ByteArray) : (plainB s).size ≤ s.size := by
  show (ctrl_plain.text s.data.toList).length ≤ _
  have hd := data_length s
  unfold ctrl_plain.text
  split
  · have := un_len _ ((s.data.toList.take (s.data.toList.length - 1)).drop 1) (Nat.le_refl _)
    rw [List.length_drop, List.length_take] at this
    omega
  · omega
theorem seconds_ev (s : ByteArray) (hs : s.size ≤ 1000000) : Ev (fun k => ctrl_Seconds.f k s) (secP s) := by
  have hz := size_bytes s
  have key : ∀ j, j ≤ s.size → ∀ acc : Int, 0 ≤ acc → acc ≤ 2147483647 → Ev (fun k => ctrl_Seconds.l0 k s acc (s.size : Int) (j : Int)) (if bytesOf s = [] then -1 else secL acc ((bytesOf s).drop j)) := by
    refine up _ fun j hj ih acc h0 h1 => ?_
    by_cases hlt : j < s.size
    · have hne : ¬ bytesOf s = [] := fun h => by rw [h, List.length_nil] at hz; omega
      have hb := bytes_range s ((bytesOf s).getD j 0) (getD_mem 0 _ (by omega))
      refine Ev.step (fun k => ctrl_Seconds.l0.eq_2 s acc (s.size : Int) (j : Int) k) (ev_pos (by omega) (ev_pos (by omega) (ev_pos (by omega) ?_)))
      rw [bt_nat, if_neg hne, drop_cons (bytesOf s) 0 (show j < (bytesOf s).length by omega), secL]
      generalize (bytesOf s).getD j 0 = c at hb
      by_cases hlo : c < 48
      · rw [if_neg (by omega)]; exact ev_pos hlo (ev_ret rfl)
      by_cases hhi : c > 57
      · rw [if_neg (by omega)]; exact ev_neg hlo (ev_pos hhi (ev_ret rfl))
      rw [if_pos (by omega)]
      refine ev_neg hlo (ev_neg hhi ?_)
      rw [wrap_succ (by omega)]
      have e : mn (wrap64 ((wrap64 (10 * acc)) + (c - 48) % 256)) 2147483647 = min (10 * acc + (c - 48)) 2147483647 := by
        rw [wrap_nat (n := 10 * acc) (by omega) (by omega), show (c - 48) % 256 = c - 48 by omega, wrap_nat (by omega) (by omega)]
        unfold mn
        split <;> omega
      rw [e]
      have := ih hlt (min (10 * acc + (c - 48)) 2147483647) (by omega) (by omega)
      rw [if_neg hne] at this
      exact this
    · refine Ev.step (fun k => ctrl_Seconds.l0.eq_2 s acc (s.size : Int) (j : Int) k) (ev_neg (by omega) ?_)
      rw [List.drop_of_length_le (by omega), secL]
      have e : s.toList = ([] : List UInt8) ↔ bytesOf s = [] := by
        rw [ByteArray.toList_eq]
        unfold bytesOf
        exact List.map_eq_nil_iff.symm
      by_cases hn : bytesOf s = []
      · rw [if_pos hn]; exact ev_pos (e.2 hn) (ev_ret rfl)
      · rw [if_neg hn]; exact ev_neg (fun h => hn (e.1 h)) (ev_ret rfl)
  have := key 0 (Nat.zero_le _) 0 (by omega) (by omega)
  exact Ev.congr (fun k => ctrl_Seconds.f.eq_1 k s) this
def partP (c : ctrl_Parse.Ct) (p : ByteArray) : ctrl_Parse.Ct :=
  ctrl_Parse.say c (fun i => (ctrl_Parse.lits.map (Leaf.sameB (Leaf.cutAt p (Lib.indexByte p.data.toList 61)).1)).getD i false) (ctrl_Parse.lst (secP (plainB (Leaf.cutAt p (Lib.indexByte p.data.toList 61)).2.1))) (Leaf.cutAt p (Lib.indexByte p.data.toList 61)).2.2
theorem same_like {a b : ByteArray} (h : lowB a = lowB b) (s : ByteArray) : Leaf.sameB a s = Leaf.sameB b s := by
  unfold Leaf.sameB
  exact congrArg (fun x => x == (bytesOf s).map Leaf.lowC) h
theorem part_low {p q : ByteArray} (h : lowB p = lowB q) (c : ctrl_Parse.Ct) : partP c p = partP c q := by
  unfold partP
  rw [idx_like h]
  obtain ⟨h1, h2, h3⟩ := cutAt_low h (Lib.indexByte q.data.toList 61)
  rw [h3, secP_low (plain_low h2), show Leaf.sameB (Leaf.cutAt p (Lib.indexByte q.data.toList 61)).1 = Leaf.sameB (Leaf.cutAt q (Lib.indexByte q.data.toList 61)).1 from funext fun s => same_like h1 s]
theorem fold_low : ∀ (X Y : List ByteArray) (c : ctrl_Parse.Ct), X.map lowB = Y.map lowB → X.foldl partP c = Y.foldl partP c
  | [], [], _, _ => rfl
  | [], y :: Y, _, h => by cases h
  | x :: X, [], _, h => by cases h
  | x :: X, y :: Y, c, h => by
    rw [List.map_cons, List.map_cons] at h
    injection h with h1 h2
    rw [List.foldl_cons, List.foldl_cons, part_low h1 c]
    exact fold_low X Y _ h2
theorem tell_ev (nm : ByteArray) (hs : nm.size ≤ 1000000) : ∀ (l : List ByteArray), Ev (fun k => ctrl_Parse.tell k nm l) (l.map (Leaf.sameB nm))
  | [] => Ev.now _
  | s :: l => ev_bind (same_head nm s (by omega)) (ev_bind (tell_ev nm hs l) (ev_ret rfl))
theorem part_ev (c : ctrl_Parse.Ct) (p : ByteArray) (hp : p.size ≤ 1000000) : Ev (fun k => ctrl_Parse.part k c p) (partP c p) := by
  have hc : strings_Cut.f p ⟨#[61]⟩ = some (Leaf.cutAt p (Lib.indexByte p.data.toList 61)) := by
    show (if p.size ≤ 140737488355328 then some (Leaf.cutAt p (Lib.indexByte p.data.toList 61)) else none) = _
    rw [if_pos (by omega)]
  have hsz : (Leaf.cutAt p (Lib.indexByte p.data.toList 61)).1.size ≤ 1000000 ∧ (Leaf.cutAt p (Lib.indexByte p.data.toList 61)).2.1.size ≤ 1000000 := by
    unfold Leaf.cutAt
    have hz := size_bytes p
    split
    · refine ⟨?_, ?_⟩ <;> (rw [size_bytes, bytes_extract, List.length_drop, List.length_take]; omega)
    · exact ⟨hp, Nat.zero_le _⟩
  unfold partP
  refine Ev.congr (fun k => ctrl_Parse.part.eq_1 k c p) (ev_some hc ?_)
  generalize Leaf.cutAt p (Lib.indexByte p.data.toList 61) = t at hsz
  have hpl : ctrl_plain.f t.2.1 = some (plainB t.2.1) := by
    unfold ctrl_plain.f
    rw [if_pos (by omega)]
    rfl
  have hps := plain_size t.2.1
  exact ev_some hpl (ev_bind (seconds_ev _ (by omega)) (ev_bind (tell_ev t.1 hsz.1 _) (ev_ret rfl)))
theorem fold_ev : ∀ (l : List ByteArray) (c : ctrl_Parse.Ct), (∀ x ∈ l, x.size ≤ 1000000) → Ev (fun k => ctrl_Parse.fold k c l) (l.foldl partP c)
  | [], c, _ => Ev.now _
  | p :: l, c, h => ev_bind (part_ev c p (h p List.mem_cons_self)) (fold_ev l _ (fun x hx => h x (List.mem_cons_of_mem _ hx)))
end Go.Proofs.YtdgimhaghhjdcaaDoor.Ctrl

namespace Go.Proofs.YtdgimhaghhjdcaaDoor.Ctrl
open Go.RowKit Go.Proofs.YtdgimhaghhjdcaaDoor.G Go.Proofs.YtdgimhaghhjdcaaDoorW.PrintWords Go.Proofs.YtdgimhaghhjdcaaDoorW.PrintMore Go.Proofs.YtdgimhaghhjdcaaDoor.Plain

abbrev CC : ByteArray := ⟨#[67, 97, 99, 104, 101, 45, 67, 111, 110, 116, 114, 111, 108]⟩
abbrev CU : ByteArray := ⟨#[99, 97, 99, 104, 101, 45, 67, 79, 78, 84, 82, 79, 76]⟩
abbrev PR : S29 := ⟨⟨#[80, 82, 65, 71, 77, 65]⟩, ⟨#[120, 44, 32, 78, 111, 45, 67, 97, 99, 104, 101]⟩⟩
theorem trimB_size (x : ByteArray) : (trimB x).size ≤ x.size := by
  rw [size_bytes, bytes_trim, size_bytes x]
  exact trim_length _
theorem kept_size {l : List ByteArray} {M : Nat} (h : ∀ x ∈ l, x.size ≤ M) : ∀ x ∈ kept l, x.size ≤ M := by
  intro x hx
  obtain ⟨y, hy, rfl⟩ := List.mem_map.1 (List.mem_filter.1 hx).1
  exact Nat.le_trans (trimB_size y) (h y hy)
theorem parts_size {vs : List ByteArray} {M : Nat} (h : ∀ x ∈ vs, x.size ≤ M) : ∀ x ∈ partsL vs, x.size ≤ M := by
  intro x hx
  obtain ⟨v, hv, hx⟩ := List.mem_flatMap.1 hx
  exact kept_size (fun y hy => Nat.le_trans (cuts_size v v.size 0 false 0 (by omega) y hy) (h v hv)) x hx
def Tiny (l : List S29) : Prop := l.length ≤ 11 ∧ ∀ x ∈ l, x.f0.size ≤ 300 ∧ x.f1.size ≤ 300
def saysOf (vs : List ByteArray) : ctrl_Parse.Ct := if vs = [] then ctrl_Parse.none_ else (partsL vs).foldl partP ctrl_Parse.none_
theorem parse_vals (l : List S29) (hT : Tiny l) (vs : List ByteArray) (hv : allL l CC = vs) (hne : l ≠ [] → vs ≠ []) : Ev (fun k => ctrl_Parse.f k l) (ctrl_Parse.tup (saysOf vs)) := by
  unfold saysOf
  by_cases h0 : vs = []
  · have : l = [] := Classical.byContradiction fun h => hne h h0
    subst this
    rw [if_pos h0]
    exact Ev.of (fun k => ctrl_Parse.mono [] k) parse_nil
  · rw [if_neg h0]
    have hS : Small l := ⟨by have := hT.1; omega, fun x hx => by have := hT.2 x hx; omega⟩
    have hall := all_head l CC hS
    have hlist := list_head l CC hS
    unfold listL at hlist
    rw [hv] at hall hlist
    have hvs : ∀ v ∈ vs, v.size ≤ 300 := fun v h => by
      rw [← hv] at h
      obtain ⟨x, hx, rfl⟩ := List.mem_map.1 h
      exact (hT.2 x (List.mem_filter.1 hx).1).2
    have hvl : vs.length ≤ 11 := by
      rw [← hv]
      unfold allL
      rw [List.length_map]
      exact Nat.le_trans (List.length_filter_le _ _) hT.1
    have hpl := parts_length 301 vs (fun v h => by have := hvs v h; omega)
    have hpl2 : (partsL vs).length ≤ 11 * 301 := Nat.le_trans hpl (Nat.mul_le_mul_right _ hvl)
    have hf := fold_ev (partsL vs) ctrl_Parse.none_ (fun x hx => by have := parts_size hvs x hx; omega)
    have hlen : ¬ vs.length = 0 := fun h => h0 (List.length_eq_zero_iff.1 h)
    exact Ev.congr (fun k => ctrl_Parse.f.eq_1 k _) (ev_bind hall (ev_neg hlen (ev_bind hlist (ev_pos (by omega) (ev_bind hf (ev_ret rfl))))))
theorem says_low {X Y : List ByteArray} (h : X.map lowB = Y.map lowB) : saysOf X = saysOf Y := by
  have e : X = [] ↔ Y = [] := by
    have h1 : X.map lowB = [] ↔ X = [] := List.map_eq_nil_iff
    have h2 : Y.map lowB = [] ↔ Y = [] := List.map_eq_nil_iff
    rw [← h1, ← h2, h]
  unfold saysOf
  by_cases h0 : X = []
  · rw [if_pos h0, if_pos (e.1 h0)]
  · rw [if_neg h0, if_neg (fun hy => h0 (e.2 hy))]
    exact fold_low _ _ _ (parts_low X Y h)
theorem all_one {l : List S29} {n : ByteArray} (h : ∀ x ∈ l, x.f0 = n) (hn : Leaf.sameB n CC = true) : allL l CC = l.map fun x => x.f1 := by
  unfold allL
  rw [List.filter_eq_self.2 fun x hx => by rw [h x hx]; exact hn]
theorem parse_one_name (l : List S29) (n : ByteArray) (hT : Tiny l) (h : ∀ x ∈ l, x.f0 = n) (hn : Leaf.sameB n CC = true) : Ev (fun k => ctrl_Parse.f k l) (ctrl_Parse.tup (saysOf (l.map fun x => x.f1))) :=
  parse_vals l hT _ (all_one h hn) fun hne h0 => hne (List.map_eq_nil_iff.1 h0)
theorem parse_more (l : List S29) (hT : Tiny l) (hl : l.length ≤ 10) (hne : l ≠ []) (h : ∀ x ∈ l, x.f0 = CC) : Ev (fun k => ctrl_Parse.f k (l ++ [PR])) (ctrl_Parse.tup (saysOf (l.map fun x => x.f1))) := by
  refine parse_vals (l ++ [PR]) ⟨by rw [List.length_append, List.length_singleton]; omega, fun x hx => ?_⟩ _ ?_ (fun _ h0 => hne (List.map_eq_nil_iff.1 h0))
  · rcases List.mem_append.1 hx with hx | hx
    · exact hT.2 x hx
    · rw [List.mem_singleton.1 hx]; decide
  · have e : allL (l ++ [PR]) CC = allL l CC := by
      unfold allL
      rw [List.filter_append, show [PR].filter (fun x => Leaf.sameB x.f0 CC) = [] from by kernel_rfl, List.append_nil]
    rw [e, all_one h (by decide +kernel)]
theorem parse_pragma : ctrl_Parse.f 400 [PR] = some (false, true, false, false, false, false, false, false, -1, -1, -1, -1) := by kernel_rfl
theorem cu_same : Leaf.sameB CU CC = true := by decide +kernel
theorem cc_same : Leaf.sameB CC CC = true := by decide +kernel
end Go.Proofs.YtdgimhaghhjdcaaDoor.Ctrl

namespace Go.Proofs.YtdgimhaghhjdcaaDoor.Ctrl
open Go.RowKit Go.Proofs.YtdgimhaghhjdcaaDoor.G Go.Proofs.YtdgimhaghhjdcaaDoorW.PrintWords Go.Proofs.YtdgimhaghhjdcaaDoorW.PrintMore Go.Proofs.YtdgimhaghhjdcaaDoor.Foot Go.Proofs.YtdgimhaghhjdcaaDoor.Plain

theorem rdF (l : List (S29)) (j : Nat) : rd_T29 l (j : Int) = l.getD j z29 := rfl
theorem light_ev (m : Nat) (hm : m ≤ 1000000) (l : List S29) : (Ev (fun k => ambryhelp_Light.f k l (m : Int)) true ∧ l.length ≤ m ∧ ∀ x ∈ l, x.f0.size ≤ 300 ∧ x.f1.size ≤ 300) ∨ Ev (fun k => ambryhelp_Light.f k l (m : Int)) false := by
  by_cases h : (l.length : Int) > (m : Int)
  · exact .inr (Ev.congr (fun k => ambryhelp_Light.f.eq_1 k l (m : Int)) (ev_pos h (Ev.now _)))
  have key : ∀ j, j ≤ l.length → (Ev (fun k => ambryhelp_Light.l0 k l (j : Int)) true ∧ ∀ x ∈ l.drop j, x.f0.size ≤ 300 ∧ x.f1.size ≤ 300) ∨ Ev (fun k => ambryhelp_Light.l0 k l (j : Int)) false := by
    refine up _ fun j hj ih => ?_
    by_cases hlt : j < l.length
    · rw [drop_cons l z29 hlt]
      by_cases h1 : (((l.getD j z29).f0).size : Int) > 300
      · refine .inr (Ev.step (fun k => ambryhelp_Light.l0.eq_2 l (j : Int) k) (ev_pos (by omega) (ev_pos (by omega) ?_)))
        rw [rdF]; exact ev_pos h1 (Ev.now _)
      by_cases h2 : (((l.getD j z29).f1).size : Int) > 300
      · refine .inr (Ev.step (fun k => ambryhelp_Light.l0.eq_2 l (j : Int) k) (ev_pos (by omega) (ev_pos (by omega) ?_)))
        rw [rdF]; exact ev_neg h1 (ev_pos h2 (Ev.now _))
      have hstep : ∀ r, Ev (fun k => ambryhelp_Light.l0 k l ((j + 1 : Nat) : Int)) r → Ev (fun k => ambryhelp_Light.l0 k l (j : Int)) r := fun r hr => by
        refine Ev.step (fun k => ambryhelp_Light.l0.eq_2 l (j : Int) k) (ev_pos (by omega) (ev_pos (by omega) ?_))
        rw [rdF, wrap_succ (by omega)]; exact ev_neg h1 (ev_neg h2 hr)
      rcases ih hlt with ⟨e, ha⟩ | e
      · refine .inl ⟨hstep _ e, fun x hx => ?_⟩
        rcases List.mem_cons.1 hx with rfl | hx
        · omega
        · exact ha x hx
      · exact .inr (hstep _ e)
    · refine .inl ⟨Ev.step (fun k => ambryhelp_Light.l0.eq_2 l (j : Int) k) (ev_neg (by omega) (Ev.now _)), fun x hx => ?_⟩
      rw [List.drop_of_length_le (by omega)] at hx; cases hx
  rcases key 0 (Nat.zero_le _) with ⟨e, ha⟩ | e
  · exact .inl ⟨Ev.congr (fun k => ambryhelp_Light.f.eq_1 k l (m : Int)) (ev_neg h e), by omega, ha⟩
  · exact .inr (Ev.congr (fun k => ambryhelp_Light.f.eq_1 k l (m : Int)) (ev_neg h e))
def lowS (s : ByteArray) : ByteArray := strOfNums ((bytesOf s).map Leaf.lowC)
theorem lowC_range {c : Int} (h : 0 ≤ c ∧ c ≤ 255) : 0 ≤ Leaf.lowC c ∧ Leaf.lowC c ≤ 255 := by unfold Leaf.lowC; split <;> omega
theorem lowS_bytes (s : ByteArray) : bytesOf (lowS s) = (bytesOf s).map Leaf.lowC := bytes_of_nums fun c hc => by
  obtain ⟨d, hd, rfl⟩ := List.mem_map.1 hc
  exact lowC_range (bytes_range s d hd)
theorem lowS_size (s : ByteArray) : (lowS s).size = s.size := by rw [size_bytes, lowS_bytes, List.length_map, ← size_bytes]
theorem lowS_eq (s : ByteArray) (h : s.size ≤ 300) : ambryref10_Low.f s = some (lowS s) := by
  unfold ambryref10_Low.f
  rw [if_pos (by omega)]
  rfl
theorem strOf_bytes (y : ByteArray) : strOfNums (bytesOf y) = y := bytes_inj (bytes_of_nums (bytes_range y))
def aOf (x : S29) : S29 := ⟨CC, lowS x.f1⟩
/-- The list with capitals, so far. -/
def Caps (al : List S29) (i : Nat) (B : List S29) : Prop := B.length = i ∧ (∀ x ∈ B, x.f0 = CU ∧ x.f1.size ≤ 300) ∧ B.map (fun x => lowB x.f1) = (al.take i).map (fun x => lowB x.f1)
theorem Caps.step {al : List S29} {i : Nat} {B : List S29} (h : Caps al i B) {x : S29} (hx : al[i]? = some x) {t : ByteArray} (ht : lowB t = lowB x.f1) (hs : t.size ≤ 300) : Caps al (i + 1) (B ++ [⟨CU, t⟩]) := by
  obtain ⟨h1, h2, h3⟩ := h
  have hlt : i < al.length := (List.getElem?_eq_some_iff.1 hx).1
  have he : al[i] = x := (List.getElem?_eq_some_iff.1 hx).2
  refine ⟨by rw [List.length_append, h1]; rfl, fun y hy => ?_, ?_⟩
  · rcases List.mem_append.1 hy with hy | hy
    · exact h2 y hy
    · rw [List.mem_singleton.1 hy]; exact ⟨rfl, hs⟩
  · rw [List.map_append, h3, List.take_succ_eq_append_getElem hlt, List.map_append, he, List.map_singleton, List.map_singleton, ht]
/-- A text whose letters were turned great here and there. -/
def Turned (s : ByteArray) (ys : List Int) : Prop := ys.length = s.size ∧ (∀ c ∈ ys, 0 ≤ c ∧ c ≤ 255) ∧ ys.map Leaf.lowC = lowB s
theorem Turned.start (s : ByteArray) : Turned s (bytesOf s) := ⟨(size_bytes s).symm, bytes_range s, rfl⟩
theorem Turned.set {s : ByteArray} {ys : List Int} (h : Turned s ys) {k : Nat} (hk : k < s.size) (h1 : 97 ≤ ys.getD k 0) (h2 : ys.getD k 0 ≤ 122) : Turned s (ys.set k (ys.getD k 0 - 32)) := by
  obtain ⟨a, b, c⟩ := h
  refine ⟨by rw [List.length_set, a], fun x hx => ?_, ?_⟩
  · rcases List.mem_or_eq_of_mem_set hx with hx | rfl
    · exact b x hx
    · omega
  · rw [List.map_set, ← c]
    have e : Leaf.lowC (ys.getD k 0 - 32) = Leaf.lowC (ys.getD k 0) := by unfold Leaf.lowC; rw [if_pos (by omega), if_neg (by omega)]; omega
    rw [e]
    have hl : k < ys.length := by omega
    have hg : ys.getD k 0 = ys[k] := by rw [List.getD_eq_getElem?_getD, List.getElem?_eq_getElem hl]; rfl
    rw [hg]
    have hl2 : k < (ys.map Leaf.lowC).length := by rw [List.length_map]; exact hl
    have : (ys.map Leaf.lowC).set k ((ys.map Leaf.lowC)[k]'hl2) = ys.map Leaf.lowC := List.set_getElem_self hl2
    rw [List.getElem_map] at this
    exact this
theorem Turned.done {s : ByteArray} {ys : List Int} (h : Turned s ys) : lowB (strOfNums ys) = lowB s ∧ (strOfNums ys).size = s.size := by
  obtain ⟨a, b, c⟩ := h
  have e : bytesOf (strOfNums ys) = ys := bytes_of_nums b
  exact ⟨by unfold lowB; rw [e]; exact c, by rw [size_bytes, e, a]⟩
end Go.Proofs.YtdgimhaghhjdcaaDoor.Ctrl
