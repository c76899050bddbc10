/- A control's text, read back. -/
import Derived.Test.YtdgimhaghhjdcaaDoorCtrlPR
import Derived.Test.YtdgimhaghhjdcaaDoorHeads
set_option linter.unusedVariables false
set_option linter.unusedSimpArgs false
namespace Go.Proofs.YtdgimhaghhjdcaaDoor.Ctrl
open Go.RowKit Go.Proofs.YtdgimhaghhjdcaaDoor.G Go.Proofs.YtdgimhaghhjdcaaDoorW.PrintWords Go.Proofs.YtdgimhaghhjdcaaDoorW.PrintMore Go.Proofs.YtdgimhaghhjdcaaDoor.Plain

def CutsTo (b : List Int) (W : List (List Int)) : Prop := keptL (cutsL [] false b) = W ∧ ∀ r, keptL (cutsL [] false (b ++ 44 :: r)) = W ++ keptL (cutsL [] false r)
theorem CutsTo.next {b : List Int} {W : List (List Int)} (h : CutsTo b W) {x : List Int} {q : List Int} (hx : CutsTo x [q]) : CutsTo (b ++ 44 :: x) (W ++ [q]) := by
  refine ⟨?_, fun r => ?_⟩
  · rw [h.2, hx.1]
  · rw [List.append_assoc, List.cons_append, h.2, hx.2, List.append_assoc]
def CleanL (p : List Int) : Prop := p ≠ [] ∧ ∀ c ∈ p, c ≠ 34 ∧ c ≠ 44 ∧ c ≠ 92 ∧ c ≠ 32 ∧ c ≠ 9
theorem drop_none {p : List Int} (h : ∀ c ∈ p, blankC c = false) : p.dropWhile blankC = p := by
  cases p with
  | nil => rfl
  | cons a t => rw [List.dropWhile_cons, h a List.mem_cons_self]; rfl
theorem trim_clean {p : List Int} (h : ∀ c ∈ p, blankC c = false) : trimL p = p := by
  unfold trimL backL
  rw [drop_none h, drop_none (fun c hc => h c (List.mem_reverse.1 hc)), List.reverse_reverse]
theorem cuts_clean (bl p : List Int) (hb : ∀ c ∈ bl, blankC c = true) (hp : CleanL p) : CutsTo (bl ++ p) [p] := by
  have hall : ∀ c ∈ bl ++ p, c ≠ 34 ∧ (c = 44 → false = true) := fun c hc => by
    rcases List.mem_append.1 hc with hc | hc
    · have := hb c hc
      unfold blankC at this
      simp only [Bool.or_eq_true, decide_eq_true_eq] at this
      exact ⟨by omega, fun h => by omega⟩
    · have := hp.2 c hc
      exact ⟨this.1, fun h => absurd h this.2.1⟩
  have ht : trimL (bl ++ p) = p := by
    rw [trimL_front _ _ hb]
    refine trim_clean fun c hc => ?_
    have := hp.2 c hc
    unfold blankC
    simp [this.2.2.2.1, this.2.2.2.2]
  refine ⟨?_, fun r => ?_⟩
  · have := cutsL_on false (bl ++ p) [] [] hall
    rw [List.append_nil, List.nil_append] at this
    rw [this, cutsL, keptL_cons, ht, if_neg hp.1]
    rfl
  · rw [cutsL_on false (bl ++ p) [] (44 :: r) hall, List.nil_append, cutsL, if_neg (by decide), if_pos ⟨rfl, rfl⟩, keptL_cons, ht, if_neg hp.1]
    rfl
def Clean (l : List ByteArray) : Prop := ∀ x ∈ l, CleanL (bytesOf x)
theorem J_bytes (x : ByteArray) (r : List ByteArray) : bytesOf (J (x :: r)) = bytesOf x ++ r.flatMap fun y => 44 :: ([32] ++ bytesOf y) := by
  show List.map _ (x.data.toList ++ r.flatMap _) = List.map _ x.data.toList ++ _
  rw [List.map_append, List.map_flatMap]
  rfl
theorem cuts_more : ∀ (r : List ByteArray) (b : List Int) (W : List (List Int)), CutsTo b W → Clean r → CutsTo (b ++ r.flatMap fun y => 44 :: ([32] ++ bytesOf y)) (W ++ r.map bytesOf)
  | [], b, W, h, _ => by rw [List.flatMap_nil, List.map_nil, List.append_nil, List.append_nil]; exact h
  | y :: r, b, W, h, hc => by
    have h1 := h.next (cuts_clean [32] (bytesOf y) (by simp [blankC]) (hc y List.mem_cons_self))
    have h2 := cuts_more r _ _ h1 (fun x hx => hc x (List.mem_cons_of_mem _ hx))
    rw [List.flatMap_cons, List.map_cons, ← List.append_assoc, List.append_cons W]
    exact h2
theorem J_cuts {l : List ByteArray} (h : Clean l) (hn : l ≠ []) : keptL (cutsL [] false (bytesOf (J l))) = l.map bytesOf := by
  cases l with
  | nil => exact absurd rfl hn
  | cons x r =>
    rw [J_bytes]
    exact (cuts_more r _ _ (cuts_clean [] (bytesOf x) (fun c hc => by cases hc) (h x List.mem_cons_self)) (fun y hy => h y (List.mem_cons_of_mem _ hy))).1
theorem J_92 {l : List ByteArray} (h : Clean l) : ∀ c ∈ bytesOf (J l), c ≠ 92 := by
  cases l with
  | nil => intro c hc; cases hc
  | cons x r =>
    intro c hc
    rw [J_bytes] at hc
    rcases List.mem_append.1 hc with hc | hc
    · exact ((h x List.mem_cons_self).2 c hc).2.2.1
    · obtain ⟨y, hy, hc⟩ := List.mem_flatMap.1 hc
      rcases List.mem_cons.1 hc with rfl | hc
      · decide
      · rcases List.mem_append.1 hc with hc | hc
        · rw [List.mem_singleton.1 hc]; decide
        · exact ((h y (List.mem_cons_of_mem _ hy)).2 c hc).2.2.1
theorem parts_J {l : List ByteArray} (h : Clean l) (hn : l ≠ []) : partsL [J l] = l := by
  have e : (partsL [J l]).map bytesOf = l.map bytesOf := by
    show (([J l].flatMap fun v => kept (cutsP v 0 false 0)).map bytesOf) = _
    rw [List.flatMap_cons, List.flatMap_nil, List.append_nil, kept_map, cuts_list (J l) (J_92 h) (J l).size 0 false 0 (by omega) (by omega) (by omega), List.drop_zero, List.take_zero, ← J_cuts h hn]
    rfl
  exact (List.map_inj_right (fun x y hxy => bytes_inj hxy)).1 e
theorem Clean.nil : Clean [] := fun x h => by cases h
theorem Clean.addW {l : List ByteArray} (h : Clean l) (b : Bool) (s : ByteArray) (hs : CleanL (bytesOf s)) : Clean (addW b s l) := by
  intro x hx
  unfold Ctrl.addW at hx
  split at hx
  · rcases List.mem_append.1 hx with hx | hx
    · exact h x hx
    · rw [List.mem_singleton.1 hx]; exact hs
  · exact h x hx
theorem Clean.addN {l : List ByteArray} (h : Clean l) (n : Int) (s : ByteArray) (hs : CleanL (bytesOf s)) : Clean (addN n s l) := by
  unfold Ctrl.addN
  by_cases h0 : 0 ≤ n
  · obtain ⟨m, hm⟩ : ∃ m : Nat, min n 2147483647 = (m : Int) := ⟨(min n 2147483647).toNat, by omega⟩
    rw [if_pos h0, hm, Lib.itoa_nonneg]
    intro x hx
    rcases List.mem_append.1 hx with hx | hx
    · exact h x hx
    · rw [List.mem_singleton.1 hx, bytes_append]
      refine ⟨fun e => hs.1 (List.append_eq_nil_iff.1 e).1, fun c hc => ?_⟩
      rcases List.mem_append.1 hc with hc | hc
      · exact hs.2 c hc
      · have := dec_range m c hc
        omega
  · rw [if_neg h0]; exact h
theorem clean_all (c : ctrl_Parse.Ct) : Clean (textL c) := by
  unfold textL
  exact ((((((((((((Clean.nil).addW c.b0 ⟨#[110, 111, 45, 115, 116, 111, 114, 101]⟩ (by unfold CleanL; decide +kernel)).addW c.b1 ⟨#[110, 111, 45, 99, 97, 99, 104, 101]⟩ (by unfold CleanL; decide +kernel)).addW c.b2 ⟨#[112, 114, 105, 118, 97, 116, 101]⟩ (by unfold CleanL; decide +kernel)).addW c.b3 ⟨#[112, 117, 98, 108, 105, 99]⟩ (by unfold CleanL; decide +kernel)).addW c.b4 ⟨#[109, 117, 115, 116, 45, 114, 101, 118, 97, 108, 105, 100, 97, 116, 101]⟩ (by unfold CleanL; decide +kernel)).addW c.b5 ⟨#[112, 114, 111, 120, 121, 45, 114, 101, 118, 97, 108, 105, 100, 97, 116, 101]⟩ (by unfold CleanL; decide +kernel)).addW c.b6 ⟨#[111, 110, 108, 121, 45, 105, 102, 45, 99, 97, 99, 104, 101, 100]⟩ (by unfold CleanL; decide +kernel)).addN c.n8 ⟨#[109, 97, 120, 45, 97, 103, 101, 61]⟩ (by unfold CleanL; decide +kernel)).addN c.n9 ⟨#[115, 45, 109, 97, 120, 97, 103, 101, 61]⟩ (by unfold CleanL; decide +kernel)).addN c.n10 ⟨#[109, 105, 110, 45, 102, 114, 101, 115, 104, 61]⟩ (by unfold CleanL; decide +kernel)).addW c.b7 ⟨#[109, 97, 120, 45, 115, 116, 97, 108, 101]⟩ (by unfold CleanL; decide +kernel)).addN c.n11 ⟨#[109, 97, 120, 45, 115, 116, 97, 108, 101, 61]⟩ (by unfold CleanL; decide +kernel)
def oneField (s : ByteArray) : S29 := ⟨⟨#[99, 97, 99, 104, 101, 45, 99, 111, 110, 116, 114, 111, 108]⟩, s⟩
theorem read_back (b0 b1 b2 b3 b4 b5 b6 b7 : Bool) (n8 n9 n10 n11 : Int) (h8 : -1 ≤ n8 ∧ n8 ≤ 2147483647) (h9 : -1 ≤ n9 ∧ n9 ≤ 2147483647) (h10 : -1 ≤ n10 ∧ n10 ≤ 2147483647) (h11 : -1 ≤ n11 ∧ n11 ≤ 2147483647)
    (hs : Short (textL ⟨b0, b1, b2, b3, b4, b5, b6, b7, n8, n9, n10, n11⟩) 12) (hn : textL ⟨b0, b1, b2, b3, b4, b5, b6, b7, n8, n9, n10, n11⟩ ≠ []) :
    Ev (fun k => ctrl_Parse.f k [oneField (textOf ⟨b0, b1, b2, b3, b4, b5, b6, b7, n8, n9, n10, n11⟩)]) (b0, b1, b2, b3, b4, b5, b6, b7, n8, n9, n10, n11) := by
  have hf := fold_all b0 b1 b2 b3 b4 b5 b6 b7 n8 n9 n10 n11 h8 h9 h10 h11
  have hc := clean_all ⟨b0, b1, b2, b3, b4, b5, b6, b7, n8, n9, n10, n11⟩
  generalize hl : textL ⟨b0, b1, b2, b3, b4, b5, b6, b7, n8, n9, n10, n11⟩ = l at hs hn hf hc
  have ht : textOf ⟨b0, b1, b2, b3, b4, b5, b6, b7, n8, n9, n10, n11⟩ = J l := by unfold textOf; rw [hl]; rfl
  rw [ht]
  have hj := J_small hs (by decide)
  have hS : Small [oneField (J l)] := ⟨by simp, fun x hx => by
    rw [List.mem_singleton.1 hx]
    exact ⟨by show (⟨#[99, 97, 99, 104, 101, 45, 99, 111, 110, 116, 114, 111, 108]⟩ : ByteArray).size ≤ 140737488355328; decide, by show (J l).size ≤ 1000000; omega⟩⟩
  have hA : allL [oneField (J l)] ⟨#[67, 97, 99, 104, 101, 45, 67, 111, 110, 116, 114, 111, 108]⟩ = [J l] := by
    unfold allL
    rw [List.filter_cons, if_pos (show Leaf.sameB (oneField (J l)).f0 ⟨#[67, 97, 99, 104, 101, 45, 67, 111, 110, 116, 114, 111, 108]⟩ = true from (show Leaf.sameB ⟨#[99, 97, 99, 104, 101, 45, 99, 111, 110, 116, 114, 111, 108]⟩ ⟨#[67, 97, 99, 104, 101, 45, 67, 111, 110, 116, 114, 111, 108]⟩ = true by decide +kernel))]
    rfl
  have hall := all_head [oneField (J l)] ⟨#[67, 97, 99, 104, 101, 45, 67, 111, 110, 116, 114, 111, 108]⟩ hS
  have hlist := list_head [oneField (J l)] ⟨#[67, 97, 99, 104, 101, 45, 67, 111, 110, 116, 114, 111, 108]⟩ hS
  unfold listL at hlist
  rw [hA] at hall hlist
  rw [parts_J hc hn] at hlist
  have hlen := hs.1
  exact Ev.congr (fun k => ctrl_Parse.f.eq_1 k _) (ev_bind hall (ev_neg (by simp) (ev_bind hlist (ev_pos (by omega) (ev_bind hf (ev_ret rfl))))))
end Go.Proofs.YtdgimhaghhjdcaaDoor.Ctrl
