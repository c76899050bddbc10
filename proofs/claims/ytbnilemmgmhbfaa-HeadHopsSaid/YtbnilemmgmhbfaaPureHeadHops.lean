/- What goes one hop alone. -/
import Derived.Test.YtbnilemmgmhbfaaHeadParts
import Derived.Test.YtbnilemmgmhbfaaHx14
set_option linter.unusedVariables false
set_option linter.unusedSimpArgs false
namespace Go.Proofs.Ytbnilemmgmhbfaa.Pure
open Go.RowKit Go.Proofs.Ytbnilemmgmhbfaa.H Go.Proofs.YtbnilemmgmhbfaaW.PrintWords Go.Proofs.Ytbnilemmgmhbfaa.Plain
theorem parts_size (vs : List ByteArray) (hv : ∀ v ∈ vs, v.size ≤ 1000000) : ∀ x ∈ partsL vs, x.size ≤ 1000000 := by
  intro x hx
  obtain ⟨v, hvm, hx⟩ := List.mem_flatMap.1 hx
  have h1 := (List.mem_filter.1 hx).1
  obtain ⟨p, hp, rfl⟩ := List.mem_map.1 h1
  have h2 := cuts_size v v.size 0 false 0 (Nat.sub_le _ _) p hp
  exact Nat.le_trans (trim_size p) (Nat.le_trans h2 (hv v hvm))
theorem keep_alike (l : List S39) {n m : ByteArray} (h : (bytesOf n).map Leaf.lowC = (bytesOf m).map Leaf.lowC) : keepL l n = keepL l m := by
  unfold keepL Leaf.sameB; rw [h]
theorem hop_head (l : List S39) (ns : List ByteArray) (hl : Small l) (hn : ns.length ≤ 4611686018427387904) (hs : ∀ n ∈ ns, n.size ≤ 140737488355328) : Ev (fun k => head_Hop.l0 k l ns (ns.length : Int) 0) (ns.foldl keepL l) := by
  have key : ∀ j, j ≤ ns.length → ∀ acc : List S39, Small acc → Ev (fun k => head_Hop.l0 k acc ns (ns.length : Int) (j : Int)) ((ns.drop j).foldl keepL acc) := by
    refine up _ fun j hj ih acc ha => ?_
    refine Ev.step (fun k => head_Hop.l0.eq_2 acc ns (ns.length : Int) (j : Int) k) ?_
    by_cases hlt : j < ns.length
    · refine ev_pos (by omega) (ev_pos (by omega) (ev_pos (by omega) ?_))
      rw [rdOf_nat, drop_cons ns ByteArray.empty hlt, wrap_succ (by omega), List.foldl_cons]
      exact ev_some (drop_head acc _ ha (hs _ (getD_mem ByteArray.empty ns hlt))) (ih hlt _ (keep_small _ ha))
    · refine ev_neg (by omega) (ev_ret ?_)
      rw [List.drop_of_length_le (by omega)]; rfl
  exact key 0 (Nat.zero_le _) l hl
theorem hop_ref (l : List S39) (ns : List ByteArray) (hl : Small l) (hn : ns.length ≤ 4611686018427387904) (hs : ∀ n ∈ ns, n.size ≤ 140737488355328) : Ev (fun k => ambryref10_Hop.l0 k ns l 0) (ns.foldl keepL l) := by
  have key : ∀ j, j ≤ ns.length → ∀ acc : List S39, Small acc → Ev (fun k => ambryref10_Hop.l0 k ns acc (j : Int)) ((ns.drop j).foldl keepL acc) := by
    refine up _ fun j hj ih acc ha => ?_
    refine Ev.step (fun k => ambryref10_Hop.l0.eq_2 ns acc (j : Int) k) ?_
    by_cases hlt : j < ns.length
    · refine ev_pos (by omega) (ev_pos (by omega) ?_)
      rw [rdOf_nat, drop_cons ns ByteArray.empty hlt, wrap_succ (by omega), List.foldl_cons]
      exact ev_bind (drop_ref acc _ ha (hs _ (getD_mem ByteArray.empty ns hlt))) (ih hlt _ (keep_small _ ha))
    · refine ev_neg (by omega) (ev_ret ?_)
      rw [List.drop_of_length_le (by omega)]; rfl
  exact key 0 (Nat.zero_le _) l hl
theorem fold_alike (r : List ByteArray) : ∀ (ns ms : List ByteArray) (l : List S39), ns.map (fun n => (bytesOf n).map Leaf.lowC) = ms.map (fun n => (bytesOf n).map Leaf.lowC) → (ns ++ r).foldl keepL l = (ms ++ r).foldl keepL l
  | [], [], l, _ => rfl
  | n :: ns, m :: ms, l, h => by
    simp only [List.map_cons, List.cons.injEq] at h
    rw [List.cons_append, List.cons_append, List.foldl_cons, List.foldl_cons, keep_alike l h.1]
    exact fold_alike r ns ms _ h.2
  | [], m :: ms, l, h => by simp at h
  | n :: ns, [], l, h => by simp at h
def lowNames : List (List Int) := [[99, 111, 110, 110, 101, 99, 116, 105, 111, 110], [107, 101, 101, 112, 45, 97, 108, 105, 118, 101], [112, 114, 111, 120, 121, 45, 99, 111, 110, 110, 101, 99, 116, 105, 111, 110], [112, 114, 111, 120, 121, 45, 97, 117, 116, 104, 101, 110, 116, 105, 99, 97, 116, 101], [112, 114, 111, 120, 121, 45, 97, 117, 116, 104, 111, 114, 105, 122, 97, 116, 105, 111, 110], [116, 101], [116, 114, 97, 105, 108, 101, 114], [116, 114, 97, 110, 115, 102, 101, 114, 45, 101, 110, 99, 111, 100, 105, 110, 103], [117, 112, 103, 114, 97, 100, 101]]
theorem HeadHops_ev (l : List S39) : Ev (fun k => ambrylaw10_HeadHops.f k l) true := by
  refine Ev.congr (fun k => ambrylaw10_HeadHops.f.eq_1 k l) (ev_bind known_ev (ev_pos rfl ?_))
  rcases light_ev l with ⟨e, h20, hx⟩ | e
  case inr => exact ev_bind e (ev_neg (by decide) (Ev.now _))
  refine ev_bind e (ev_pos rfl ?_)
  have hs := small_of h20 hx
  have hal := all_small l (⟨#[67, 111, 110, 110, 101, 99, 116, 105, 111, 110]⟩ : ByteArray) hs
  have hlen : (partsL (allL l (⟨#[67, 111, 110, 110, 101, 99, 116, 105, 111, 110]⟩ : ByteArray))).length ≤ 5000000000 :=
    Nat.le_trans (parts_length 1000001 _ fun v h => Nat.succ_le_succ (hal.2 v h)) (Nat.le_trans (Nat.mul_le_mul hal.1 (Nat.le_refl _)) (by decide))
  have hsz := parts_size _ hal.2
  have hlh := list_head l (⟨#[67, 111, 110, 110, 101, 99, 116, 105, 111, 110]⟩ : ByteArray) hs
  have hlr := list_ref l (⟨#[67, 111, 110, 110, 101, 99, 116, 105, 111, 110]⟩ : ByteArray) hs (by decide)
  unfold listL at hlh hlr
  generalize partsL (allL l (⟨#[67, 111, 110, 110, 101, 99, 116, 105, 111, 110]⟩ : ByteArray)) = ps at hlen hsz hlh hlr
  have eh : ∃ n1 : List ByteArray, n1.map (fun n => (bytesOf n).map Leaf.lowC) = lowNames ∧ Ev (fun k => head_Hop.f k l) ((n1 ++ ps).foldl keepL l) := by
    refine ⟨_, ?_, Ev.congr (fun k => head_Hop.f.eq_1 k l) (ev_some rfl (ev_bind hlh (ev_pos ?_ (ev_some rfl (ev_some (if_pos (by omega)) (hop_head l _ hs ?_ ?_))))))⟩
    · decide +kernel
    · simp only [List.length_cons, List.length_nil]; omega
    · simp only [List.length_append, List.length_cons, List.length_nil]; omega
    · intro n hn
      rcases List.mem_append.1 hn with h' | h'
      · clear hn; revert n; decide +kernel
      · have := hsz n h'; omega
  have er : ∃ n2 : List ByteArray, n2.map (fun n => (bytesOf n).map Leaf.lowC) = lowNames ∧ Ev (fun k => ambryref10_Hop.f k l) ((n2 ++ ps).foldl keepL l) := by
    refine ⟨_, ?_, Ev.congr (fun k => ambryref10_Hop.f.eq_1 k l) (ev_some rfl (ev_bind hlr (ev_pos ?_ (hop_ref l _ hs ?_ ?_))))⟩
    · decide +kernel
    · simp only [List.length_cons, List.length_nil]; omega
    · simp only [List.length_append, List.length_cons, List.length_nil]; omega
    · intro n hn
      rcases List.mem_append.1 hn with h' | h'
      · clear hn; revert n; decide +kernel
      · have := hsz n h'; omega
  obtain ⟨n1, q1, eh⟩ := eh
  obtain ⟨n2, q2, er⟩ := er
  rw [fold_alike ps n2 n1 l (q2.trans q1.symm)] at er
  have hlast : ((n1 ++ ps).foldl keepL l).length ≤ 4000 := by
    generalize n1 ++ ps = ns
    have : ∀ (ns : List ByteArray) (m : List S39), m.length ≤ 4000 → (ns.foldl keepL m).length ≤ 4000 := by
      intro ns
      induction ns with
      | nil => intro m h; exact h
      | cons n ns ih => intro m h; exact ih _ (Nat.le_trans (keep_length m n) h)
    exact this ns l hs.1
  exact ev_bind eh (ev_bind er (ev_bind (fields_eq _ hlast) (Ev.now _)))
end Go.Proofs.Ytbnilemmgmhbfaa.Pure
