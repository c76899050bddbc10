/- Segments, put together, are told without dots, each .. taking the one ahead of it. -/
import Derived.Test.YtgpkgfdojfnafaaDoorNormDots
import Derived.Test.YtgpkgfdojfnafaaDoorKx9
import Derived.OpenShut
set_option linter.unusedVariables false
set_option linter.unusedSimpArgs false
namespace Go.Proofs.YtgpkgfdojfnafaaDoor.Pure
open Go.RowKit Go.Proofs.YtgpkgfdojfnafaaDoor.K Go.Proofs.YtgpkgfdojfnafaaDoorW.PrintWords Go.Proofs.YtgpkgfdojfnafaaDoorW.PrintLast Go.Proofs.YtgpkgfdojfnafaaDoor.Plain Go.Proofs.YtgpkgfdojfnafaaDoor.Norm
theorem rd_nat (l : List Int) (j : Nat) : rd l (j : Int) = l.getD j 0 := by unfold rd; rw [Int.toNat_natCast]
theorem name_tab : ∀ n : Fin 256, (0 ≤ Int.tmod (n.val : Int) 8 ∧ Int.tmod (n.val : Int) 8 < 8) ∧ (rdOf ByteArray.empty ([(⟨#[46]⟩ : ByteArray), (⟨#[46, 46]⟩ : ByteArray), (⟨#[97]⟩ : ByteArray), (⟨#[98]⟩ : ByteArray), (⟨#[46, 46, 46]⟩ : ByteArray), (⟨#[46, 99]⟩ : ByteArray), (⟨#[97]⟩ : ByteArray), (⟨#[98]⟩ : ByteArray)] : List ByteArray) (Int.tmod (n.val : Int) 8)).size ≤ 3 ∧
    bytesOf (rdOf ByteArray.empty ([(⟨#[46]⟩ : ByteArray), (⟨#[46, 46]⟩ : ByteArray), (⟨#[97]⟩ : ByteArray), (⟨#[98]⟩ : ByteArray), (⟨#[46, 46, 46]⟩ : ByteArray), (⟨#[46, 99]⟩ : ByteArray), (⟨#[97]⟩ : ByteArray), (⟨#[98]⟩ : ByteArray)] : List ByteArray) (Int.tmod (n.val : Int) 8)) ≠ [] ∧
    (bytesOf (rdOf ByteArray.empty ([(⟨#[46]⟩ : ByteArray), (⟨#[46, 46]⟩ : ByteArray), (⟨#[97]⟩ : ByteArray), (⟨#[98]⟩ : ByteArray), (⟨#[46, 46, 46]⟩ : ByteArray), (⟨#[46, 99]⟩ : ByteArray), (⟨#[97]⟩ : ByteArray), (⟨#[98]⟩ : ByteArray)] : List ByteArray) (Int.tmod (n.val : Int) 8))).all (fun c => c != 47) = true := by decide +kernel
theorem same_list {a b : ByteArray} (h : bytesOf a = bytesOf b) : (a.toList == b.toList) = true := by rw [bytes_inj h]; exact beq_self_eq_true _
/-- What is wanted, held against what is told. -/
theorem tell_want (e1 : Bool) (P last : ByteArray) (out : List ByteArray) (E : Bool) (hP : P.size ≤ 1100) (hd : dotsL (bytesOf P) = tellL (out.map bytesOf) E) (hE : E = true ↔ (e1 = true ∨ bytesOf last = [46] ∨ bytesOf last = [46, 46])) (ho : out.length ≤ 1000) (hb : (joinL (out.map bytesOf)).length ≤ 2000000) :
    Ev (fun k => ambrylaw23_NormSegments.l1 k e1 P out last (⟨#[]⟩ : ByteArray) 0) true := by
  have hD := bytes_dots P
  rw [hd] at hD
  have key : ∀ j, j ≤ out.length → ∀ acc : ByteArray, bytesOf acc ++ joinL ((out.drop j).map bytesOf) = joinL (out.map bytesOf) → Ev (fun k => ambrylaw23_NormSegments.l1 k e1 P out last acc (j : Int)) true := by
    refine up _ fun j hj ih acc ha => ?_
    refine Ev.step (fun k => ambrylaw23_NormSegments.l1.eq_2 e1 P out last acc (j : Int) k) ?_
    have hal : acc.size ≤ 2000000 := by
      have := congrArg List.length ha
      rw [List.length_append, ← size_bytes] at this; omega
    have s1 : (⟨#[47]⟩ : ByteArray).size = 1 := rfl
    by_cases hlt : j < out.length
    · rw [drop_cons out ByteArray.empty hlt, List.map_cons] at ha
      rw [rdOf_nat, wrap_succ (by omega)]
      generalize out.getD j ByteArray.empty = y at ha ⊢
      have e1 : joinL (bytesOf y :: (out.drop (j + 1)).map bytesOf) = 47 :: bytesOf y ++ joinL ((out.drop (j + 1)).map bytesOf) := rfl
      rw [e1] at ha
      have hl := congrArg List.length ha
      rw [List.length_append, List.length_append, List.length_cons, ← size_bytes, ← size_bytes] at hl
      refine ev_pos (by omega) (ev_pos (by omega) (ev_pos (by omega) (ev_pos (by rw [size_append, s1]; omega) (ih hlt _ ?_))))
      rw [← ha, bytes_append, bytes_append]
      simp only [List.append_assoc]
      rfl
    · rw [List.drop_of_length_le (by omega)] at ha
      have ha2 : bytesOf acc = joinL (out.map bytesOf) := by rw [← ha]; exact (List.append_nil _).symm
      have hslash : bytesOf (acc ++ (⟨#[47]⟩ : ByteArray)) = joinL (out.map bytesOf) ++ [47] := by rw [bytes_append, ha2]; rfl
      have with_ : (E = true ∨ out.map bytesOf = []) → ((dotsB P).toList == (acc ++ (⟨#[47]⟩ : ByteArray)).toList) = true := fun h => same_list (by
        rw [hD, hslash]; unfold tellL; rw [if_pos h])
      refine ev_neg (by omega) ?_
      have hDn := dots_norm P hP
      by_cases h1 : e1 = true
      · exact ev_pos h1 (ev_pos (by omega) (ev_some hDn (ev_ret (with_ (.inl (hE.2 (.inl h1)))))))
      refine ev_neg h1 ?_
      by_cases h2 : last.toList = [46]
      · exact ev_pos h2 (ev_pos (by omega) (ev_some hDn (ev_ret (with_ (.inl (hE.2 (.inr (.inl ((is_dot last).1 h2)))))))))
      refine ev_neg h2 ?_
      by_cases h3 : last.toList = [46, 46]
      · exact ev_pos h3 (ev_pos (by omega) (ev_some hDn (ev_ret (with_ (.inl (hE.2 (.inr (.inr ((is_up last).1 h3)))))))))
      refine ev_neg h3 ?_
      by_cases h0 : out.map bytesOf = []
      · exact ev_pos ((is_none acc).2 (by rw [ha2, h0]; rfl)) (ev_pos (by omega) (ev_some hDn (ev_ret (with_ (.inr h0)))))
      · have hne : ¬ acc.toList = [] := fun h => by
          have := (is_none acc).1 h
          rw [ha2] at this
          cases hm : out.map bytesOf with
          | nil => exact h0 hm
          | cons x l => rw [hm] at this; cases this
        refine ev_neg hne (ev_some hDn (ev_ret (same_list ?_)))
        rw [hD, ha2]
        unfold tellL
        rw [if_neg (fun h => h.elim (fun h => by
          rcases hE.1 h with h | h | h
          · exact h1 h
          · exact h2 ((is_dot last).2 h)
          · exact h3 ((is_up last).2 h)) h0), List.append_nil]
  exact key 0 (Nat.zero_le _) _ rfl
theorem dots_join (S : List (List Int)) (h47 : ∀ s ∈ S, ∀ c ∈ s, c ≠ 47) (hn : ∀ s ∈ S, s ≠ []) : dotsL (joinL S) = tellL (S.foldl stepL []) (endsL (S.getLastD [])) ∨ S = [] := by
  cases S with
  | nil => exact .inr rfl
  | cons s l =>
    left
    have e2 : splitL [] (bareL (joinL (s :: l))) = s :: l := by
      have := bare_join s l []
      rw [List.append_nil, List.append_nil] at this
      rw [this, splitL_on _ _ _ (h47 s List.mem_cons_self), List.nil_append, split_join _ _ (fun x hx => h47 x (List.mem_cons_of_mem _ hx))]
    have hl : (s :: l).getLastD [] ≠ [] := by
      obtain ⟨m, x, hm⟩ := Norm.concat_of (s :: l) (by simp)
      rw [hm, getLastD_concat]
      exact hn x (by rw [hm]; simp)
    unfold dotsL
    rw [e2]
    show tellL (outL (s :: l)) _ = _
    unfold outL walkL
    rw [if_neg hl]
theorem dots_join_slash (S : List (List Int)) (h47 : ∀ s ∈ S, ∀ c ∈ s, c ≠ 47) : dotsL (joinL S ++ [47]) = tellL (S.foldl stepL []) true := by
  cases S with
  | nil => decide
  | cons s l =>
    have e2 : splitL [] (bareL (joinL (s :: l) ++ [47])) = (s :: l) ++ [[]] := by
      rw [bare_join]
      have : s ++ joinL l ++ [47] = s ++ joinL (l ++ [[]]) := by rw [joinL_append]; simp [joinL]
      rw [this, splitL_on _ _ _ (h47 s List.mem_cons_self), List.nil_append, split_join _ _ (fun x hx => by
        rcases List.mem_append.1 hx with hx | hx
        · exact h47 x (List.mem_cons_of_mem _ hx)
        · rw [List.mem_singleton.1 hx]; intro c hc; cases hc)]
      rfl
    unfold dotsL
    rw [e2]
    show tellL (outL ((s :: l) ++ [[]])) (endsL (((s :: l) ++ [[]]).getLastD [])) = _
    rw [getLastD_concat]
    unfold outL walkL
    rw [getLastD_concat, if_pos rfl, List.dropLast_concat]; rfl
theorem join_all_len (S : List (List Int)) : ∀ out : List (List Int), (joinL (S.foldl stepL out)).length ≤ (joinL out).length + (joinL S).length := fold_join S
theorem NormSegments : ambrylaw23_NormSegments.Pure := by
  intro l e1 _ _ hl8
  refine Ev.rounds (Ev.congr (fun k => ambrylaw23_NormSegments.f.eq_1 k l e1) (ev_bind known_ev (ev_pos rfl ?_)))
  by_cases h30 : (l.length : Int) > 30
  · exact ev_pos h30 (Ev.now _)
  refine ev_neg h30 ?_
  have key : ∀ i, i ≤ l.length → ∀ (path last : ByteArray) (out : List ByteArray) (S : List (List Int)), S.length = i → path.size ≤ i * 4 → bytesOf path = joinL S → out.map bytesOf = S.foldl stepL [] → bytesOf last = S.getLastD [] → (∀ s ∈ S, ∀ c ∈ s, c ≠ 47) → (∀ s ∈ S, s ≠ []) → Ev (fun k => ambrylaw23_NormSegments.l0 k l e1 path out last (i : Int)) true := by
    refine up _ fun i hi ih path last out S hSl hsz hp ho hla h47 hn => ?_
    have hol : out.length ≤ i := by
      have h1 := congrArg List.length ho
      have h2 := fold_len S []
      rw [List.length_map] at h1
      simp only [List.length_nil] at h2
      omega
    have hjl : (joinL (out.map bytesOf)).length ≤ 2000000 := by
      rw [ho]
      have h1 := fold_join S []
      have h2 := congrArg List.length hp
      rw [← size_bytes] at h2
      have h3 : (joinL ([] : List (List Int))).length = 0 := rfl
      omega
    have s1 : (⟨#[47]⟩ : ByteArray).size = 1 := rfl
    refine Ev.step (fun k => ambrylaw23_NormSegments.l0.eq_2 l e1 path out last (i : Int) k) ?_
    by_cases hlt : i < l.length
    · have hc := bounds_u8 (hl8 _ (getD_mem 0 l hlt))
      refine ev_pos (by omega) (ev_some rfl (ev_pos (by omega) ?_))
      rw [rd_nat, wrap_succ (by omega)]
      obtain ⟨n, hnc⟩ := fin_of hc.1 hc.2
      rw [hnc]
      obtain ⟨⟨t1, t2⟩, t3, t4, t5⟩ := name_tab n
      have t6 : ∀ c ∈ bytesOf (rdOf ByteArray.empty ([(⟨#[46]⟩ : ByteArray), (⟨#[46, 46]⟩ : ByteArray), (⟨#[97]⟩ : ByteArray), (⟨#[98]⟩ : ByteArray), (⟨#[46, 46, 46]⟩ : ByteArray), (⟨#[46, 99]⟩ : ByteArray), (⟨#[97]⟩ : ByteArray), (⟨#[98]⟩ : ByteArray)] : List ByteArray) (Int.tmod (n.val : Int) 8)), c ≠ 47 := fun c hc => by
        have := List.all_eq_true.1 t5 c hc
        exact bne_iff_ne.1 this
      refine ev_pos t1 (ev_pos t2 ?_)
      generalize rdOf ByteArray.empty ([(⟨#[46]⟩ : ByteArray), (⟨#[46, 46]⟩ : ByteArray), (⟨#[97]⟩ : ByteArray), (⟨#[98]⟩ : ByteArray), (⟨#[46, 46, 46]⟩ : ByteArray), (⟨#[46, 99]⟩ : ByteArray), (⟨#[97]⟩ : ByteArray), (⟨#[98]⟩ : ByteArray)] : List ByteArray) (Int.tmod (n.val : Int) 8) = y at t3 t4 t6 ⊢
      clear t1 t2 t5 hnc
      have next : ∀ o : List ByteArray, o.map bytesOf = stepL (out.map bytesOf) (bytesOf y) → Ev (fun k => ambrylaw23_NormSegments.l0 k l e1 ((path ++ (⟨#[47]⟩ : ByteArray)) ++ y) o y ((i + 1 : Nat) : Int)) true := by
        intro o hoo
        refine ih hlt _ y o (S ++ [bytesOf y]) (by rw [List.length_append, hSl]; rfl) (by rw [size_append, size_append, s1]; omega) ?_ ?_ (getLastD_concat _ _).symm ?_ ?_
        · rw [bytes_append, bytes_append, hp, joinL_append]
          show joinL S ++ [47] ++ bytesOf y = joinL S ++ (47 :: bytesOf y ++ [])
          simp
        · rw [hoo, ho, List.foldl_append]; rfl
        · intro s hs
          rcases List.mem_append.1 hs with hs | hs
          · exact h47 s hs
          · rw [List.mem_singleton.1 hs]; exact t6
        · intro s hs
          rcases List.mem_append.1 hs with hs | hs
          · exact hn s hs
          · rw [List.mem_singleton.1 hs]; exact t4
      refine ev_pos (by omega) (ev_pos (by rw [size_append, s1]; omega) ?_)
      by_cases h1 : y.toList = [46]
      · refine ev_pos h1 (next out ?_)
        unfold stepL; rw [if_pos ((is_dot y).1 h1)]
      refine ev_neg h1 ?_
      have hn1 : ¬ bytesOf y = [46] := fun h => h1 ((is_dot y).2 h)
      by_cases h2 : y.toList = [46, 46]
      · refine ev_pos h2 ?_
        have hst : stepL (out.map bytesOf) (bytesOf y) = (out.map bytesOf).dropLast := by unfold stepL; rw [if_neg hn1, if_pos ((is_up y).1 h2)]
        by_cases h0 : (out.length : Int) > 0
        · have hw : wrap64 ((out.length : Int) - 1) = ((out.length - 1 : Nat) : Int) := by unfold wrap64; omega
          rw [hw, Int.toNat_natCast]
          clear hw
          refine ev_pos h0 (ev_pos (by omega) (ev_pos (by omega) (next _ ?_)))
          rw [hst, take_last]
        · refine ev_neg h0 (next out ?_)
          rw [hst, List.eq_nil_of_length_eq_zero (show out.length = 0 by omega)]; rfl
      · refine ev_neg h2 (ev_pos (by omega) (next _ ?_))
        unfold stepL
        rw [if_neg hn1, if_neg (fun h => h2 ((is_up y).2 h)), List.map_append]; rfl
    · refine ev_neg (by omega) ?_
      by_cases he : e1 = true
      · refine ev_pos he (ev_pos (by omega) (Ev.step (fun k => ambrylaw23_NormSegments.j1.eq_2 e1 _ out last k) (tell_want e1 _ last out true (by rw [size_append, s1]; omega) ?_ ⟨fun _ => .inl he, fun _ => rfl⟩ (by omega) hjl)))
        rw [bytes_append, hp, ho]
        exact dots_join_slash S h47
      · refine ev_neg he (Ev.step (fun k => ambrylaw23_NormSegments.j1.eq_2 e1 _ out last k) ?_)
        by_cases hS : S = []
        · refine tell_want e1 _ last out false (by omega) ?_ (Iff.intro (fun h => by cases h) (fun h => ?_)) (by omega) hjl
          · rw [hp, ho, hS]; decide
          · rw [hla, hS] at h
            rcases h with h | h | h
            · exact absurd h he
            · cases h
            · cases h
        · have hd := (dots_join S h47 hn).resolve_right hS
          refine tell_want e1 _ last out (endsL (S.getLastD [])) (by omega) (by rw [hp, ho]; exact hd) ?_ (by omega) hjl
          rw [← hla]
          have hlast : bytesOf last ≠ [] := by
            obtain ⟨m, x, hm⟩ := Norm.concat_of S hS
            rw [hla, hm, getLastD_concat]
            exact hn x (by rw [hm]; simp)
          unfold endsL
          simp only [Bool.or_eq_true, decide_eq_true_eq]
          constructor
          · intro h
            rcases h with (h | h) | h
            · exact absurd h hlast
            · exact .inr (.inl h)
            · exact .inr (.inr h)
          · intro h
            rcases h with h | h | h
            · exact absurd h he
            · exact .inl (.inr h)
            · exact .inr h
  exact key 0 (Nat.zero_le _) _ _ [] [] rfl (Nat.le_refl _) rfl rfl rfl (fun _ h => by cases h) (fun _ h => by cases h)
end Go.Proofs.YtgpkgfdojfnafaaDoor.Pure
