/- A path of up to twelve segments, put together out of two lists: its patterns with '*' and '**' match as the document says. The plain part. -/
import Derived.Test.YtjmgnlkpkngjeaaGx6
import Derived.Test.YtjmgnlkpkngjeaaGlobKnown
set_option linter.unusedVariables false
set_option linter.unusedSimpArgs false
namespace Go.Proofs.Ytjmgnlkpkngjeaa.Pure
open Go.RowKit Go.Proofs.Ytjmgnlkpkngjeaa.G Go.Proofs.YtjmgnlkpkngjeaaW.PrintWords Go.Proofs.YtjmgnlkpkngjeaaW.PrintLast Go.Proofs.Ytjmgnlkpkngjeaa.Plain

def segs : List ByteArray := [(⟨#[97]⟩ : ByteArray), (⟨#[98, 99]⟩ : ByteArray), (⟨#[]⟩ : ByteArray), (⟨#[100, 46, 101]⟩ : ByteArray)]
/-- What is so of the text s and the patterns p, q behind i segments. -/
structure So (i : Nat) (s p q : ByteArray) (lp lq : List S40) : Prop where
  s1 : s.size ≤ 4 * i
  p1 : p.size ≤ 4 * i
  q1 : q.size ≤ 4 * i
  pp : ∀ r, (∀ r', r ≠ 42 :: r') → parse (bytesOf p ++ r) = (parse r).map (lp ++ ·)
  pq : ∀ r, parse (bytesOf q ++ r) = (parse r).map (lq ++ ·)
  gp : Lg lp (bytesOf s)
  gq : Lg lq (bytesOf s)
  kp : ∀ x ∈ lp, x.f0 = 0 ∨ x.f0 = 2
  e0 : i = 0 → lp = []
  e1 : i ≠ 0 → ∃ l, lp = own 47 :: l

theorem So.zero : So 0 ⟨#[]⟩ ⟨#[]⟩ ⟨#[]⟩ [] [] :=
  ⟨by decide, by decide, by decide, fun r _ => by simp [bytesOf], fun r => by simp [bytesOf], Lg.nil, Lg.nil, fun x hx => by simp at hx, fun _ => rfl, fun h => absurd rfl h⟩

theorem parse_plain (x : List Int) (hx : ∀ c ∈ x, ¬ (c = 42 ∨ c = 63 ∨ c = 92)) (r : List Int) : parse (x ++ r) = (parse r).map (x.map own ++ ·) := by
  induction x with
  | nil => simp
  | cons c x ih =>
    rw [List.cons_append, parse_own c (hx c (by simp)), ih (fun d hd => hx d (by simp [hd])), Option.map_map]
    rfl
theorem not_star_append {x r : List Int} (hx : ∀ c ∈ x, c ≠ 42) (hr : ∀ r', r ≠ 42 :: r') : ∀ r', x ++ r ≠ 42 :: r' := by
  cases x with
  | nil => exact hr
  | cons c x => intro r' h; rw [List.cons_append] at h; exact hx c (by simp) (List.cons.inj h).1
theorem map_map_append {o : Option (List S40)} (a b : List S40) : ((o.map (b ++ ·)).map (a ++ ·)) = o.map ((a ++ b) ++ ·) := by
  cases o <;> simp

theorem So.next {i : Nat} {s p q : ByteArray} {lp lq : List S40} (h : So i s p q lp lq) (x : ByteArray) (hx : x.size ≤ 3) (hc : ∀ c ∈ bytesOf x, ¬ (c = 42 ∨ c = 63 ∨ c = 92) ∧ c ≠ 47) (star : Bool) :
    ∃ lp' lq', So (i + 1) ((s ++ ⟨#[47]⟩) ++ x) (if star = true then p ++ ⟨#[47, 42]⟩ else (p ++ ⟨#[47]⟩) ++ x) (if star = true then q ++ ⟨#[47, 42, 42]⟩ else (q ++ ⟨#[47]⟩) ++ x) lp' lq' := by
  have b1 : bytesOf (⟨#[47]⟩ : ByteArray) = [47] := rfl
  have b2 : bytesOf (⟨#[47, 42]⟩ : ByteArray) = [47, 42] := rfl
  have b3 : bytesOf (⟨#[47, 42, 42]⟩ : ByteArray) = [47, 42, 42] := rfl
  have z1 : (⟨#[47]⟩ : ByteArray).size = 1 := rfl
  have z2 : (⟨#[47, 42]⟩ : ByteArray).size = 2 := rfl
  have z3 : (⟨#[47, 42, 42]⟩ : ByteArray).size = 3 := rfl
  obtain ⟨h1, h2, h3, h4, h5, h6, h7, h8, h9, h10⟩ := h
  have hs : bytesOf ((s ++ ⟨#[47]⟩) ++ x) = (bytesOf s ++ [47]) ++ bytesOf x := by rw [bytes_append, bytes_append, b1]
  have hnx : ∀ c ∈ (47 : Int) :: bytesOf x, ¬ (c = 42 ∨ c = 63 ∨ c = 92) := by
    intro c hc'
    rcases List.mem_cons.1 hc' with rfl | hc'
    · omega
    · exact (hc c hc').1
  have first : ∀ l' : List S40, ∃ l, lp ++ (own 47 :: l') = own 47 :: l := by
    intro l'
    by_cases hi : i = 0
    · exact ⟨l', by rw [h9 hi]; rfl⟩
    · obtain ⟨l, hl⟩ := h10 hi
      exact ⟨l ++ own 47 :: l', by rw [hl]; rfl⟩
  cases star with
  | true =>
    refine ⟨lp ++ [own 47, ⟨2, 0⟩], lq ++ [own 47, ⟨3, 0⟩], ?_, ?_, ?_, ?_, ?_, ?_, ?_, ?_, ?_, ?_⟩
    · rw [size_append, size_append, z1]; omega
    · rw [if_pos rfl, size_append, z2]; omega
    · rw [if_pos rfl, size_append, z3]; omega
    · intro r hr
      rw [if_pos rfl, bytes_append, b2, List.append_assoc]
      have e : ([47, 42] : List Int) ++ r = 47 :: 42 :: r := rfl
      rw [e, h4 _ (fun r' h => by cases h), parse_own 47 (by omega), parse_star r hr]
      cases parse r <;> simp
    · intro r
      rw [if_pos rfl, bytes_append, b3, List.append_assoc]
      have e : ([47, 42, 42] : List Int) ++ r = 47 :: 42 :: 42 :: r := rfl
      rw [e, h5, parse_own 47 (by omega), parse_all]
      cases parse r <;> simp
    · rw [hs]
      have := (h6.own_more [47]).some_more (bytesOf x) (fun c hc' => (hc c hc').2)
      simpa using this
    · rw [hs]
      have := (h7.own_more [47]).all_more (bytesOf x)
      simpa using this
    · intro y hy
      simp only [List.mem_append, List.mem_cons, List.not_mem_nil, or_false] at hy
      rcases hy with hy | rfl | rfl
      · exact h8 y hy
      · exact .inl rfl
      · exact .inr rfl
    · intro hi; omega
    · intro _; exact first _
  | false =>
    refine ⟨lp ++ (47 :: bytesOf x).map own, lq ++ (47 :: bytesOf x).map own, ?_, ?_, ?_, ?_, ?_, ?_, ?_, ?_, ?_, ?_⟩
    · rw [size_append, size_append, z1]; omega
    · rw [if_neg (by simp), size_append, size_append, z1]; omega
    · rw [if_neg (by simp), size_append, size_append, z1]; omega
    · intro r hr
      rw [if_neg (by simp), bytes_append, bytes_append, b1, List.append_assoc, List.append_assoc]
      have e : ([47] : List Int) ++ (bytesOf x ++ r) = (47 :: bytesOf x) ++ r := rfl
      rw [e, h4 _ (not_star_append (fun c hc' => fun he => hnx c hc' (.inl he)) hr), parse_plain _ hnx, map_map_append]
    · intro r
      rw [if_neg (by simp), bytes_append, bytes_append, b1, List.append_assoc, List.append_assoc]
      have e : ([47] : List Int) ++ (bytesOf x ++ r) = (47 :: bytesOf x) ++ r := rfl
      rw [e, h5, parse_plain _ hnx, map_map_append]
    · rw [hs]
      have := h6.own_more (47 :: bytesOf x)
      simpa using this
    · rw [hs]
      have := h7.own_more (47 :: bytesOf x)
      simpa using this
    · intro y hy
      simp only [List.mem_append, List.mem_map] at hy
      rcases hy with hy | ⟨c, _, rfl⟩
      · exact h8 y hy
      · exact .inl rfl
    · intro hi; omega
    · intro _; rw [List.map_cons]; exact first _

theorem segs_at (z : Int) (h0 : 0 ≤ z) (h4 : z < 4) : (rdOf ByteArray.empty segs z).size ≤ 3 ∧ ∀ c ∈ bytesOf (rdOf ByteArray.empty segs z), ¬ (c = 42 ∨ c = 63 ∨ c = 92) ∧ c ≠ 47 := by
  have : z = 0 ∨ z = 1 ∨ z = 2 ∨ z = 3 := by omega
  rcases this with rfl | rfl | rfl | rfl <;> decide +kernel

theorem segs_loop (l0 : List Int) (l1 : List Bool) (hr : ∀ x ∈ l0, 0 ≤ x ∧ x ≤ 255) (h12 : l0.length ≤ 12) (hl : l0.length ≤ l1.length) : ∀ (d i : Nat) (s p q : ByteArray) (lp lq : List S40), l0.length - i = d → i ≤ l0.length → So i s p q lp lq →
    Ev (fun k => ambrylaw24_GlobSegments.l0 k l0 l1 s p q (i : Int)) true := by
  intro d
  induction d with
  | zero =>
    intro i s p q lp lq hd hi h
    obtain rfl : i = l0.length := by omega
    have b1 : bytesOf (⟨#[47, 122]⟩ : ByteArray) = [47, 122] := rfl
    have b2 : bytesOf (⟨#[122]⟩ : ByteArray) = [122] := rfl
    have b3 : bytesOf (⟨#[42, 42]⟩ : ByteArray) = [42, 42] := rfl
    have z1 : (⟨#[47, 122]⟩ : ByteArray).size = 2 := rfl
    have z2 : (⟨#[122]⟩ : ByteArray).size = 1 := rfl
    have z3 : (⟨#[42, 42]⟩ : ByteArray).size = 2 := rfl
    have z4 : (⟨#[47, 122, 47, 121]⟩ : ByteArray).size = 4 := rfl
    have hs1 := h.s1
    have hp1 := h.p1
    have hq1 := h.q1
    have pp : pparse p = some lp := by
      have := h.pp [] (fun r' hr' => by cases hr')
      rw [List.append_nil] at this
      rw [pparse, if_pos (by omega), this]; simp [parse]
    have pq : pparse q = some lq := by
      have := h.pq []
      rw [List.append_nil] at this
      rw [pparse, if_pos (by omega), this]; simp [parse]
    have mp : ∀ t, mtc p t = Mm lp (bytesOf t) := fun t => by simp [mtc, pp]
    have mq : ∀ t, mtc q t = Mm lq (bytesOf t) := fun t => by simp [mtc, pq]
    have m1 : mtc p s = true := by rw [mp, Mm_iff]; exact h.gp
    have m2 : mtc q s = true := by rw [mq, Mm_iff]; exact h.gq
    have m3 : mtc p (s ++ (⟨#[47, 122]⟩ : ByteArray)) = false := by
      rw [mp, Bool.eq_false_iff]
      intro hm
      have hc := ((Mm_iff _ _).1 hm).count h.kp
      rw [bytes_append, b1, List.count_append, ← h.gp.count h.kp] at hc
      have : List.count (47 : Int) [47, 122] = 1 := by decide
      omega
    have m4 : mtc p ((⟨#[122]⟩ : ByteArray) ++ s) = false := by
      rw [mp, Bool.eq_false_iff]
      intro hm
      have hg := (Mm_iff _ _).1 hm
      rw [bytes_append, b2] at hg
      by_cases h0 : l0.length = 0
      · rw [h.e0 h0] at hg
        exact absurd (row_nil_of hg) (by simp)
      · obtain ⟨l, hl⟩ := h.e1 h0
        obtain ⟨t, ht⟩ := hg.head 47 l hl
        rw [List.cons_append] at ht
        exact absurd (List.cons.inj ht).1 (by omega)
    have m5 : mtc (q ++ (⟨#[42, 42]⟩ : ByteArray)) (s ++ (⟨#[47, 122, 47, 121]⟩ : ByteArray)) = true := by
      have : pparse (q ++ (⟨#[42, 42]⟩ : ByteArray)) = some (lq ++ [⟨3, 0⟩]) := by
        rw [pparse, if_pos (by rw [size_append, z3]; omega), bytes_append, b3, h.pq]
        simp [parse]
      rw [mtc, this]
      simp only
      rw [Mm_iff, bytes_append]
      exact h.gq.all_more _
    refine Ev.step (fun k => ambrylaw24_GlobSegments.l0.eq_2 _ _ _ _ _ _ _) (ev_neg (by omega) ?_)
    refine ev_bind (match_ev p s (by omega)) (ev_pos m1 (ev_bind (match_ev q s (by omega)) (ev_pos m2 (ev_pos (by omega) ?_))))
    refine ev_bind (ev_eq (match_ev p _ (by rw [size_append]; omega)) m3) ?_
    have fin : Ev (fun k => if 1 + s.size ≤ 9223372036854775807 then ((glob_Match.f k p ((⟨#[122]⟩ : ByteArray) ++ s)).bind fun t243 => (if t243 = true then (some false) else (if q.size + 2 ≤ 9223372036854775807 then (if s.size + 4 ≤ 9223372036854775807 then ((glob_Match.f k (q ++ (⟨#[42, 42]⟩ : ByteArray)) (s ++ (⟨#[47, 122, 47, 121]⟩ : ByteArray))).bind fun t244 => (some t244)) else (none)) else (none)))) else none) true := by
      refine ev_pos (by omega) (ev_bind (ev_eq (match_ev p _ (by rw [size_append]; omega)) m4) (ev_neg (by simp) (ev_pos (by omega) (ev_pos (by omega) ?_))))
      exact ev_bind (match_ev _ _ (by rw [size_append]; omega)) (ev_ret m5)
    by_cases h0 : (l0.length : Int) = 0
    · refine ev_pos h0 (ev_pos ?_ fin)
      have : bytesOf p = [] := List.eq_nil_of_length_eq_zero (by rw [← size_bytes]; omega)
      rw [list_beq, this, bytes_append, b1]
      cases bytesOf s <;> rfl
    · exact ev_neg h0 (ev_pos rfl fin)
  | succ d ih =>
    intro i s p q lp lq hd hi h
    have hs1 := h.s1
    have hp1 := h.p1
    have hq1 := h.q1
    have hlt : i < l0.length := by omega
    have hx : 0 ≤ rd l0 (i : Int) ∧ rd l0 (i : Int) ≤ 255 := by
      have : rd l0 (i : Int) = l0[i] := by
        show l0.getD i 0 = l0[i]
        rw [List.getD_eq_getElem?_getD, List.getElem?_eq_getElem hlt]; rfl
      rw [this]
      exact hr _ (List.getElem_mem hlt)
    have hmod : 0 ≤ Int.tmod (rd l0 (i : Int)) 4 ∧ Int.tmod (rd l0 (i : Int)) 4 < 4 := by rw [Int.tmod_eq_emod_of_nonneg hx.1]; omega
    obtain ⟨hz, hc⟩ := segs_at _ hmod.1 hmod.2
    obtain ⟨lp', lq', hn⟩ := h.next _ hz hc (rdOf false l1 (i : Int))
    have step := ih (i + 1) _ _ _ lp' lq' (by omega) (by omega) hn
    have z1 : (⟨#[47]⟩ : ByteArray).size = 1 := rfl
    refine Ev.step (fun k => ambrylaw24_GlobSegments.l0.eq_2 _ _ _ _ _ _ _) (ev_pos (by omega) (ev_some (a := segs) rfl ?_))
    rw [wrap_succ (by omega)]
    have h4 : (segs.length : Int) = 4 := rfl
    refine ev_pos (by omega) (ev_pos hmod.1 (ev_pos (by omega) (ev_pos (by omega) (ev_pos (by rw [size_append, z1]; omega) (ev_pos (by omega) ?_)))))
    cases hb : rdOf false l1 (i : Int) with
    | true =>
      rw [hb, if_pos rfl, if_pos rfl] at step
      exact ev_pos rfl (ev_pos (by omega) (ev_pos (by omega) step))
    | false =>
      rw [hb, if_neg (by simp), if_neg (by simp)] at step
      exact ev_neg (by simp) (ev_pos (by omega) (ev_pos (by rw [size_append, z1]; omega) (ev_pos (by omega) (ev_pos (by rw [size_append, z1]; omega) step))))

theorem GlobSegments (l0 : List Int) (l1 : List Bool) (hr : ∀ x ∈ l0, 0 ≤ x ∧ x ≤ 255) : ∃ k, ambrylaw24_GlobSegments.f k l0 l1 = some true := by
  refine Ev.rounds (g := fun k => ambrylaw24_GlobSegments.f k l0 l1) ?_
  refine Ev.congr (fun k => ambrylaw24_GlobSegments.f.eq_1 k l0 l1) ?_
  refine ev_bind known_ev (ev_pos rfl ?_)
  by_cases ha : (l0.length : Int) > 12
  · exact ev_pos ha (Ev.step (fun k => ambrylaw24_GlobSegments.j0.eq_2 _ _ _ _) (ev_pos rfl (Ev.now _)))
  refine ev_neg ha (Ev.step (fun k => ambrylaw24_GlobSegments.j0.eq_2 _ _ _ _) ?_)
  by_cases hb : (l1.length : Int) < (l0.length : Int)
  · exact ev_pos (decide_eq_true hb) (Ev.now _)
  refine ev_neg (by simpa using hb) ?_
  exact segs_loop l0 l1 hr (by omega) (by omega) _ 0 _ _ _ [] [] rfl (by omega) So.zero
end Go.Proofs.Ytjmgnlkpkngjeaa.Pure
