/- A text's own pattern matches this text alone; '**' matches all, also behind or ahead of a text's own pattern. No condition. -/
import Derived.Test.YtjmgnlkpkngjeaaGx5
import Derived.Test.YtjmgnlkpkngjeaaGlobKnown
set_option linter.unusedVariables false
set_option linter.unusedSimpArgs false
namespace Go.Proofs.Ytjmgnlkpkngjeaa.Pure
open Go.RowKit Go.Proofs.Ytjmgnlkpkngjeaa.G Go.Proofs.YtjmgnlkpkngjeaaW.PrintWords Go.Proofs.YtjmgnlkpkngjeaaW.PrintLast Go.Proofs.Ytjmgnlkpkngjeaa.Plain

theorem mtc_of {t s : ByteArray} {l : List S40} (h : pparse t = some l) : mtc t s = Mm l (bytesOf s) := by simp [mtc, h]
theorem GlobSelf : ambrylaw24_GlobSelf.Pure := by
  intro a b _ _
  refine Ev.rounds (g := fun k => ambrylaw24_GlobSelf.f k a b) ?_
  refine Ev.congr (fun k => ambrylaw24_GlobSelf.f.eq_1 k a b) ?_
  refine ev_bind known_ev (ev_pos rfl ?_)
  by_cases ha : (a.size : Int) > 90
  · exact ev_pos ha (Ev.step (fun k => ambrylaw24_GlobSelf.j0.eq_2 _ _ _ _) (ev_pos rfl (Ev.now _)))
  refine ev_neg ha (Ev.step (fun k => ambrylaw24_GlobSelf.j0.eq_2 _ _ _ _) ?_)
  by_cases hb : (b.size : Int) > 300
  · exact ev_pos (decide_eq_true hb) (Ev.now _)
  refine ev_neg (by simpa using hb) ?_
  have hL := literal_ev a (by omega)
  have hB := literal_bytes a
  generalize strOfNums (lit (bytesOf a)) = t at hL hB
  have hts : t.size ≤ 180 := by
    have := lit_length (bytesOf a)
    rw [size_bytes, hB]
    rw [size_bytes] at ha
    omega
  have s2 : (⟨#[42, 42]⟩ : ByteArray).size = 2 := rfl
  have b2 : bytesOf (⟨#[42, 42]⟩ : ByteArray) = [42, 42] := rfl
  have e1 : ∀ u, mtc t u = (bytesOf u == bytesOf a) := fun u => by
    rw [mtc_of (pparse_lit a (by omega) [] t (by rw [hB, List.append_nil]) (by simp))]
    simp [parse, Mm_own]
  have e2 : mtc (⟨#[42, 42]⟩ : ByteArray) b = true := by
    rw [mtc_of (l := [⟨3, 0⟩]) (by rw [pparse, if_pos (by rw [s2]; omega), b2, parse_all]; rfl), Mm_iff]
    simpa using Lg.nil.all_more (bytesOf b)
  have e3 : mtc (t ++ (⟨#[42, 42]⟩ : ByteArray)) (a ++ b) = true := by
    rw [mtc_of (pparse_lit a (by omega) [42, 42] _ (by rw [bytes_append, hB, b2]) (by simp)) (l := (bytesOf a).map own ++ [⟨3, 0⟩]), Mm_iff, bytes_append]
    have : Lg ((bytesOf a).map own) (bytesOf a) := by simpa using Lg.nil.own_more (bytesOf a)
    exact this.all_more _
  have e4 : mtc ((⟨#[42, 42]⟩ : ByteArray) ++ t) (b ++ a) = true := by
    have hp : pparse ((⟨#[42, 42]⟩ : ByteArray) ++ t) = some (⟨3, 0⟩ :: (bytesOf a).map own) := by
      have h2 : ((⟨#[42, 42]⟩ : ByteArray) ++ t).size ≤ 200 := by rw [size_append, s2]; omega
      rw [pparse, if_pos h2, bytes_append, b2, hB]
      have := parse_lit (bytesOf a) []
      rw [List.append_nil] at this
      rw [List.cons_append, List.cons_append, List.nil_append, parse_all, this]
      simp [parse]
    rw [mtc_of hp, Mm_iff, bytes_append]
    have : Lg [⟨3, 0⟩] (bytesOf b) := by simpa using Lg.nil.all_more (bytesOf b)
    simpa using this.own_more (bytesOf a)
  refine ev_bind hL (ev_bind (match_ev t a (by omega)) ?_)
  refine ev_pos (by rw [e1]; simp) (ev_bind hL (ev_bind (match_ev t b (by omega)) ?_))
  refine ev_pos (by rw [e1, list_beq, beq_iff_eq, Bool.eq_iff_iff, beq_iff_eq, beq_iff_eq]; exact eq_comm) ?_
  refine ev_bind (match_ev _ b (by omega)) (ev_pos e2 ?_)
  refine ev_bind hL (ev_pos (by omega) (ev_pos (by omega) ?_))
  refine ev_bind (match_ev _ _ (by rw [size_append]; omega)) (ev_pos e3 ?_)
  refine ev_bind hL (ev_pos (by omega) (ev_pos (by omega) ?_))
  exact ev_bind (match_ev _ _ (by rw [size_append]; omega)) (ev_ret e4)
end Go.Proofs.Ytjmgnlkpkngjeaa.Pure
