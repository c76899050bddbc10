/- The examples that every statement on patterns asks first. -/
import Derived.Test.YtjmgnlkpkngjeaaGlobRuns
set_option linter.unusedVariables false
set_option linter.unusedSimpArgs false
namespace Go.Proofs.Ytjmgnlkpkngjeaa.Plain
open Go.RowKit Go.Proofs.Ytjmgnlkpkngjeaa.G Go.Proofs.YtjmgnlkpkngjeaaW.PrintWords

theorem known_ev : Ev (fun k => ambrylaw24_known.f k) true := by
  refine Ev.congr (fun k => ambrylaw24_known.f.eq_1 k) ?_
  refine ev_bind (ev_eq (match_ev _ _ (by decide)) (b := true) (by decide +kernel)) (ev_pos rfl ?_)
  refine ev_bind (ev_eq (match_ev _ _ (by decide)) (b := false) (by decide +kernel)) (ev_neg (by simp) ?_)
  refine ev_bind (ev_eq (match_ev _ _ (by decide)) (b := true) (by decide +kernel)) (ev_pos rfl ?_)
  refine ev_bind (ev_eq (match_ev _ _ (by decide)) (b := false) (by decide +kernel)) (ev_neg (by simp) ?_)
  refine ev_bind (ev_eq (valid_ev _) (b := 120) (by decide +kernel)) (ev_pos rfl ?_)
  refine ev_bind (literal_ev _ (by decide)) (ev_ret ?_)
  have : (([97, 92, 42] : List UInt8)) = (⟨#[97, 92, 42]⟩ : ByteArray).toList := by rw [ByteArray.toList_eq]
  rw [this, list_beq, literal_bytes]
  decide +kernel
theorem pparse_lit (a : ByteArray) (h : a.size ≤ 90) (r : List Int) (t : ByteArray) (ht : bytesOf t = lit (bytesOf a) ++ r) (hr : r.length ≤ 2) : pparse t = (parse r).map ((bytesOf a).map own ++ ·) := by
  have h1 := lit_length (bytesOf a)
  have h2 : t.size ≤ 200 := by rw [size_bytes, ht, List.length_append]; rw [size_bytes] at h; omega
  rw [pparse, if_pos h2, ht, parse_lit]
end Go.Proofs.Ytjmgnlkpkngjeaa.Plain
