/- What is known of the documents' examples. -/
import Derived.Test.YtefijfanjekchaaGx0
import Derived.Test.YtefijfanjekchaaGx2
import Derived.Test.YtefijfanjekchaaGx3
import Derived.Test.YtefijfanjekchaaVaryB
set_option linter.unusedVariables false
set_option linter.unusedSimpArgs false
namespace Go.Proofs.Ytefijfanjekchaa.Plain
open Go.RowKit Go.Proofs.Ytefijfanjekchaa.G Go.Proofs.YtefijfanjekchaaW.PrintWords
theorem known_names : Ev (fun k => vary_Names.f k 0 ⟨#[]⟩ ambrylaw15_known.fs []) (ambrylaw15_known.two, false) := by
  have hs : Lt 1 ambrylaw15_known.fs := ⟨by decide, by decide⟩
  refine ev_eq (names_vary hs (by omega) _ _ _) ?_
  rw [list_known _ (hs.small (by omega)) 60 [⟨#[76, 97, 110, 103]⟩, ⟨#[65, 99, 99, 101, 112, 116]⟩, ⟨#[108, 97, 110, 103]⟩] (by decide +kernel), namesP_kern _ (by decide +kernel)]
  decide +kernel
theorem known_ok : ∃ k, ambrylaw15_known.ok k := by
  have s1 : Lt 1 ambrylaw15_known.fs := ⟨by decide, by decide⟩
  have s2 : Small ambrylaw15_known.nm := ⟨by decide, by decide⟩
  have s3 : Small ambrylaw15_known.qs := ⟨by decide, by decide⟩
  have s0 : Small ([] : List S38) := ⟨by decide, by decide⟩
  obtain ⟨k1, h1⟩ := known_names
  obtain ⟨k2, h2⟩ := norm_vary ambrylaw15_known.nm ⟨#[65]⟩ s2
  obtain ⟨k3, h3⟩ := strings_eq ambrylaw15_known.two (by decide)
  obtain ⟨k4, h4⟩ := match_vary s1 (by omega) 0 ⟨#[]⟩ [] [] [] s0 s0
  obtain ⟨k5, h5⟩ := match_vary s1 (by omega) 0 ⟨#[]⟩ [] [] ambrylaw15_known.qs s0 s3
  obtain ⟨k0, h0⟩ := names_vary s1 (by omega) 0 ⟨#[]⟩ []
  have hn : namesP (listL ambrylaw15_known.fs varyN) = (ambrylaw15_known.two, false) := by
    have := (h0 (max k0 k1) (Nat.le_max_left _ _)).symm.trans (h1 (max k0 k1) (Nat.le_max_right _ _))
    exact Option.some.inj this
  rw [hn] at h4 h5
  refine ⟨k1 + k2 + k3 + k4 + k5, h1 _ (by omega), (h2 _ (by omega)).trans ?_, h3 _ (by omega), (h4 _ (by omega)).trans ?_, (h5 _ (by omega)).trans ?_⟩
  · decide +kernel
  · decide +kernel
  · decide +kernel
theorem known_ev : Ev (fun k => ambrylaw15_known.f k) true := by
  obtain ⟨k, hk⟩ := known_ok
  exact Ev.of ambrylaw15_known.mono (k := k) (if_pos hk)
end Go.Proofs.Ytefijfanjekchaa.Plain
