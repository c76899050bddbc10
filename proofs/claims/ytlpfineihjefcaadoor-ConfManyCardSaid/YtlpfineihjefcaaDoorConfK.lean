/- The chapter's example. -/
import Derived.Test.YtlpfineihjefcaaDoorConfL
import Derived.Test.YtlpfineihjefcaaDoorSto
set_option linter.unusedVariables false
set_option linter.unusedSimpArgs false
namespace Go.Proofs.YtlpfineihjefcaaDoor.Conf
open Go.RowKit Go.Proofs.YtlpfineihjefcaaDoor.G Go.Proofs.YtlpfineihjefcaaDoorW.PrintWords Go.Proofs.YtlpfineihjefcaaDoorW.PrintMore Go.Proofs.YtlpfineihjefcaaDoor.Plain Go.Proofs.YtlpfineihjefcaaDoor.Foot

theorem run_k1 : Run (linesOf k1) 0 cfD (some ⟨[⟨false, ⟨#[68, 69, 76, 69, 84, 69]⟩, ⟨#[42]⟩, ⟨#[42, 42]⟩⟩], false, ⟨#[99, 111, 110, 115, 111, 108, 101]⟩, 100⟩) 0 := by
  obtain ⟨k, hk⟩ := (parse_acl ⟨#[32, 100, 101, 110, 121, 32, 68, 69, 76, 69, 84, 69, 32, 42, 32, 42, 42]⟩ (by decide)).rounds
  rw [w3, r3] at hk
  rw [k1_lines]
  refine .good (t := ⟨#[35, 32, 120]⟩) (c' := cfD) (by decide +kernel) (good_note _ ⟨#[35]⟩ [⟨#[120]⟩] _ w1 (by decide) (by decide) (by decide)) ?_
  refine .good (t := ⟨#[114, 97, 110, 103, 101, 115, 32, 111, 102, 102]⟩) (by decide +kernel) (good_off _ _ w2) ?_
  refine .good (t := ⟨#[32, 100, 101, 110, 121, 32, 68, 69, 76, 69, 84, 69, 32, 42, 32, 42, 42]⟩) (by decide +kernel) (good_rule _ ⟨#[100, 101, 110, 121]⟩ [⟨#[68, 69, 76, 69, 84, 69]⟩, ⟨#[42]⟩, ⟨#[42, 42]⟩] _ k _ _ _ _ (by rw [words_acl _ (by decide), w3]) (by decide) (by decide) rfl hk (by decide)) ?_
  refine .good (t := ⟨#[]⟩) trim_0 (good_none _ _ (words_f _ [] (by decide) (by decide))) ?_
  exact .done _ _
theorem run_k2 : Run (linesOf k2) 0 cfD none 2 := by
  obtain ⟨k, hk⟩ := (parse_acl ⟨#[122, 122]⟩ (by decide)).rounds
  have hw : wordsOf ⟨#[122, 122]⟩ = [⟨#[122, 122]⟩] := words_is _ _ (by decide) (by decide)
  rw [hw] at hk
  rw [k2_lines]
  refine .good (t := ⟨#[108, 111, 103, 32, 53]⟩) (c' := { cfD with log := 5 }) (by decide +kernel) (fun p n w F h => (log_any _ ⟨#[53]⟩ _ 5 5 true (words_f _ [⟨#[108, 111, 103]⟩, ⟨#[53]⟩] (by decide) (by decide)) num5 p n w F h).mono fun e w' h => by rw [if_pos rfl] at h; exact h) ?_
  exact .bad (t := ⟨#[122, 122]⟩) (by decide +kernel) (bad_rule _ ⟨#[122, 122]⟩ [] _ k _ _ _ _ _ (by rw [words_acl _ (by decide), hw]) (by decide) (by decide) (by decide) (by decide) hk (.inl (by decide)) (by decide))
set_option maxHeartbeats 4000000 in
set_option maxRecDepth 100000 in
theorem known_calls (w : World) : Calls Tryd.prog 5 #[] w fun e w' => e = .returned (.bool true) ∧ Below w.heap.size w w' := by
  have h1 := fun w => parse_calls k1 _ _ w (by decide) run_k1 (by rw [k1_lines]; decide)
  have h2 := fun w => parse_calls k2 _ _ w (by decide) run_k2 (by rw [k2_lines]; decide)
  unfold k1 at h1
  unfold k2 at h2
  have H1 := Lib.hid h1
  have H2 := Lib.hid h2
  clear h1 h2
  go_enter Tryd.func5, Tryd.ntmps5
  go_wp2_with fail
  refine (H1.out _).mono ?_
  rintro e w1 ⟨hB, v, rfl, ok, hR⟩
  obtain ⟨A1, c1, rfl⟩ := Kd.R_slice hR
  have HO := Aside0.mk ((Sto.of_below hB).push (.cells #[.slice A1 1 c1, .bool false, .string ⟨#[99, 111, 110, 115, 111, 108, 101]⟩, .int .i64 100] 27))
  clear hB hR
  go_wp2_with fail
  obtain ⟨p, hp⟩ : ∃ p, w1.heap.size = p := ⟨_, rfl⟩
  rw [hp] at HO ⊢
  generalize w1.alloc (.cells #[.slice A1 1 c1, .bool false, .string ⟨#[99, 111, 110, 115, 111, 108, 101]⟩, .int .i64 100] 27) = w2 at HO ⊢
  clear hp
  refine (H2.out _).mono ?_
  rintro e w3 ⟨hB, rfl⟩
  have HO := Aside0.mk ((HO.out.step hB).push (.cells #[.slice none 0 0, .bool false, .string ⟨#[]⟩, .int .i64 0] 27))
  clear hB
  go_wp2_with fail
  obtain ⟨p2, hp⟩ : ∃ p, w3.heap.size = p := ⟨_, rfl⟩
  rw [hp] at HO ⊢
  generalize w3.alloc (.cells #[.slice none 0 0, .bool false, .string ⟨#[]⟩, .int .i64 0] 27) = w4 at HO ⊢
  clear hp
  refine (conf_Default.calls [] true ⟨#[99, 111, 110, 115, 111, 108, 101]⟩ 100 _ rfl).mono ?_
  rintro e w5 ⟨v, rfl, hR, hB⟩
  obtain ⟨A2, c2, hv⟩ := Kd.R_slice hR
  have hv : v = .slice A2 0 c2 := hv
  subst hv
  have HO := Aside0.mk ((HO.out.step hB).push (.cells #[.slice A2 0 c2, .bool true, .string ⟨#[99, 111, 110, 115, 111, 108, 101]⟩, .int .i64 100] 27))
  clear hB hR
  have hb := HO.out.get 0 rfl
  have c0 := blk_cell hb 0
  have c1' := blk_cell hb 1
  have c3 := blk_cell hb 3
  have hb2 := HO.out.get 2 rfl
  have d0 := blk_cell hb2 0
  have d1 := blk_cell hb2 1
  have d2 := blk_cell hb2 2
  clear hb hb2
  go_wp2
  go_ret
  exact ⟨rfl, HO.out.below⟩
end Go.Proofs.YtlpfineihjefcaaDoor.Conf
