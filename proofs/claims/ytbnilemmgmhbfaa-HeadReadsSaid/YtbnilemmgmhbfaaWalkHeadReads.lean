/- The contract of HeadReads: any lines are read as just the document's fields, or refused for its reason. -/
import Derived.Test.YtbnilemmgmhbfaaHeadLists
import Derived.Test.YtbnilemmgmhbfaaHx4
import Derived.Test.YtbnilemmgmhbfaaHx6
import Derived.OpenShut
import Derived.Outline
set_option linter.unusedVariables false
set_option linter.unusedSimpArgs false
namespace Go.Proofs.Ytbnilemmgmhbfaa.Walk
open Go.RowKit Go.Proofs.Ytbnilemmgmhbfaa.H Go.Proofs.YtbnilemmgmhbfaaW.PrintWords Go.Proofs.YtbnilemmgmhbfaaW.PrintLast Go.Proofs.YtbnilemmgmhbfaaW.PrintMore Go.Proofs.Ytbnilemmgmhbfaa.Plain
theorem lines_cases (l : List ByteArray) : (Ev (fun k => ambrylaw10_lines.f k l) true ∧ l.length ≤ 120 ∧ ∀ x ∈ l, x.size ≤ 300) ∨ Ev (fun k => ambrylaw10_lines.f k l) false := by
  by_cases h : (l.length : Int) > 120
  · exact .inr (Ev.congr (fun k => ambrylaw10_lines.f.eq_1 k l) (ev_pos h (Ev.now _)))
  have key : ∀ j, j ≤ l.length → (Ev (fun k => ambrylaw10_lines.l0 k l (j : Int)) true ∧ ∀ x ∈ l.drop j, x.size ≤ 300) ∨ Ev (fun k => ambrylaw10_lines.l0 k l (j : Int)) false := by
    refine up _ fun j hj ih => ?_
    by_cases hlt : j < l.length
    · rw [drop_cons l ByteArray.empty hlt]
      by_cases h1 : (((l.getD j ByteArray.empty)).size : Int) > 300
      · refine .inr (Ev.step (fun k => ambrylaw10_lines.l0.eq_2 l (j : Int) k) (ev_pos (by omega) (ev_pos (by omega) ?_)))
        rw [rdOf_nat]; exact ev_pos h1 (Ev.now _)
      have hstep : ∀ r, Ev (fun k => ambrylaw10_lines.l0 k l ((j + 1 : Nat) : Int)) r → Ev (fun k => ambrylaw10_lines.l0 k l (j : Int)) r := fun r hr => by
        refine Ev.step (fun k => ambrylaw10_lines.l0.eq_2 l (j : Int) k) (ev_pos (by omega) (ev_pos (by omega) ?_))
        rw [rdOf_nat, wrap_succ (by omega)]; exact ev_neg h1 hr
      rcases ih hlt with ⟨e, ha⟩ | e
      · refine .inl ⟨hstep _ e, fun x hx => ?_⟩
        rcases List.mem_cons.1 hx with rfl | hx
        · omega
        · exact ha x hx
      · exact .inr (hstep _ e)
    · refine .inl ⟨Ev.step (fun k => ambrylaw10_lines.l0.eq_2 l (j : Int) k) (ev_neg (by omega) (Ev.now _)), fun x hx => ?_⟩
      rw [List.drop_of_length_le (by omega)] at hx; cases hx
  rcases key 0 (Nat.zero_le _) with ⟨e, ha⟩ | e
  · exact .inl ⟨Ev.congr (fun k => ambrylaw10_lines.f.eq_1 k l) (ev_neg h e), by omega, ha⟩
  · exact .inr (Ev.congr (fun k => ambrylaw10_lines.f.eq_1 k l) (ev_neg h e))
theorem parseA_len : ∀ (l : List ByteArray) (acc : List S39), (parseA acc l).1.length ≤ acc.length + l.length := by
  intro l
  induction l with
  | nil => intro acc; exact Nat.le_refl _
  | cons s l ih =>
    intro acc
    rw [parseA]
    split
    · exact Nat.zero_le _
    · rename_i x f heq
      have := ih (acc ++ [f])
      rw [List.length_append, List.length_singleton] at this
      rw [List.length_cons]; exact Nat.le_trans this (by omega)
theorem parseL_len (l : List ByteArray) : (parseL l).1.length ≤ 4000 := by
  unfold parseL
  split
  · exact Nat.zero_le _
  · have := parseA_len l []
    simp only [List.length_nil] at this
    omega
theorem infoS : (Try.prog.info? 9).map (fun i => (i.zero, i.size, i.bytes)) = some (some (.string ByteArray.empty), 1, 16) := by kernel_rfl
theorem C_one (w : World) (x : ByteArray) : Kd.C Kd.string (w.alloc (.cells #[.string x] 9)) (some ⟨w.heap.size, 0, none⟩) 1 [x] := by
  refine ⟨rfl, by decide, fun _ => ⟨_, rfl, fun j p hj => ?_⟩⟩
  have hj0 : j = 0 := by
    have := (List.getElem?_eq_some_iff.1 hj).1
    simp only [List.length_cons, List.length_nil] at this
    omega
  subst hj0
  injection hj with hj
  subst hj
  refine ⟨[.string x], rfl, rfl, fun i u hu => ?_⟩
  exact cell_one_new w (.string x) 9 (0 * 1 + i) u (by rw [Nat.zero_mul, Nat.zero_add]; exact hu)
def more (l : List ByteArray) (j : Nat) : List ByteArray := l ++ List.replicate j (⟨#[97, 58, 32, 98]⟩ : ByteArray)
theorem more_next (l : List ByteArray) (j : Nat) : more l (j + 1) = more l j ++ [(⟨#[97, 58, 32, 98]⟩ : ByteArray)] := by
  unfold more
  rw [List.replicate_succ', List.append_assoc]
theorem more_len (l : List ByteArray) (j : Nat) : (more l j).length = l.length + j := by
  unfold more
  rw [List.length_append, List.length_replicate]
set_option maxHeartbeats 1000000 in
theorem HeadReads (W : World) (A0 : Option Addr) (c0 : Nat) (l0 : List ByteArray) (a1 : Int) (hr0 : Kd.C Kd.string W A0 l0.length l0) (hc0 : l0.length ≤ c0) (g0 : ∀ x ∈ l0, x.size ≤ 9223372036854775807) (w1 : (Lit.int .u8 a1).wf = true) :
    Calls Try.prog 3 #[.slice A0 l0.length c0, .int .u8 a1] W fun e w' => e = .returned (.bool true) ∧ Below W.heap.size W w' := by
  have hb := bounds_u8 w1
  obtain ⟨kk, hkk⟩ := known_ev.rounds
  have HK := Aside0.mk hkk
  have HR := Aside0.mk hr0
  clear hkk hr0 g0
  rcases lines_cases l0 with ⟨e, h120, h300⟩ | e
  case inr =>
    obtain ⟨kl, hkl⟩ := e.rounds
    have HL := Aside0.mk hkl
    clear hkl e
    go_enter Try.func3, Try.ntmps3
    go_wp2_with fail
    refine (ambrylaw10_known.calls kk true _ HK.out).mono ?_
    rintro e w1 ⟨rfl, hB⟩
    have HB := Aside0.mk hB
    clear hB
    go_wp2_with fail
    refine (ambrylaw10_lines.calls kl A0 c0 l0 false _ (Kd.C_below HR.out HB.out) hc0 HL.out).mono ?_
    rintro e w2 ⟨rfl, hD⟩
    have HB2 := Aside0.mk (Leaf.d_below HB.out hD)
    clear hD
    go_wp2
    go_ret
    exact ⟨rfl, HB2.out⟩
  obtain ⟨kl, hkl⟩ := e.rounds
  have HL := Aside0.mk hkl
  clear hkl e
  obtain ⟨q, hq7, hq⟩ : ∃ q : Nat, q ≤ 7 ∧ Int.tmod a1 8 = (q : Int) := ⟨(a1 % 8).toNat, by omega, by rw [Int.tmod_eq_emod_of_nonneg hb.1]; omega⟩
  have hX : ∀ s ∈ more l0 (q * 20), s.size ≤ 140737488355328 := fun s hs => by
    rcases List.mem_append.1 hs with hs | hs
    · have := h300 s hs; omega
    · rw [(List.mem_replicate.1 hs).2]; decide
  have hXl : (more l0 (q * 20)).length ≤ 300 := by rw [more_len]; omega
  obtain ⟨⟨r1, r2⟩, hr⟩ : ∃ r, parseL (more l0 (q * 20)) = r := ⟨_, rfl⟩
  have hrl : r1.length ≤ 4000 := by
    have := parseL_len (more l0 (q * 20))
    rw [hr] at this; exact this
  obtain ⟨k1, hk1⟩ := (parse_head _ hX).rounds
  obtain ⟨k2, hk2⟩ := (parse_ref _ hX).rounds
  obtain ⟨k3, hk3⟩ := (fields_eq r1 hrl).rounds
  rw [hr] at hk1 hk2
  have H1 := Aside0.mk hk1
  have H2 := Aside0.mk hk2
  have H3 := Aside0.mk hk3
  clear hk1 hk2 hk3 hr hX h300
  go_enter Try.func3, Try.ntmps3
  go_wp2_with fail
  refine (ambrylaw10_known.calls kk true _ HK.out).mono ?_
  rintro e w1 ⟨rfl, hB⟩
  have HB := Aside0.mk hB
  clear hB
  go_wp2_with fail
  refine (ambrylaw10_lines.calls kl A0 c0 l0 true _ (Kd.C_below HR.out HB.out) hc0 HL.out).mono ?_
  rintro e w2 ⟨rfl, hD⟩
  have HB2 := Aside0.mk (Leaf.d_below HB.out hD)
  clear hD HB
  go_wp2_with (at_builtin; refine Kd.R_append_row Value.string ByteArray.empty (h1 := fun _ => rfl) (w0 := W) W.heap.size rfl (.const (.slice none 0 0)) (.tmp 16) 22 9 (.string ByteArray.empty) 16 rfl Try.underlying22 infoS rfl (by decide) (.slice none 0 0) [] l0 A0 l0.length c0 (fun _ => True) rfl rfl (fun _ _ => trivial) (Kd.R_nil _ _ _ _ _) (Kd.C_below HR.out HB2.out) HB2.out HB2.out.size (by simp only [List.length_nil]; omega) ?_; intro v3 w3 hR3 hB3 _ _)
  have HR3 := Aside0.mk hR3
  have HB3 := Aside0.mk hB3
  clear hR3 hB3 HB2
  go_wp2
  go_loopw [5, 6] (fun v5 v6 wr => ∃ j : Nat, j ≤ q * 20 ∧ v6 = .int .i64 j ∧ Aside0 (Kd.R Kd.string 9 wr W.heap.size (fun _ => True) v5 (more l0 j)) ∧ Aside0 (Below W.heap.size W wr)) (fun _ v6 _ => q * 20 - (intOf v6).toNat)
  case atStart => exact ⟨0, Nat.zero_le _, rfl, ⟨by unfold more; rw [List.replicate_zero, List.append_nil]; exact HR3.out⟩, HB3⟩
  case round =>
    clear HR3 HB3
    obtain ⟨j, hj, rfl, HX, HBr⟩ := hrel
    have HML := Lib.hid (more_len l0 j)
    obtain ⟨A, c, rfl, hlc, hC⟩ := Kd.R_reads HX.out
    have HC := Aside0.mk hC
    clear hC
    by_cases hlt : j < q * 20
    · go_wp2_with (at_builtin; refine Kd.R_append_row Value.string ByteArray.empty (h1 := fun _ => rfl) (w0 := W) W.heap.size rfl (.tmp 26) (.tmp 27) 22 9 (.string ByteArray.empty) 16 rfl Try.underlying22 infoS rfl (by decide) _ (more l0 j) [(⟨#[97, 58, 32, 98]⟩ : ByteArray)] (some ⟨wr.heap.size, 0, none⟩) 1 1 (fun _ => True) rfl rfl (fun _ _ => trivial) (Kd.R_alloc HX.out _) (C_one _ _) (below_alloc HBr.out _) (by have := HBr.out.size; simp; omega) (by rw [HML.out]; omega) ?_; intro v4 w4 hR4 hB4 _ _)
      have HR4 := Aside0.mk hR4
      have HB4 := Aside0.mk hB4
      clear hR4 hB4
      go_wp2
      go_roundw
      case rel => exact ⟨j + 1, by omega, by go_num, ⟨by rw [more_next]; exact HR4.out⟩, HB4⟩
      case measure => simp [intOf]; omega
    · have hjq : j = q * 20 := by omega
      subst hjq
      go_wp2_with fail
      refine (head_Parse.calls k1 A c (more l0 (q * 20)) r1 r2 _ HC.out hlc H1.out).mono ?_
      rintro e w5 ⟨v5, rfl, hR5, hB5⟩
      have HR5 := Aside0.mk hR5
      have HB5 := Aside0.mk (HBr.out.trans (Below.mono hB5 HBr.out.size))
      have HC5 := Aside0.mk (Kd.C_below HC.out hB5)
      clear hR5 hB5
      go_wp2_with fail
      refine (ambryref10_Parse.calls k2 A c (more l0 (q * 20)) r1 r2 _ HC5.out hlc H2.out).mono ?_
      rintro e w6 ⟨v6, rfl, hR6, hB6⟩
      obtain ⟨A5, c5, rfl, hl5, hC5⟩ := Kd.R_reads HR5.out
      obtain ⟨A6, c6, rfl, hl6, hC6⟩ := Kd.R_reads hR6
      have HC5 := Aside0.mk (Kd.C_below hC5 hB6)
      have HC6 := Aside0.mk hC6
      have HB6 := Aside0.mk (HB5.out.trans (Below.mono hB6 HB5.out.size))
      clear hR6 hB6 hC5 hC6 HR5
      go_wp2_with fail
      refine (ambryhelp_Fields.calls k3 A5 c5 r1 A6 c6 r1 true _ HC5.out hl5 HC6.out hl6 H3.out).mono ?_
      rintro e w7 ⟨rfl, hD⟩
      have HB7 := Aside0.mk (Leaf.d_below HB6.out hD)
      clear hD
      go_wp2
      go_ret
      exact ⟨rfl, HB7.out⟩
end Go.Proofs.Ytbnilemmgmhbfaa.Walk
