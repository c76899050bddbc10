/- The contract of CodeNums: each number has just one text, as short as may be; no other bytes are read as it. -/
import Derived.Test.YthbapljhhglamaaCodeK
import Derived.Test.YthbapljhhglamaaFoot2
import Derived.Test.YthbapljhhglamaaWZeros
import Derived.OpenShut
import Derived.Deep.DeepMust
set_option linter.unusedVariables false
set_option linter.unusedSimpArgs false
namespace Go.Proofs.Ythbapljhhglamaa.Walk
open Go.RowKit Go.Proofs.Ythbapljhhglamaa.G Go.Proofs.YthbapljhhglamaaW.PrintWords Go.Proofs.YthbapljhhglamaaW.PrintMore Go.Proofs.Ythbapljhhglamaa.Foot Go.Proofs.Ythbapljhhglamaa.CodeL Go.Proofs.Ythbapljhhglamaa.Code
theorem spoilt_set (n : Nat) (L : List Int) (h : enc n = L) : ∃ z : Int, L.getD (L.length - 1) 0 = z ∧ 0 ≤ z ∧ z < 128 ∧ L.set (L.length - 1) (z + 128) = spoilt n := by
  obtain ⟨l, z, hz, h1, h2⟩ := spoilt_eq n
  have e : L = l ++ [(z : Int)] := by rw [← h, h1]
  refine ⟨(z : Int), ?_, by omega, by omega, ?_⟩
  · rw [e]; simp
  · rw [e, h2]
    simp
theorem or_top (z : Int) (h0 : 0 ≤ z) (h1 : z < 128) : bits .or .u8 z 128 = z + 128 := by
  obtain ⟨n, rfl⟩ := Int.eq_ofNat_of_zero_le h0
  have := byte_more n
  rw [show (n : Int) % 256 = (n : Int) by omega] at this
  rw [this]
  omega
theorem numS_bad {xs : List Int} (h : numD xs = none) : numS (some xs) = (0, none) := by unfold numS; simp only [h]
theorem bad_num (n m : Nat) : numS (some (spoilt n ++ List.replicate (1 + (m : Int)).toNat 0)) = (0, none) := by
  have e : (1 + (m : Int)).toNat = m + 1 := by omega
  refine numS_bad ?_
  rw [e, List.replicate_succ]
  exact numGo_spoilt n 0 0 _
theorem bad_byte (n m : Nat) : Bytes8 (spoilt n ++ List.replicate (1 + (m : Int)).toNat 0) := by
  obtain ⟨l, z, hz, h1, h2⟩ := spoilt_eq n
  intro x hx
  rcases List.mem_append.1 hx with hx | hx
  · rw [h2] at hx
    rcases List.mem_append.1 hx with hx | hx
    · exact enc_byte n x (by rw [h1]; exact List.mem_append_left _ hx)
    · obtain rfl := List.mem_singleton.1 hx
      omega
  · rw [(List.mem_replicate.1 hx).2]
    decide
set_option maxHeartbeats 4000000 in
set_option maxRecDepth 100000 in
theorem CodeNums (W : World) (a0 : Int) (a1 : Int) (w0 : (Lit.int .u64 a0).wf = true) (w1 : (Lit.int .u8 a1).wf = true) :
    Calls Try.prog 4 #[.int .u64 a0, .int .u8 a1] W fun e w' => e = .returned (.bool true) ∧ Below W.heap.size W w' := by
  have hb0 := bounds_u64 w0
  have hb1 := bounds_u8 w1
  obtain ⟨n, rfl⟩ := Int.eq_ofNat_of_zero_le hb0.1
  have hn : n < 18446744073709551616 := by omega
  clear w0 w1
  obtain ⟨m, hm, hmm⟩ : ∃ m : Nat, m ≤ 5 ∧ a1.tmod 5 = (m : Int) := ⟨(a1 % 5).toNat, by omega, by rw [Int.tmod_eq_emod_of_nonneg hb1.1]; omega⟩
  go_enter Try.func4, Try.ntmps4
  go_wp2_with fail
  refine (known_calls _).mono ?_
  rintro e w1 ⟨rfl, hB⟩
  have HO := Aside0.mk (Own.of_below hB)
  clear hB
  go_wp2_with fail
  refine (NewWriter_own HO.out).mono ?_
  rintro e w2 ⟨rfl, ho⟩
  have HO := Aside0.mk ho
  clear ho
  go_wp2_with fail
  refine (wnum_own [] n HO.out hn (by decide)).mono ?_
  rintro e w3 ⟨rfl, ho⟩
  have hl := enc_len10 (n := n) (by omega)
  have ht := enc_top n
  obtain ⟨L, hL⟩ : ∃ L, enc n = L := ⟨_, rfl⟩
  rw [List.nil_append] at ho
  have H8 := Lib.hid (show Bytes8 (enc n) from enc_byte n)
  have HS := Lib.hid (spoilt_set n L hL)
  have HN := Lib.hid (numS_enc (n := n) (by omega) [])
  rw [List.append_nil] at HN
  rw [hL] at ho hl ht H8 HN
  have HO := Aside0.mk ho
  have HT := Lib.hid ht
  have hl0 : ((L.length : Int) == 0) = false := beq_eq_false_iff_ne.2 (by omega)
  clear ho hL ht
  go_wp2_with fail
  refine (wbytes_own L HO.out (by omega)).mono ?_
  rintro e w4 ⟨A4, c4, rfl, hl4, hC4, ho⟩
  have HO := Aside0.mk ho
  have HC4 := Aside0.mk hC4
  clear ho hC4
  obtain ⟨z, hz, hz0, hz1, hzs⟩ := HS.out
  have HZ := Lib.hid hz
  have HZS := Lib.hid hzs
  have hor := or_top z hz0 hz1
  have hsl : (spoilt n).length = L.length := by rw [← hzs, List.length_set]
  have HSL := Lib.hid hsl
  obtain ⟨q7, hq7⟩ : ∃ q, spoilt n ++ List.replicate (1 + (m : Int)).toNat 0 = q := ⟨_, rfl⟩
  have hq7l : q7.length = L.length + (1 + (m : Int)).toNat := by rw [← hq7, List.length_append, hsl, List.length_replicate]
  have hq7a : 0 < q7.length := by omega
  have hq7b : q7.length ≤ 100 := by omega
  have HN7 := Lib.hid (show numS (some q7) = (0, none) by rw [← hq7]; exact bad_num n m)
  have H87 := Lib.hid (show Bytes8 q7 by rw [← hq7]; exact bad_byte n m)
  have HQ7 := Lib.hid hq7
  clear hz hzs HS hsl hq7 hq7l
  go_wp2_with (first
    | ((with_reducible refine gate_builtin (b := .append) (xs := #[.const (.slice none 0 0), .tmp 27]) rfl ?_); at_builtin; go_must (refine Kd.R_append_row (Value.int .u8) 0 (h1 := fun _ => rfl) (w0 := w4) w4.heap.size rfl (.const (.slice none 0 0)) (.tmp 27) 22 5 (.int .u8 0) 1 rfl Try.underlying22 info5 rfl (by decide) (.slice none 0 0) [] L A4 L.length c4 (fun _ => True) rfl rfl (fun _ _ => trivial) (Kd.R_nil _ _ _ _ _) HC4.out (Below.refl _ _) (Nat.le_refl _) ?cL ?_); (case cL => simp; omega); intro v5 w5 hR5 hB5 hg5 _; have ho5 := HO.out.row hR5 hB5; rw [List.nil_append] at ho5; obtain ⟨g, c5, rfl, hc5⟩ := ho5.form (by omega); obtain ⟨hx5, hz5⟩ := ho5.at_ (L.length - 1) (by omega); have ho6 := ho5.put (L.length - 1) (z + 128); rw [HZS.out] at ho6; obtain ⟨ok6, hR6, hfr6, hbk6⟩ := ho6.open_row; rw [HZ.out] at hx5; have HR6 := Lib.hid hR6; have HF6 := Lib.hid hfr6; have HBK := Lib.hid hbk6; clear ho5 ho6 hR6 hfr6 hbk6; have HC45 := Aside0.mk (Kd.C_below HC4.out hB5); clear hR5 hB5 hg5)
    | ((with_reducible refine gate_builtin (b := .append) (xs := #[.tmp 37, .tmp 41]) rfl ?_); at_builtin; go_must (refine Kd.R_append_zeros (Kd.int .u8) (w0 := _) 0 rfl (.tmp 37) (.tmp 41) 22 3 5 (.int .u8 0) 1 rfl Try.underlying22 Try.underlying3 info5 rfl (by decide) (by decide) (.slice (some ⟨g, 0, none⟩) L.length c5) (spoilt n) 0 (1 + (m : Int)) ok6 rfl rfl rfl HF6.out HR6.out (by omega) (Below.refl _ _) (Nat.zero_le _) ?cZ ?_); (case cZ => rw [HSL.out]; omega); intro v7 w7 hR7 hB7 hg7 _; have ho7 := HBK.out _ _ _ hR7 hg7; rw [HQ7.out] at ho7; obtain ⟨g7, c7, rfl, hc7⟩ := ho7.form (by omega); have HO7 := Aside0.mk ho7; clear ho7 hR7 hB7 hg7)
    | fail)
  obtain ⟨A7, c8, he7, _, hC7⟩ := HO7.out.reads
  injection he7 with he1 he2 he3
  subst he1 he3
  have HC7 := Lib.hid hC7
  clear hC7 he2
  refine (NewReader_own (some ⟨g7, 0, none⟩) c7 q7 HO7.out HC7.out H87.out (by omega)).mono ?_
  rintro e w8 ⟨q8, rfl, hB8, ho⟩
  have HO := Aside0.mk ho
  clear ho
  go_wp2_with fail
  refine (Num_own HO.out HN7.out).mono ?_
  rintro e w9 ⟨rfl, ho⟩
  have HO := Aside0.mk ho
  clear ho
  go_wp2_with fail
  obtain ⟨A9, c9, he9, _, hC9⟩ := HO.out.rest.rest.reads
  injection he9 with he1 he2 he3
  subst he1 he3
  have HC9 := Lib.hid hC9
  clear hC9 he2
  refine (NewReader_own A4 c4 L HO.out HC9.out H8.out (by omega)).mono ?_
  rintro e w10 ⟨q10, rfl, hB10, ho⟩
  have HO := Aside0.mk ho
  clear ho
  go_wp2_with fail
  refine (Done_own HO.out.rest).mono ?_
  rintro e w11 ⟨rfl, rfl⟩
  have hd1 : doneS none = 20 := rfl
  go_wp2_with fail
  refine (Num_own HO.out HN.out).mono ?_
  rintro e w12 ⟨rfl, ho⟩
  have HO := Aside0.mk ho
  clear ho
  have hdn : ((n : Int) == (n : Int)) = true := beq_self_eq_true _
  go_wp2_with fail
  refine (Done_own HO.out).mono ?_
  rintro e w13 ⟨rfl, rfl⟩
  have hd0 : doneS (some []) = 0 := rfl
  have he : (n : Int) / 2 ^ (7 * (L.length - 1)) = ((n / 2 ^ (7 * (L.length - 1)) : Nat) : Int) := by simp
  have hlt : (n : Int) / 2 ^ (7 * (L.length - 1)) < 128 := by rw [he]; exact Int.ofNat_lt.2 HT.out.1
  have hge : 0 ≤ (n : Int) / 2 ^ (7 * (L.length - 1)) := by rw [he]; exact Int.natCast_nonneg _
  by_cases h1 : L.length = 1
  · have h11 : ((L.length : Int) == 1) = true := beq_iff_eq.2 (by omega)
    clear h1 he
    go_wp2
    go_ret
    exact ⟨rfl, HO.out.below⟩
  · have h11 : ((L.length : Int) == 1) = false := beq_eq_false_iff_ne.2 (by omega)
    have hgt : 0 < (n : Int) / 2 ^ (7 * (L.length - 1)) := by rw [he]; exact Int.ofNat_lt.2 (HT.out.2.resolve_left h1)
    clear h1 he
    go_wp2
    go_ret
    exact ⟨rfl, HO.out.below⟩
end Go.Proofs.Ythbapljhhglamaa.Walk
