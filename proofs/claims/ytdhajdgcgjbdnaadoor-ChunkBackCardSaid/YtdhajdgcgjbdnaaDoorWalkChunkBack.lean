/- Any body, in chunks of any size, is written as the document says and read back, whatever stands behind. -/
import Derived.Test.YtdhajdgcgjbdnaaDoorChunkU
import Derived.Test.YtdhajdgcgjbdnaaDoorChunkK
import Derived.Test.YtdhajdgcgjbdnaaDoorGx2
import Derived.OpenShut
set_option linter.unusedVariables false
set_option linter.unusedSimpArgs false
namespace Go.Proofs.YtdhajdgcgjbdnaaDoor.Walk
open Go.RowKit Go.Proofs.YtdhajdgcgjbdnaaDoor.G Go.Proofs.YtdhajdgcgjbdnaaDoorW.PrintWords Go.Proofs.YtdhajdgcgjbdnaaDoorW.PrintMore Go.Proofs.YtdhajdgcgjbdnaaDoor.Foot Go.Proofs.YtdhajdgcgjbdnaaDoor.Plain Go.Proofs.YtdhajdgcgjbdnaaDoor.Chunk Go.Proofs.YtdhajdgcgjbdnaaDoor.Marks

theorem same_bytesB (l : List Int) : ambryhelp_Bytes.f l l = some true := by
  unfold ambryhelp_Bytes.f
  simp
theorem tail_back (o r : List Int) (f : Nat) : bodyG textL fieldL (f + 1) (48 :: 13 :: 10 :: 13 :: 10 :: r) o = .ok (o, r) := by rfl
theorem flat_cksB (L : List (List Int)) : (L.flatMap ck).length ≤ L.flatten.length + 20 * L.length := by
  induction L with
  | nil => simp
  | cons y L ih =>
    have h3 := (hexT_length 15 y.length).1
    have h4 : (ck y).length ≤ y.length + 20 := by
      unfold ck
      simp only [List.length_append, List.length_cons, List.length_nil]
      omega
    simp only [List.flatMap_cons, List.flatten_cons, List.length_append, List.length_cons]
    omega
theorem enc_lenB (xs : List Int) (z k : Nat) (hz : 1 ≤ z) (h1 : xs.length ≤ 100000) (hk2 : k = 0 ∨ (k - 1) * z < xs.length) : (encS xs z (starts z k)).length ≤ 2200000 := by
  rw [encS_ck]
  have h := flat_cksB ((starts z k).map (piece xs z))
  rw [pieces_flat, List.length_take, List.length_map, starts_length] at h
  have hk : k ≤ 100001 := by
    rcases hk2 with h | h
    · omega
    · have := Nat.mul_le_mul_left (k - 1) hz
      omega
  omega
theorem enc_rngB (xs : List Int) (z k : Nat) (h1 : xs.length ≤ 100000) (h : ∀ c ∈ xs, 0 ≤ c ∧ c ≤ 255) : ∀ c ∈ encS xs z (starts z k), 0 ≤ c ∧ c ≤ 255 := by
  intro c hc
  rw [encS_ck] at hc
  obtain ⟨y, hy, hc⟩ := List.mem_flatMap.1 hc
  obtain ⟨i, _, rfl⟩ := List.mem_map.1 hy
  have hl := piece_length xs z i
  unfold ck at hc
  simp only [List.mem_append, List.mem_cons, List.not_mem_nil, or_false] at hc
  rcases hc with hc | rfl | rfl | hc | rfl | rfl
  · exact hexT_rng 15 _ (pow15 (by omega)) c hc
  · decide
  · decide
  · exact h c (List.mem_of_mem_drop (List.mem_of_mem_take hc))
  · decide
  · decide
set_option maxHeartbeats 4000000 in
set_option maxRecDepth 100000 in
theorem ChunkBack (W : World) (htz : Tz W) (A0 : Option Addr) (c0 : Nat) (l0 : List Int) (A1 : Option Addr) (c1 : Nat) (l1 : List Int) (a2 : Int) (hr0 : Kd.C (Kd.int .u8) W A0 l0.length l0) (hc0 : l0.length ≤ c0) (g0 : ∀ x ∈ l0, (Lit.int .u8 x).wf = true) (hr1 : Kd.C (Kd.int .u8) W A1 l1.length l1) (hc1 : l1.length ≤ c1) (g1 : ∀ x ∈ l1, (Lit.int .u8 x).wf = true) (w2 : (Lit.int .i64 a2).wf = true) :
    Calls Tryd.prog 3 #[.slice A0 l0.length c0, .slice A1 l1.length c1, .int .i64 a2] W fun e w' => e = .returned (.bool true) ∧ Below W.heap.size W w' := by
  have H8 := Lib.hid (show ∀ x ∈ l0, 0 ≤ x ∧ x ≤ 255 from fun x hx => by
    have := bounds_u8 (g0 x hx)
    omega)
  have H9 := Lib.hid (show ∀ x ∈ l1, 0 ≤ x ∧ x ≤ 255 from fun x hx => by
    have := bounds_u8 (g1 x hx)
    omega)
  have hb2 := bounds_i64 w2
  have HR0 := Lib.hid hr0
  have HC0 := Lib.hid hc0
  have HR1 := Lib.hid hr1
  have HC1 := Lib.hid hc1
  have HT := Lib.hid htz
  have HB2 := Lib.hid hb2
  clear g0 g1 hr0 hc0 hr1 hc1 htz w2 hb2
  go_enter Tryd.func3, Tryd.ntmps3
  go_wp2_with fail
  with_reducible refine (known_calls W HT.out).mono ?_
  rintro e w1 ⟨rfl, hB⟩
  have HB := Aside0.mk hB
  clear hB
  by_cases q0 : 2000 < l0.length
  · have p0 : (2000 : Int) < (l0.length : Int) := by omega
    go_wp2_with fail
    go_ret
    exact ⟨rfl, HB.out⟩
  have p0 : decide ((2000 : Int) < (l0.length : Int)) = false := decide_eq_false (by omega)
  by_cases q1 : 100 < l1.length
  · have p1 : (100 : Int) < (l1.length : Int) := by omega
    go_wp2_with fail
    go_ret
    exact ⟨rfl, HB.out⟩
  have p1 : decide ((100 : Int) < (l1.length : Int)) = false := decide_eq_false (by omega)
  have HQ := Lib.hid (show l0.length ≤ 2000 ∧ l1.length ≤ 100 from ⟨by omega, by omega⟩)
  clear q0 q1
  obtain ⟨z, hz⟩ : ∃ z : Nat, max a2 1 = (z : Int) := ⟨(max a2 1).toNat, by omega⟩
  have HZ := Lib.hid (show 1 ≤ z ∧ max a2 1 = (z : Int) from ⟨by omega, hz⟩)
  have hbc := bytes_calls A0 c0 z w1.heap.size a2 l0 w1 rfl (Kd.C_below HR0.out HB.out) HC0.out (HT.out.below HB.out) (by have := HQ.out; omega) hz (by have := HB2.out; omega)
  clear hz
  have HBC := Lib.hid hbc
  clear hbc
  go_wp2_with fail
  with_reducible refine HBC.out.mono ?_
  rintro e w2 ⟨hB2, v2, k, rfl, hR2, hk1, hk2⟩
  have hEl := enc_lenB l0 z k HZ.out.1 (by have := HQ.out; omega) hk2
  have hEr := enc_rngB l0 z k (by have := HQ.out; omega) H8.out
  have hop : openG (encS l0 z (starts z k) ++ [48, 13, 10, 13, 10] ++ l1) = .ok (l0, l1) := by
    rw [List.append_assoc, open_enc l0 _ z k HZ.out.1 hk1 hk2 (by have := HQ.out.1; omega)]
    exact tail_back l0 l1 _
  have HKK := Lib.hid (show l0.length ≤ k * z ∧ (k = 0 ∨ (k - 1) * z < l0.length) from ⟨hk1, hk2⟩)
  obtain ⟨E, hE⟩ : ∃ E, encS l0 z (starts z k) ++ [48, 13, 10, 13, 10] = E := ⟨_, rfl⟩
  have hel : E.length ≤ 2200005 := by rw [← hE, List.length_append]; show _ + 5 ≤ _; omega
  have her : ∀ c ∈ E, 0 ≤ c ∧ c ≤ 255 := by
    intro c hc
    rw [← hE, List.mem_append] at hc
    rcases hc with hc | hc
    · exact hEr c hc
    · simp only [List.mem_cons, List.not_mem_nil, or_false] at hc
      rcases hc with rfl | rfl | rfl | rfl | rfl <;> decide
  rw [hE] at hR2 hop
  have HEE := Lib.hid hE
  have HEL := Lib.hid hel
  have HER := Lib.hid her
  have HOP := Lib.hid hop
  obtain ⟨A2, c2, rfl, hc2, hC2⟩ := Kd.R_reads hR2
  have HC2 := Aside0.mk hC2
  have HK2 := Lib.hid hc2
  have HB2w := Aside0.mk (HB.out.trans (hB2.mono HB.out.size))
  have HC1b := Aside0.mk (Kd.C_below HR1.out HB2w.out)
  clear hB2 hR2 hk1 hk2 hEl hEr hop hE hel her hc2 hC2 HB HBC
  go_wp2_with (first
    | ((with_reducible refine gate_builtin (b := .append) (xs := #[.const (.slice none 0 0), .tmp 25]) rfl ?_); at_builtin; go_must (refine Kd.R_append_row (Value.int .u8) 0 (h1 := fun _ => rfl) (w0 := w2) w2.heap.size rfl (.const (.slice none 0 0)) (.tmp 25) 22 5 (.int .u8 0) 1 rfl Tryd.underlying22 info5 rfl (by decide) (.slice none 0 0) [] E A2 E.length c2 (fun k => w2.heap.size ≤ k) rfl rfl (fun _ hk => hk) (Kd.R_nil _ _ _ _ _) HC2.out (Below.refl _ _) (Nat.le_refl _) ?cL ?_); (case cL => have := HEL.out; simp; omega); intro v3 w3 hR3 hB3 _ _; rw [List.nil_append] at hR3; have HR3 := Aside0.mk hR3; have HB3 := Aside0.mk (HB2w.out.trans (hB3.mono HB2w.out.size)); have HC2b := Aside0.mk (Kd.C_below HC2.out hB3); have HC1c := Aside0.mk (Kd.C_below HR1.out HB3.out); clear hR3)
    | ((with_reducible refine gate_builtin (b := .append) (xs := #[.tmp 26, .tmp 27]) rfl ?_); at_builtin; go_must (refine Kd.R_append_row (Value.int .u8) 0 (h1 := fun _ => rfl) (w0 := w2) w2.heap.size rfl (.tmp 26) (.tmp 27) 22 5 (.int .u8 0) 1 rfl Tryd.underlying22 info5 rfl (by decide) v3 E l1 A1 l1.length c1 (fun k => w2.heap.size ≤ k) rfl rfl (fun _ hk => Nat.le_trans hB3.size hk) HR3.out HC1c.out hB3 hB3.size ?cL ?_); (case cL => have := HEL.out; have := HQ.out; simp; omega); intro v4 w4 hR4 hB4 _ _; obtain ⟨A4, c4, rfl, hc4, hC4⟩ := Kd.R_reads hR4; have HC4 := Aside0.mk hC4; have HK4 := Lib.hid hc4; have HB4 := Aside0.mk (HB2w.out.trans (hB4.mono HB2w.out.size)); have HC2c := Aside0.mk (Kd.C_below HC2.out hB4); clear hR4 hC4 hc4 hB4 hB3)
    | fail)
  have hoc := open_calls A4 c4 (E ++ l1) w4 HC4.out HK4.out (by rw [List.length_append]; have := HEL.out; have := HQ.out; omega) (fun c hc => by
    rw [List.mem_append] at hc
    rcases hc with hc | hc
    · exact HER.out c hc
    · exact H9.out c hc)
  have hll : (E ++ l1).length = E.length + l1.length := List.length_append
  rw [hll] at hoc
  with_reducible refine hoc.mono ?_
  rintro e w5 ⟨hB5, hp⟩
  rw [HOP.out] at hp
  obtain ⟨v5, rfl, hR5⟩ := hp
  rw [show (E ++ l1).length - l1.length = E.length by rw [hll]; omega]
  obtain ⟨A5, c5, rfl, hc5, hC5⟩ := Kd.R_reads hR5
  have HC5 := Aside0.mk hC5
  have HK5 := Lib.hid hc5
  have HB5 := Aside0.mk (HB4.out.trans (hB5.mono HB4.out.size))
  have HC2d := Aside0.mk (Kd.C_below HC2c.out hB5)
  have hrc := ref_calls A0 c0 z a2 l0 w5 (Kd.C_below HR0.out HB5.out) HC0.out (by have := HQ.out; omega) HZ.out.2 (by have := HB2.out; omega)
  have HRC := Lib.hid hrc
  clear hoc hll hR5 hC5 hc5 hB5 hrc HC4 HK4 HR3 HB3 HC2b HC1c
  go_wp2_with fail
  with_reducible refine HRC.out.mono ?_
  rintro e w6 ⟨hB6, v6, j, rfl, hm6, hj1, hj2⟩
  rw [← pieces_one HZ.out.1 HKK.out.1 HKK.out.2 hj1 hj2, HEE.out] at hm6
  obtain ⟨A6, c6, rfl, hc6, hC6⟩ := hm6.reads
  have HC6 := Aside0.mk hC6
  have HK6 := Lib.hid hc6
  have HB6 := Aside0.mk (HB5.out.trans (hB6.mono HB5.out.size))
  have HC2e := Aside0.mk (Kd.C_below HC2d.out hB6)
  have HC5b := Aside0.mk (Kd.C_below HC5.out hB6)
  clear hm6 hC6 hc6 hB6 hj1 hj2 HRC
  go_wp2_with fail
  with_reducible refine (ambryhelp_Bytes.calls A2 c2 E A6 c6 E true w6 HC2e.out HK2.out HC6.out HK6.out (same_bytesB E)).mono ?_
  rintro e w7 ⟨rfl, hd⟩
  have HB7 := Aside0.mk (HB6.out.trans (hd.below.mono HB6.out.size))
  have HC5c := Aside0.mk (Kd.C_below HC5b.out hd.below)
  have HC0c := Aside0.mk (Kd.C_below HR0.out HB7.out)
  clear hd
  go_wp2_with fail
  with_reducible refine (ambryhelp_Bytes.calls A5 c5 l0 A0 c0 l0 true w7 HC5c.out HK5.out HC0c.out HC0.out (same_bytesB l0)).mono ?_
  rintro e w8 ⟨rfl, hd⟩
  have HB8 := Aside0.mk (HB7.out.trans (hd.below.mono HB7.out.size))
  clear hd
  go_wp2_with fail
  go_ret
  exact ⟨rfl, HB8.out⟩
end Go.Proofs.YtdhajdgcgjbdnaaDoor.Walk
