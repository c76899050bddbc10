/- A body that is cut off anywhere isn't all there yet; trailers and what stands behind a length are left out. -/
import Derived.Test.YtdhajdgcgjbdnaaDoorChunkH
import Derived.Test.YtdhajdgcgjbdnaaDoorChunkK
import Derived.Test.YtdhajdgcgjbdnaaDoorFoot2
import Derived.Test.YtdhajdgcgjbdnaaDoorGx2
import Derived.Test.YtdhajdgcgjbdnaaDoorGx4
import Derived.Test.YtdhajdgcgjbdnaaDoorGx3
import Derived.Test.YtdhajdgcgjbdnaaDoorGx3
import Derived.Test.YtdhajdgcgjbdnaaDoorGx4
import Derived.OpenShut
set_option linter.unusedVariables false
set_option linter.unusedSimpArgs false
namespace Go.Proofs.YtdhajdgcgjbdnaaDoor.Walk
open Go.RowKit Go.Proofs.YtdhajdgcgjbdnaaDoor.G Go.Proofs.YtdhajdgcgjbdnaaDoorW.PrintWords Go.Proofs.YtdhajdgcgjbdnaaDoorW.PrintMore Go.Proofs.YtdhajdgcgjbdnaaDoor.Foot Go.Proofs.YtdhajdgcgjbdnaaDoor.Plain Go.Proofs.YtdhajdgcgjbdnaaDoor.Chunk

theorem flat_cks (L : List (List Int)) : (L.flatMap ck).length ≤ L.flatten.length + 20 * L.length := by
  induction L with
  | nil => simp
  | cons y L ih =>
    have h3 := (hexT_length 15 y.length).1
    have h4 : (ck y).length ≤ y.length + 20 := by
      unfold ck
      simp only [List.length_append, List.length_cons, List.length_nil]
      omega
    simp only [List.flatMap_cons, List.flatten_cons, List.length_append, List.length_cons]
    omega
theorem enc_len (xs : List Int) (z k : Nat) (hz : 1 ≤ z) (h1 : xs.length ≤ 500) (hk2 : k = 0 ∨ (k - 1) * z < xs.length) : (encS xs z (starts z k)).length ≤ 11000 := by
  rw [encS_ck]
  have h := flat_cks ((starts z k).map (piece xs z))
  rw [pieces_flat, List.length_take, List.length_map, starts_length] at h
  have hk : k ≤ 501 := by
    rcases hk2 with h | h
    · omega
    · have := Nat.mul_le_mul_left (k - 1) hz
      omega
  omega
theorem enc_rng (xs : List Int) (z k : Nat) (h1 : xs.length ≤ 500) (h : ∀ c ∈ xs, 0 ≤ c ∧ c ≤ 255) : ∀ c ∈ encS xs z (starts z k), 0 ≤ c ∧ c ≤ 255 := by
  intro c hc
  rw [encS_ck] at hc
  obtain ⟨y, hy, hc⟩ := List.mem_flatMap.1 hc
  obtain ⟨i, _, rfl⟩ := List.mem_map.1 hy
  have hl := piece_length xs z i
  unfold ck at hc
  simp only [List.mem_append, List.mem_cons, List.not_mem_nil, or_false] at hc
  rcases hc with hc | rfl | rfl | hc | rfl | rfl
  · exact hexT_rng 15 _ (pow15 (by omega)) c hc
  · decide
  · decide
  · exact h c (List.mem_of_mem_drop (List.mem_of_mem_take hc))
  · decide
  · decide
theorem place_ok (a m : Int) (h0 : 0 < m) (h1 : m ≤ 1000000000) : ∃ r, ambryhelp_Place.f a m = some r ∧ 0 ≤ r ∧ r < m := by
  unfold ambryhelp_Place.f
  rw [if_neg (by omega)]
  have hb : -m < Int.tmod a m ∧ Int.tmod a m < m := by
    have := Int.tmod_lt_of_pos a h0
    have h2 : -m < Int.tmod a m := by
      have := Int.lt_tmod_of_pos a h0
      exact this
    exact ⟨h2, this⟩
  split
  · rename_i h
    refine ⟨_, rfl, ?_⟩
    rw [w64 _ (by omega) (by omega)]
    omega
  · exact ⟨_, rfl, by omega, hb.2⟩
theorem keep_restC {W w w1 : World} {R : HP} {α : Type} {d : Kd α} {e : Nat} {v : Value} {xs : List α} [Firm R] (h : Foot.Own W w (star (Foot.row d e v xs) R)) (hg : w.grownBy w1 v.ownBlock) : Foot.Own W w1 R := by
  obtain ⟨_, ⟨F1, F2, rfl, ⟨hR, hl⟩, h2, hd⟩, hF, hB⟩ := h
  exact ⟨F2, Firm.move h2 (fun k hk => hg.block k (Firm.lt h2 k hk) (fun e => hd k (hR.1 k e.symm) hk)), fun k hk => hF k (.inr hk), hB.grown hg hB.size (fun k e => hF k (.inl (hR.1 k e)))⟩
theorem C_takeC {w : World} {A : Option Addr} {n : Nat} {xs : List Int} (h : Kd.C (Kd.int .u8) w A n xs) (m : Nat) (hm : m ≤ xs.length) : Kd.C (Kd.int .u8) w A m (xs.take m) := by
  obtain ⟨h1, h2, h3⟩ := h
  have hl : (xs.take m).length = m := by rw [List.length_take]; omega
  refine ⟨hl, by omega, fun h0 => ?_⟩
  obtain ⟨ad, ha, hr⟩ := h3 (by omega)
  refine ⟨ad, ha, fun j x hj => hr j x ?_⟩
  rw [List.getElem?_take] at hj
  split at hj
  · exact hj
  · cases hj
theorem same_bytesC (l : List Int) : ambryhelp_Bytes.f l l = some true := by
  unfold ambryhelp_Bytes.f
  simp
set_option maxHeartbeats 4000000 in
set_option maxRecDepth 100000 in
theorem ChunkCuts (W : World) (htz : Tz W) (A0 : Option Addr) (c0 : Nat) (l0 : List Int) (a1 a2 : Int) (a3 a4 a5 : ByteArray) (hr0 : Kd.C (Kd.int .u8) W A0 l0.length l0) (hc0 : l0.length ≤ c0) (g0 : ∀ x ∈ l0, (Lit.int .u8 x).wf = true) (w1 : (Lit.int .i64 a1).wf = true) (w2 : (Lit.int .i64 a2).wf = true) (w3 : a3.size ≤ 140737488351232) (w4 : a4.size ≤ 140737488351232) (w5 : a5.size ≤ 140737488351232) :
    Calls Tryd.prog 4 #[.slice A0 l0.length c0, .int .i64 a1, .int .i64 a2, .string a3, .string a4, .string a5] W fun e w' => e = .returned (.bool true) ∧ Below W.heap.size W w' := by
  have h8 : ∀ x ∈ l0, 0 ≤ x ∧ x ≤ 255 := fun x hx => by
    have := bounds_u8 (g0 x hx)
    omega
  have hb1 := bounds_i64 w1
  have hb2 := bounds_i64 w2
  have H8 := Lib.hid h8
  have HR0 := Lib.hid hr0
  have HC0 := Lib.hid hc0
  have HT := Lib.hid htz
  have HB1 := Lib.hid hb1
  have HB2 := Lib.hid hb2
  have HW := Lib.hid (show a3.size ≤ 140737488351232 ∧ a4.size ≤ 140737488351232 ∧ a5.size ≤ 140737488351232 from ⟨w3, w4, w5⟩)
  clear h8 g0 hr0 hc0 htz w1 w2 w3 w4 w5 hb1 hb2
  go_enter Tryd.func4, Tryd.ntmps4
  go_wp2_with fail
  with_reducible refine (known_calls W HT.out).mono ?_
  rintro e w1 ⟨rfl, hB⟩
  have HB := Aside0.mk hB
  clear hB
  by_cases q0 : 500 < l0.length
  · have p0 : (500 : Int) < (l0.length : Int) := by omega
    go_wp2_with fail
    go_ret
    exact ⟨rfl, HB.out⟩
  have p0 : decide ((500 : Int) < (l0.length : Int)) = false := decide_eq_false (by omega)
  by_cases q3 : 50 < a3.size
  · have p3 : (50 : Int) < (a3.size : Int) := by omega
    go_wp2_with fail
    go_ret
    exact ⟨rfl, HB.out⟩
  have p3 : decide ((50 : Int) < (a3.size : Int)) = false := decide_eq_false (by omega)
  by_cases q4 : 50 < a4.size
  · have p4 : (50 : Int) < (a4.size : Int) := by omega
    go_wp2_with fail
    go_ret
    exact ⟨rfl, HB.out⟩
  have p4 : decide ((50 : Int) < (a4.size : Int)) = false := decide_eq_false (by omega)
  by_cases q5 : 50 < a5.size
  · have p5 : (50 : Int) < (a5.size : Int) := by omega
    go_wp2_with fail
    go_ret
    exact ⟨rfl, HB.out⟩
  have p5 : decide ((50 : Int) < (a5.size : Int)) = false := decide_eq_false (by omega)
  have HQ := Lib.hid (show l0.length ≤ 500 ∧ a3.size ≤ 50 ∧ a4.size ≤ 50 ∧ a5.size ≤ 50 from ⟨by omega, by omega, by omega, by omega⟩)
  obtain ⟨k3, hk3⟩ := (text_ref a3 (by omega)).rounds
  obtain ⟨k4, hk4⟩ := (token_ref a4 (by omega)).rounds
  obtain ⟨k5, hk5⟩ := (value_ref a5 (by omega)).rounds
  have HK3 := Lib.hid hk3
  have HK4 := Lib.hid hk4
  have HK5 := Lib.hid hk5
  clear hk3 hk4 hk5 q0 q3 q4 q5
  go_wp2_with fail
  with_reducible refine (ambryref10_Text.calls k3 a3 _ _ HK3.out).mono ?_
  rintro e w2 ⟨rfl, hd2⟩
  have HB2w := Aside0.mk (HB.out.trans (hd2.below.mono HB.out.size))
  clear hd2 HB
  cases ht3 : textL (bytesOf a3) with
  | false =>
    go_wp2_with fail
    go_ret
    exact ⟨rfl, HB2w.out⟩
  | true =>
  go_wp2_with fail
  with_reducible refine (ambryref10_Token.calls k4 a4 _ _ HK4.out).mono ?_
  rintro e w3 ⟨rfl, hd3⟩
  have HB3w := Aside0.mk (HB2w.out.trans (hd3.below.mono HB2w.out.size))
  clear hd3 HB2w
  cases ht4 : tokenL (bytesOf a4) with
  | false =>
    go_wp2_with fail
    go_ret
    exact ⟨rfl, HB3w.out⟩
  | true =>
  go_wp2_with fail
  with_reducible refine (ambryref10_Value.calls k5 a5 _ _ HK5.out).mono ?_
  rintro e w4 ⟨rfl, hd4⟩
  have HB4w := Aside0.mk (HB3w.out.trans (hd4.below.mono HB3w.out.size))
  clear hd4 HB3w
  cases ht5 : valueL (bytesOf a5) with
  | false =>
    go_wp2_with fail
    go_ret
    exact ⟨rfl, HB4w.out⟩
  | true =>
  have HTT := Lib.hid (show textL (bytesOf a3) = true ∧ tokenL (bytesOf a4) = true ∧ valueL (bytesOf a5) = true from ⟨ht3, ht4, ht5⟩)
  clear ht3 ht4 ht5 p0 p3 p4 p5
  obtain ⟨z, hz⟩ : ∃ z : Nat, max a1 1 = (z : Int) := ⟨(max a1 1).toNat, by omega⟩
  have HZ := Lib.hid (show 1 ≤ z from by omega)
  have hbc := bytes_calls A0 c0 z w4.heap.size a1 l0 w4 rfl (Kd.C_below HR0.out HB4w.out) HC0.out (HT.out.below HB4w.out) (by have := HQ.out; omega) hz (by have := HB1.out; omega)
  clear hz
  have HBC := Lib.hid hbc
  clear hbc
  go_wp2_with fail
  with_reducible refine HBC.out.mono ?_
  rintro e w5 ⟨hB5, v5, k, rfl, hR5, hk1, hk2⟩
  have hEl := enc_len l0 z k HZ.out HQ.out.1 hk2
  have hEr := enc_rng l0 z k HQ.out.1 H8.out
  have hop := fun r => open_enc l0 r z k HZ.out hk1 hk2 (by have := HQ.out.1; omega)
  obtain ⟨E, hE⟩ : ∃ E, encS l0 z (starts z k) = E := ⟨_, rfl⟩
  rw [hE] at hR5 hEl hEr hop
  have HER := Lib.hid hEr
  have HOPN := Lib.hid hop
  have HO := Aside0.mk ((Foot.Own.of_below HB4w.out).row hR5 hB5)
  obtain ⟨A5, c5, rfl⟩ := Kd.R_slice hR5
  have hlc : (E ++ [48, 13, 10, 13, 10]).length = E.length + 5 := by rw [List.length_append]; rfl
  obtain ⟨n5, hn5⟩ : ∃ n, (E ++ [48, 13, 10, 13, 10]).length = n := ⟨_, rfl⟩
  rw [hlc] at hn5
  have hlen5 : (E ++ [48, 13, 10, 13, 10]).length = n5 := hlc.trans hn5
  rw [hlen5] at HO ⊢
  obtain ⟨A5b, c5b, hde, hdc, hC5⟩ := HO.out.reads
  rw [hlen5] at hde hdc hC5
  have hA5 : A5b = A5 ∧ c5b = c5 := by injection hde with h1 _ h3; exact ⟨h1.symm, h3.symm⟩
  obtain ⟨rfl, rfl⟩ := hA5
  obtain ⟨i0, hi0, _, _, _⟩ := info_parts info5
  have hcut := cut_to (P := Tryd.prog) 22 5 .i64 Tryd.underlying22 hi0 A5b n5 c5b (E.length : Int) (by omega) (by omega) hdc
  rw [Int.toNat_natCast] at hcut
  have hCp := C_takeC hC5 E.length (by rw [hlc]; omega)
  rw [List.take_left] at hCp
  have HCP := Aside0.mk hCp
  have h5 : decide ((n5 : Int) < 5) = false := decide_eq_false (by omega)
  have hq5 : (n5 : Int) - 5 = (E.length : Int) := by omega
  have hb5 : (0 : Int) ≤ (E.length : Int) ∧ (E.length : Int) ≤ 9000000000000000000 := by omega
  have hw5 : wrap64 ((n5 : Int) - 5) = (E.length : Int) := by rw [hq5]; exact w64 _ hb5.1 hb5.2
  have hw5b : IntKind.i64.wrap ((n5 : Int) - 5) = (E.length : Int) := by rw [hq5]; exact w64i _ hb5.1 hb5.2
  have HEL := Lib.hid hEl
  clear hde hdc hC5 hi0 hCp hB5 hR5 hk1 hk2 hop hEr hE hlc hn5 hlen5 hEl hq5 hb5 HBC
  obtain ⟨T, hT⟩ : ∃ T, (48 :: 48 :: 59 :: bytesOf a3) ++ (13 :: 10 :: ((bytesOf a4 ++ 58 :: 32 :: bytesOf a5) ++ (13 :: 10 :: 13 :: 10 :: []))) = T := ⟨_, rfl⟩
  have hst : bytesOf (((((((⟨#[48, 48, 59]⟩ : ByteArray) ++ a3) ++ (⟨#[13, 10]⟩ : ByteArray)) ++ a4) ++ (⟨#[58, 32]⟩ : ByteArray)) ++ a5) ++ (⟨#[13, 10, 13, 10]⟩ : ByteArray)) = T := by
    rw [← hT]
    simp only [bytes_append]
    rw [show bytesOf ⟨#[48, 48, 59]⟩ = [48, 48, 59] from rfl, show bytesOf ⟨#[13, 10]⟩ = [13, 10] from rfl, show bytesOf ⟨#[58, 32]⟩ = [58, 32] from rfl, show bytesOf ⟨#[13, 10, 13, 10]⟩ = [13, 10, 13, 10] from rfl]
    simp
  have hss : ((((((((⟨#[48, 48, 59]⟩ : ByteArray) ++ a3) ++ (⟨#[13, 10]⟩ : ByteArray)) ++ a4) ++ (⟨#[58, 32]⟩ : ByteArray)) ++ a5) ++ (⟨#[13, 10, 13, 10]⟩ : ByteArray))).size = a3.size + a4.size + a5.size + 11 := by
    simp only [ByteArray.size_append]
    show 3 + a3.size + 2 + a4.size + 2 + a5.size + 4 = _
    omega
  have hTl : T.length = a3.size + a4.size + a5.size + 11 := by rw [← hst, ← size_bytes]; exact hss
  have hTr : ∀ c ∈ T, 0 ≤ c ∧ c ≤ 255 := by rw [← hst]; exact bytes_range _
  have hTo : ∀ o f, bodyG textL fieldL (f + 1) T o = .ok (o, []) := fun o f => by
    rw [← hT]
    refine tail_cuts (bytesOf a3) (bytesOf a4) (bytesOf a5) o f HTT.out.1 (by rw [← size_bytes]; exact HQ.out.2.1) HTT.out.2.1 (by rw [← size_bytes]; exact HQ.out.2.2.1) HTT.out.2.2 (by rw [← size_bytes]; exact HQ.out.2.2.2) (fun c hc => ?_)
    simp only [List.mem_append, List.mem_cons] at hc
    rcases hc with hc | rfl | rfl | hc
    · exact bytes_range a4 c hc
    · decide
    · decide
    · exact bytes_range a5 c hc
  have hop1 : openG (E ++ T) = .ok (l0, []) := by rw [HOPN.out T]; exact hTo l0 _
  have HOP := Lib.hid hop1
  have HST := Lib.hid hst
  have HSS := Lib.hid hss
  have HTL := Lib.hid (show (E ++ T).length ≤ 20000 ∧ 1 ≤ (E ++ T).length ∧ a3.size + a4.size + a5.size + 11 ≤ 200 from ⟨by rw [List.length_append, hTl]; have := HEL.out; have := HQ.out; omega, by rw [List.length_append, hTl]; omega, by have := HQ.out; omega⟩)
  have HRG := Lib.hid (show ∀ c ∈ E ++ T, 0 ≤ c ∧ c ≤ 255 from fun c hc => by
    rw [List.mem_append] at hc
    rcases hc with hc | hc
    · exact HER.out c hc
    · exact hTr c hc)
  obtain ⟨cl, hcl⟩ : ∃ cl, E ++ T = cl := ⟨_, rfl⟩
  rw [hcl] at HOP HTL HRG
  have HCL := Lib.hid hcl
  clear hT hst hss hTl hTr hTo hop1 hcl
  have hs3 : a3.size ≤ 50 := HQ.out.2.1
  have hs4 : a4.size ≤ 50 := HQ.out.2.2.1
  have hs5 : a5.size ≤ 50 := HQ.out.2.2.2
  go_wp2_with (first
    | ((with_reducible refine gate_builtin (b := .append) (xs := #[.const (.slice none 0 0), .tmp 66]) rfl ?_); at_builtin; go_must (refine Kd.R_append_row (Value.int .u8) 0 (h1 := fun _ => rfl) (w0 := w5) w5.heap.size rfl (.const (.slice none 0 0)) (.tmp 66) 22 5 (.int .u8 0) 1 rfl Tryd.underlying22 info5 rfl (by decide) (.slice none 0 0) [] E A5b E.length c5b (fun _ => True) rfl rfl (fun _ _ => trivial) (Kd.R_nil _ _ _ _ _) HCP.out (Below.refl _ _) (Nat.le_refl _) ?cL ?_); (case cL => have := HEL.out; simp; omega); intro v6 w6 hR6 hB6 hg6 _; rw [List.nil_append] at hR6; have HO2 := Aside0.mk (HO.out.row hR6 hB6); obtain ⟨A6, c6, rfl⟩ := Kd.R_slice hR6; obtain ⟨ok6, hR6b, _, _⟩ := HO2.out.open_row; have HR6 := Lib.hid hR6b; clear hR6 hB6 hg6 hR6b)
    | ((with_reducible refine gate_builtin (b := .append) (xs := #[.tmp 68, .tmp 77]) rfl ?_); at_builtin; go_must (refine print_append_str (w0 := w6) 0 rfl (.tmp 68) (.tmp 77) 22 9 5 rfl Tryd.underlying22 Tryd.underlying9 info5 (.slice A6 E.length c6) E (((((((⟨#[48, 48, 59]⟩ : ByteArray) ++ a3) ++ (⟨#[13, 10]⟩ : ByteArray)) ++ a4) ++ (⟨#[58, 32]⟩ : ByteArray)) ++ a5) ++ (⟨#[13, 10, 13, 10]⟩ : ByteArray)) rfl rfl ?bO (Below.refl _ _) (Nat.zero_le _) ?bL ?_); (case bO => exact Kd.own_of_R (enc := Value.int .u8) (h1 := fun _ => rfl) HR6.out); (case bL => rw [HSS.out]; have := HEL.out; omega); intro v9 w9 ho9 _ hg9; have HO3 := Aside0.mk (keep_restC HO2.out hg9); rw [HST.out, HCL.out] at ho9; have hR9 : Kd.R (Kd.int .u8) 5 w9 0 (fun _ => True) v9 cl := Kd.R_of_own (enc := Value.int .u8) (h1 := fun _ => rfl) ho9 (fun _ _ => trivial); obtain ⟨A9, c9, rfl, hc9, hC9⟩ := Kd.R_reads hR9; have HC9 := Aside0.mk hC9; have HCC := Lib.hid hc9; clear ho9 hg9 hR9 hC9 hc9)
    | fail)
  with_reducible refine (open_calls A9 c9 cl w9 HC9.out HCC.out (by have := HTL.out; omega) HRG.out).mono ?_
  rintro e w10 ⟨hB10, hp⟩
  rw [HOP.out] at hp
  obtain ⟨v10, rfl, hR10⟩ := hp
  obtain ⟨A10, c10, rfl, hc10, hC10⟩ := Kd.R_reads hR10
  have HC10 := Aside0.mk hC10
  have HK10 := Lib.hid hc10
  have HB10 := Aside0.mk (HO3.out.below.trans (hB10.mono HO3.out.below.size))
  have HC11 := Aside0.mk (Kd.C_below HC9.out hB10)
  rw [show cl.length - ([] : List Int).length = cl.length from rfl]
  obtain ⟨r, hpl, hr0, hr1⟩ := place_ok a2 (cl.length : Int) (by have := HTL.out; omega) (by have := HTL.out; omega)
  obtain ⟨rn, rfl⟩ := Int.eq_ofNat_of_zero_le hr0
  have HPL := Lib.hid hpl
  have HRN := Lib.hid (show rn < cl.length by omega)
  obtain ⟨i1, hi1, _, _, _⟩ := info_parts info5
  have hcut2 := cut_to (P := Tryd.prog) 22 5 .i64 Tryd.underlying22 hi1 A9 cl.length c9 (rn : Int) (by omega) (by omega) HCC.out
  rw [Int.toNat_natCast] at hcut2
  have hrl : (rn : Int) ≤ (cl.length : Int) := by omega
  have hrc : (cl.take rn).length = rn := by rw [List.length_take]; omega
  have hop2 := openG_cut HOP.out rn (by omega)
  have HOP2 := Lib.hid hop2
  have HRC := Lib.hid hrc
  clear hC10 hc10 hR10 hB10 hpl hr1 hi1 hrc hop2
  go_wp2_with fail
  with_reducible refine (ambryhelp_Place.calls a2 (cl.length : Int) (rn : Int) _ HPL.out).mono ?_
  rintro e w11 ⟨rfl, hw11⟩
  have hc12 := C_takeC (Kd.C_below HC11.out hw11.below) rn (by have := HRN.out; omega)
  have HC12 := Aside0.mk hc12
  have HB12 := Aside0.mk (HB10.out.trans (hw11.below.mono HB10.out.size))
  have HC10b := Aside0.mk (Kd.C_below HC10.out hw11.below)
  clear hc12 hw11
  go_wp2_with fail
  have hoc := open_calls A9 c9 (cl.take rn) w11 (by rw [HRC.out]; exact HC12.out) (by rw [HRC.out]; have := HCC.out; have := HRN.out; omega) (by rw [HRC.out]; have := HTL.out; have := HRN.out; omega) (fun c hc => HRG.out c (List.mem_of_mem_take hc))
  rw [HRC.out] at hoc
  with_reducible refine hoc.mono ?_
  rintro e w12 ⟨hB12, hp2⟩
  rw [HOP2.out] at hp2
  obtain rfl := hp2
  have HC10c := Aside0.mk (Kd.C_below HC10b.out hB12)
  have HB13 := Aside0.mk (HB12.out.trans (hB12.mono HB12.out.size))
  have HC0b := Aside0.mk (Kd.C_below HR0.out HB13.out)
  clear hoc hB12
  go_wp2_with fail
  with_reducible refine (ambryhelp_Bytes.calls A10 c10 l0 A0 c0 l0 true w12 HC10c.out HK10.out HC0b.out HC0.out (same_bytesC l0)).mono ?_
  rintro e w13 ⟨rfl, hd⟩
  have HD := Aside0.mk hd
  clear hd
  go_wp2_with fail
  go_ret
  exact ⟨rfl, HB13.out.trans (HD.out.below.mono HB13.out.size)⟩
end Go.Proofs.YtdhajdgcgjbdnaaDoor.Walk
