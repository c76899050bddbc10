/- Chunks of any sizes, one behind another, come to one body. -/
import Derived.Test.YtdhajdgcgjbdnaaDoorChunkF
import Derived.Test.YtdhajdgcgjbdnaaDoorChunkK
import Derived.Test.YtdhajdgcgjbdnaaDoorFoot2
import Derived.OpenShut
import Derived.Test.YtdhajdgcgjbdnaaDoorGx2
set_option linter.unusedVariables false
set_option linter.unusedSimpArgs false
namespace Go.Proofs.YtdhajdgcgjbdnaaDoor.Walk
open Go.RowKit Go.Proofs.YtdhajdgcgjbdnaaDoor.G Go.Proofs.YtdhajdgcgjbdnaaDoorW.PrintWords Go.Proofs.YtdhajdgcgjbdnaaDoorW.PrintMore Go.Proofs.YtdhajdgcgjbdnaaDoor.Foot Go.Proofs.YtdhajdgcgjbdnaaDoor.Plain Go.Proofs.YtdhajdgcgjbdnaaDoor.Chunk

def Pcs (L : List (List Int)) : Prop := ∀ y ∈ L, 1 ≤ y.length ∧ y.length ≤ 255 ∧ ∀ c ∈ y, 0 ≤ c ∧ c ≤ 255
theorem Pcs.flat {L : List (List Int)} (h : Pcs L) : L.flatten.length ≤ L.length * 255 := by
  induction L with
  | nil => simp
  | cons y L ih =>
    have h1 := h y (List.mem_cons_self)
    have h2 := ih (fun z hz => h z (List.mem_cons_of_mem _ hz))
    simp only [List.flatten_cons, List.length_append, List.length_cons, Nat.succ_mul]
    omega
theorem ck_le (ys : List Int) (h : ys.length ≤ 255) : (ck ys).length ≤ ys.length + 20 := by
  have := (hexT_length 15 ys.length).1
  unfold ck
  simp only [List.length_append, List.length_cons, List.length_nil]
  omega
theorem Pcs.cks {L : List (List Int)} (h : Pcs L) : (L.flatMap ck).length ≤ L.length * 275 := by
  induction L with
  | nil => simp
  | cons y L ih =>
    have h1 := h y (List.mem_cons_self)
    have h2 := ih (fun z hz => h z (List.mem_cons_of_mem _ hz))
    have h3 := ck_le y h1.2.1
    simp only [List.flatMap_cons, List.length_append, List.length_cons, Nat.succ_mul]
    omega
theorem ck_rng (ys : List Int) (hl : ys.length ≤ 65536) (h : ∀ c ∈ ys, 0 ≤ c ∧ c ≤ 255) : ∀ c ∈ ck ys, 0 ≤ c ∧ c ≤ 255 := by
  intro c hc
  unfold ck at hc
  simp only [List.mem_append, List.mem_cons, List.not_mem_nil, or_false] at hc
  rcases hc with hc | rfl | rfl | hc | rfl | rfl
  · exact hexT_rng 15 ys.length (pow15 (by omega)) c hc
  · decide
  · decide
  · exact h c hc
  · decide
  · decide
theorem Pcs.rng {L : List (List Int)} (h : Pcs L) : ∀ c ∈ L.flatMap ck, 0 ≤ c ∧ c ≤ 255 := by
  intro c hc
  obtain ⟨y, hy, hc⟩ := List.mem_flatMap.1 hc
  have := h y hy
  exact ck_rng y (by omega) this.2.2 c hc
theorem one_piece (ds : List Int) (m k : Nat) (hm : ds.length = m) (h1 : 1 ≤ m) (hk1 : ds.length ≤ k * m) (hk2 : k = 0 ∨ (k - 1) * m < ds.length) : encS ds m (starts m k) = ck ds := by
  have hk : k = 1 := by
    rcases Nat.lt_or_ge k 2 with h | h
    · rcases (show k = 0 ∨ k = 1 by omega) with rfl | rfl
      · omega
      · rfl
    · have := Nat.mul_le_mul_right m (show 1 ≤ k - 1 by omega)
      omega
  subst hk
  subst hm
  rw [encS_ck]
  have h2 : starts ds.length 1 = [0] := by simp [starts]
  rw [h2]
  simp [piece]
theorem keep_rest {W w w1 : World} {R : HP} {α : Type} {d : Kd α} {e : Nat} {v : Value} {xs : List α} [Firm R] (h : Foot.Own W w (star (Foot.row d e v xs) R)) (hg : w.grownBy w1 v.ownBlock) : Foot.Own W w1 R := by
  obtain ⟨_, ⟨F1, F2, rfl, ⟨hR, hl⟩, h2, hd⟩, hF, hB⟩ := h
  exact ⟨F2, Firm.move h2 (fun k hk => hg.block k (Firm.lt h2 k hk) (fun e => hd k (hR.1 k e.symm) hk)), fun k hk => hF k (.inr hk), hB.grown hg hB.size (fun k e => hF k (.inl (hR.1 k e)))⟩
theorem tail_many (o : List Int) : bodyG textL fieldL 12 [48, 48, 48, 13, 10, 13, 10, 114, 101, 115, 116] o = .ok (o, [114, 101, 115, 116]) := by rfl
theorem same_bytes (l : List Int) : ambryhelp_Bytes.f l l = some true := by
  unfold ambryhelp_Bytes.f
  simp
theorem C_take {w : World} {A : Option Addr} {n : Nat} {xs : List Int} (h : Kd.C (Kd.int .u8) w A n xs) (m : Nat) (hm : m ≤ xs.length) : Kd.C (Kd.int .u8) w A m (xs.take m) := by
  obtain ⟨h1, h2, h3⟩ := h
  have hl : (xs.take m).length = m := by rw [List.length_take]; omega
  refine ⟨hl, by omega, fun h0 => ?_⟩
  obtain ⟨ad, ha, hr⟩ := h3 (by omega)
  refine ⟨ad, ha, fun j x hj => hr j x ?_⟩
  rw [List.getElem?_take] at hj
  split at hj
  · exact hj
  · cases hj
set_option maxHeartbeats 4000000 in
set_option maxRecDepth 100000 in
theorem ChunkMany (W : World) (htz : Tz W) (A0 : Option Addr) (c0 : Nat) (l0 : List Int) (a1 : Int) (hr0 : Kd.C (Kd.int .u8) W A0 l0.length l0) (hc0 : l0.length ≤ c0) (g0 : ∀ x ∈ l0, (Lit.int .u8 x).wf = true) (w1 : (Lit.int .u8 a1).wf = true) :
    Calls Tryd.prog 7 #[.slice A0 l0.length c0, .int .u8 a1] W fun e w' => e = .returned (.bool true) ∧ Below W.heap.size W w' := by
  have h8 : ∀ x ∈ l0, 0 ≤ x ∧ x ≤ 255 := fun x hx => by
    have := bounds_u8 (g0 x hx)
    omega
  have ha1 := bounds_u8 w1
  have H8 := Lib.hid h8
  have HR0 := Lib.hid hr0
  have HT := Lib.hid htz
  clear h8 g0 hr0 hc0 htz w1
  go_enter Tryd.func7, Tryd.ntmps7
  go_wp2_with fail
  with_reducible refine (known_calls W HT.out).mono ?_
  rintro e w1 ⟨rfl, hB⟩
  have HB := Aside0.mk hB
  clear hB
  by_cases hlong : 30 < l0.length
  · have hl1 : (30 : Int) < (l0.length : Int) := by omega
    go_wp2_with fail
    go_ret
    exact ⟨rfl, HB.out⟩
  · have hl1 : decide ((30 : Int) < (l0.length : Int)) = false := decide_eq_false (by omega)
    have hl30 : l0.length ≤ 30 := by omega
    have HO0 := Aside0.mk ((Foot.Own.nil (Kd.int .u8) 5 (Foot.Own.nil (Kd.int .u8) 5 (Foot.Own.of_below HB.out))))
    clear HB
    go_wp2_with fail
    go_loopw [5, 6, 7] (fun v5 v6 v7 wr => ∃ (i : Nat) (L : List (List Int)), v7 = .int .i64 (i : Int) ∧ i ≤ l0.length ∧ L.length ≤ i ∧ Pcs L ∧ Aside0 (Foot.Own W wr (star (row (Kd.int .u8) 5 v5 (L.flatMap ck)) (star (row (Kd.int .u8) 5 v6 L.flatten) emp)))) (fun _ _ v7 _ => l0.length - (intOf v7).toNat)
    case atStart => exact ⟨0, [], rfl, Nat.zero_le _, Nat.le_refl _, (fun y hy => by cases hy), HO0⟩
    case round =>
      clear HO0
      obtain ⟨i, L, rfl, hi, hLi, hP, HO⟩ := hrel
      obtain ⟨A5, c5, rfl, hc5, _⟩ := HO.out.reads
      obtain ⟨A6, c6, rfl, hc6, _⟩ := HO.out.swap.reads
      have HP := Lib.hid hP
      obtain ⟨bs, hbs⟩ : ∃ bs, L.flatMap ck = bs := ⟨_, rfl⟩
      obtain ⟨al, has⟩ : ∃ al, L.flatten = al := ⟨_, rfl⟩
      rw [hbs, has] at HO
      rw [hbs] at hc5 ⊢
      rw [has] at hc6 ⊢
      have HBS := Lib.hid hbs
      have HAS := Lib.hid has
      clear hP hbs has
      by_cases hlt : i < l0.length
      · have hj0 : (0 : Int) ≤ (i : Int) := by omega
        have hj1 : (i : Int) < (l0.length : Int) := by omega
        obtain ⟨ad, hA, hcell⟩ := Kd.at_int (Kd.C_below HR0.out HO.out.below) (i : Int) hj0 hj1
        have hx8 := H8.out (rd l0 (i : Int)) (by unfold rd; rw [Int.toNat_natCast, List.getD_eq_getElem?_getD, List.getElem?_eq_getElem hlt]; exact List.getElem_mem hlt)
        rw [Int.toNat_natCast] at hcell
        subst hA
        generalize rd l0 (i : Int) = y at hcell hx8
        obtain ⟨m, rfl⟩ := Int.eq_ofNat_of_zero_le hx8.1
        by_cases hm : m = 0
        · subst hm
          go_wp2_with fail
          go_roundw
          case rel => exact ⟨i + 1, L, by go_num, by omega, by omega, HP.out, by rw [HBS.out, HAS.out]; exact HO⟩
          case measure => simp [intOf]; omega
        · obtain ⟨z, hz⟩ : ∃ z : Int, (m : Int) = z := ⟨_, rfl⟩
          have hz1 : 1 ≤ z ∧ z ≤ 255 := by omega
          have hzne : (z == 0) = false := by simp only [beq_eq_false_iff_ne]; omega
          rw [hz] at hcell
          obtain ⟨hz1a, hz1b⟩ := hz1
          have HZ := Lib.hid hz
          clear hz hx8 hm
          go_wp2_with (first
            | (refine Kd.R_make (Kd.int .u8) (w0 := wr) wr.heap.size 5 rfl (N := 35) rfl 22 _ _ rfl z rfl rfl Tryd.underlying22 (.int .u8 0) 1 info5 rfl (by decide) (by omega) (0 : Int) (ok := fun _ => True) (okp := fun _ => True) rfl (fun _ hk => hk) trivial (by omega) (by omega) (Below.refl _ _) (Nat.le_refl _) ?_; intro v w2 hR hB2 _ _)
            | fail)
          have ho1 := HO.out.row hR hB2
          have hz := HZ.out
          subst hz
          rw [Int.toNat_natCast] at ho1
          have hrl : (List.replicate m (0 : Int)).length = m := List.length_replicate
          obtain ⟨g, c8, rfl, hc8⟩ := ho1.form (by rw [hrl]; omega)
          rw [hrl] at ho1 hc8 ⊢
          have HO1 := Aside0.mk ho1
          have HM := Lib.hid (show 1 ≤ m ∧ m ≤ 255 ∧ m ≤ c8 from ⟨by omega, by omega, hc8⟩)
          clear hzne hR hB2 ho1 hrl hc8 HO hcell HZ
          go_wp2_with fail
          go_loopw [9] (fun v9 w3 => ∃ (k : Nat) (ds : List Int), v9 = .int .i64 (k : Int) ∧ k ≤ m ∧ ds.length = m ∧ (∀ c ∈ ds, 0 ≤ c ∧ c ≤ 255) ∧ Aside0 (Foot.Own W w3 (star (row (Kd.int .u8) 5 (.slice (some ⟨g, 0, none⟩) m c8) ds) (star (row (Kd.int .u8) 5 (.slice A5 bs.length c5) bs) (star (row (Kd.int .u8) 5 (.slice A6 al.length c6) al) emp))))) (fun v9 _ => m - (intOf v9).toNat)
          case atStart => exact ⟨0, List.replicate m 0, rfl, Nat.zero_le _, List.length_replicate, (fun c hc => by rw [List.eq_of_mem_replicate hc]; decide), HO1⟩
          case round =>
            clear HO1
            obtain ⟨k, ds, rfl, hk, hds, hd8, HO1⟩ := hrel
            have HDS := Lib.hid (show ds.length = m ∧ ∀ c ∈ ds, 0 ≤ c ∧ c ≤ 255 from ⟨hds, hd8⟩)
            clear hds hd8
            by_cases hkm : k < m
            · have hk0 : (0 : Int) ≤ (k : Int) := by omega
              have hk1 : (k : Int) < (m : Int) := by omega
              have hcl := HO1.out.at_ k (by omega)
              obtain ⟨hcl1, hcl2⟩ := hcl
              obtain ⟨y, hy⟩ : ∃ y : Int, IntKind.u8.wrap (a1 + IntKind.u8.wrap (IntKind.i64.wrap ((i : Int) * (k : Int)))) = y := ⟨_, rfl⟩
              clear hy
              go_wp2_with fail
              refine ⟨⟨k + 1, ds.set k _, by go_num, by omega, by rw [List.length_set]; exact HDS.out.1, fun c hc => ?_, ⟨HO1.out.put k _⟩⟩, ?_⟩
              · rcases List.mem_or_eq_of_mem_set hc with hc | rfl
                · exact HDS.out.2 c hc
                · have h1 := Int.emod_nonneg (a1 + wrap64 ((i : Int) * (k : Int))) (show (256 : Int) ≠ 0 by decide)
                  have h2 := Int.emod_lt_of_pos (a1 + wrap64 ((i : Int) * (k : Int))) (show (0 : Int) < 256 by decide)
                  generalize (a1 + wrap64 ((i : Int) * (k : Int))) % 256 = q at h1 h2 ⊢
                  omega
              · simp [intOf]; omega
            · have hkm2 : k = m := by omega
              subst hkm2
              clear hk hkm
              have hkl : decide ((k : Int) < (k : Int)) = false := decide_eq_false (by omega)
              have HO2 := Aside0.mk HO1.out.assoc'.comm.assoc
              clear HO1
              obtain ⟨Ad, cd, hde, hdc, hCd⟩ := HO2.out.rest.rest.reads
              have hAd : Ad = some ⟨g, 0, none⟩ := by injection hde with h1 _ _; exact h1.symm
              subst hAd
              have HCD := Aside0.mk hCd
              obtain ⟨ok6, hR6, hf6, hback6⟩ := HO2.out.open_row
              have HR6 := Lib.hid hR6
              have HF6 := Lib.hid hf6
              have HBK6 := Lib.hid hback6
              have HL6 := Lib.hid (show (al.length + k) * 1 ≤ 140737488355328 by
                have h1 := HP.out.flat
                rw [HAS.out] at h1
                have := HM.out
                omega)
              clear hde hdc hCd hR6 hf6 hback6
              go_wp2_with (first
                | ((with_reducible refine gate_builtin (b := .append) (xs := #[.tmp 51, .tmp 52]) rfl ?_); at_builtin; go_must (refine Kd.R_append_row (Value.int .u8) 0 (h1 := fun _ => rfl) (w0 := wr) 0 rfl (.tmp 51) (.tmp 52) 22 5 (.int .u8 0) 1 rfl Tryd.underlying22 info5 rfl (by decide) (.slice A6 al.length c6) al ds (some ⟨g, 0, none⟩) k c8 ok6 rfl rfl HF6.out HR6.out ?bC (Below.refl _ _) (Nat.zero_le _) HL6.out ?_); (case bC => have := HCD.out; rw [HDS.out.1] at this; exact this); intro v9 w9 hR9 hB9 hg9 _; have ho9 := HBK6.out _ _ _ hR9 hg9; have HO3 := Aside0.mk ho9; clear hR9 hB9 hg9 ho9)
                | fail)
              obtain ⟨Ad2, cd2, hde2, _, hCd2⟩ := HO3.out.rest.rest.reads
              have hAd2 : Ad2 = some ⟨g, 0, none⟩ := by injection hde2 with h1 _ _; exact h1.symm
              subst hAd2
              have hbc := bytes_calls (some ⟨g, 0, none⟩) c8 k w9.heap.size (k : Int) ds w9 rfl hCd2 (by have := HDS.out.1; have := HM.out; omega) (HT.out.below HO3.out.below) (by have := HDS.out.1; have := HM.out; omega) (by have := HM.out; omega) (by have := HM.out; omega)
              rw [HDS.out.1] at hbc
              clear hde2 hCd2
              with_reducible refine hbc.mono ?_
              rintro e w10 ⟨hB10, v10, kk, rfl, hR10, hkk1, hkk2⟩
              rw [one_piece ds k kk HDS.out.1 HM.out.1 hkk1 hkk2] at hR10
              have HO4 := Aside0.mk (HO3.out.row hR10 hB10)
              obtain ⟨A10, c10, rfl⟩ := Kd.R_slice hR10
              have hlc : (ck ds ++ [48, 13, 10, 13, 10]).length = (ck ds).length + 5 := by rw [List.length_append]; rfl
              rw [hlc] at HO4 ⊢
              obtain ⟨cs, hcs⟩ : ∃ cs, ck ds = cs := ⟨_, rfl⟩
              rw [hcs] at HO4 ⊢
              have HCS := Lib.hid hcs
              have hcl : cs.length ≤ 275 := by rw [← hcs]; have := ck_le ds (by have := HDS.out.1; have := HM.out; omega); have := HDS.out.1; have := HM.out; omega
              clear hbc hB10 hR10 hkk1 hkk2 hlc hcs HO3
              obtain ⟨n10, hn10⟩ : ∃ n, cs.length + 5 = n := ⟨_, rfl⟩
              rw [hn10] at HO4 ⊢
              have h5 : decide ((n10 : Int) < 5) = false := decide_eq_false (by omega)
              have hw5 : wrap64 ((n10 : Int) - 5) = (cs.length : Int) := by rw [show (n10 : Int) - 5 = (cs.length : Int) by omega]; exact w64 _ (by omega) (by omega)
              have hw5b : IntKind.i64.wrap ((n10 : Int) - 5) = (cs.length : Int) := by rw [show (n10 : Int) - 5 = (cs.length : Int) by omega]; exact w64i _ (by omega) (by omega)
              obtain ⟨A10b, c10b, hde3, hdc3, hCd3⟩ := HO4.out.reads
              have hlc2 : (cs ++ [48, 13, 10, 13, 10]).length = n10 := by rw [List.length_append]; exact hn10
              rw [hlc2] at hde3 hdc3 hCd3
              have hA10 : A10b = A10 ∧ c10b = c10 := by injection hde3 with h1 _ h3; exact ⟨h1.symm, h3.symm⟩
              obtain ⟨rfl, rfl⟩ := hA10
              obtain ⟨i0, hi0, _, _, _⟩ := info_parts info5
              have hcut := cut_to (P := Tryd.prog) 22 5 .i64 Tryd.underlying22 hi0 A10b n10 c10b (cs.length : Int) (by omega) (by omega) hdc3
              rw [Int.toNat_natCast] at hcut
              have hCp := C_take hCd3 cs.length (by rw [hlc2]; omega)
              rw [List.take_left] at hCp
              have HCP := Aside0.mk hCp
              have HO5 := Aside0.mk ((HO4.out.assoc'.assoc'.comm.map (fun _ => star_mono (fun _ => star_comm) (fun _ h => h))).assoc)
              obtain ⟨ok5, hR5, hf5, hback5⟩ := HO5.out.open_row
              have HR5 := Lib.hid hR5
              have HF5 := Lib.hid hf5
              have HBK5 := Lib.hid hback5
              have HL5 := Lib.hid (show (bs.length + cs.length) * 1 ≤ 140737488355328 by
                have h1 := HP.out.cks
                rw [HBS.out] at h1
                omega)
              clear hde3 hdc3 hCd3 hlc2 hi0 hCp hR5 hf5 hback5 hn10 hcl HO4 HO5
              go_wp2_with (first
                | ((with_reducible refine gate_builtin (b := .append) (xs := #[.tmp 61, .tmp 66]) rfl ?_); at_builtin; go_must (refine Kd.R_append_row (Value.int .u8) 0 (h1 := fun _ => rfl) (w0 := w10) 0 rfl (.tmp 61) (.tmp 66) 22 5 (.int .u8 0) 1 rfl Tryd.underlying22 info5 rfl (by decide) (.slice A5 bs.length c5) bs cs A10b cs.length c10b ok5 rfl rfl HF5.out HR5.out HCP.out (Below.refl _ _) (Nat.zero_le _) HL5.out ?_); intro v11 w11 hR11 hB11 hg11 _; have ho11 := HBK5.out _ _ _ hR11 hg11; have HO6 := Aside0.mk (((ho11.swap.rest).map (fun _ => star_mono (fun _ h => h) (fun _ => star_assoc))).swap.rest); clear hR11 hB11 hg11 ho11)
                | fail)
              have hPn : Pcs (L ++ [ds]) := fun y hy => by
                rw [List.mem_append, List.mem_singleton] at hy
                rcases hy with hy | rfl
                · exact HP.out y hy
                · have h1 := HDS.out.1
                  have h2 := HM.out
                  exact ⟨by omega, by omega, HDS.out.2⟩
              have hfm : (L ++ [ds]).flatMap ck = bs ++ cs := by rw [List.flatMap_append, HBS.out]; simp [HCS.out]
              have hfl : (L ++ [ds]).flatten = al ++ ds := by rw [List.flatten_append, HAS.out]; simp
              rw [← hfm, ← hfl] at HO6
              have HPN := Lib.hid hPn
              clear hPn hfm hfl
              go_roundw
              case rel => exact ⟨i + 1, L ++ [ds], by go_num, by omega, by rw [List.length_append, List.length_singleton]; omega, HPN.out, HO6⟩
              case measure => simp [intOf]; omega
      · have hin : i = l0.length := by omega
        have hil : decide ((i : Int) < (l0.length : Int)) = false := decide_eq_false (by omega)
        have hbl := HP.out.cks
        have hal := HP.out.flat
        rw [HBS.out] at hbl
        rw [HAS.out] at hal
        have hop : openG (bs ++ [48, 48, 48, 13, 10, 13, 10, 114, 101, 115, 116]) = .ok (al, [114, 101, 115, 116]) := by
          rw [← HBS.out, open_cks L _ (fun y hy => (HP.out y hy).1) (by rw [HAS.out]; omega), HAS.out]
          exact tail_many al
        have hrng : ∀ c ∈ bs ++ [48, 48, 48, 13, 10, 13, 10, 114, 101, 115, 116], 0 ≤ c ∧ c ≤ 255 := fun c hc => by
          rw [List.mem_append] at hc
          rcases hc with hc | hc
          · exact HP.out.rng c (by rw [HBS.out]; exact hc)
          · revert c; decide
        have HOP := Lib.hid hop
        have HRG := Lib.hid hrng
        have HBL := Lib.hid (show bs.length ≤ 10000 ∧ al.length ≤ 65536 from ⟨by omega, by omega⟩)
        obtain ⟨ok5, hR5, _, _⟩ := HO.out.open_row
        have HR5 := Lib.hid hR5
        clear hin hop hrng hbl hal hR5
        go_wp2_with (first
          | ((with_reducible refine gate_builtin (b := .append) (xs := #[.tmp 69, .const (.string ⟨#[48, 48, 48, 13, 10, 13, 10, 114, 101, 115, 116]⟩)]) rfl ?_); at_builtin; go_must (refine print_append_str (w0 := wr) 0 rfl (.tmp 69) (.const (.string ⟨#[48, 48, 48, 13, 10, 13, 10, 114, 101, 115, 116]⟩)) 22 9 5 rfl Tryd.underlying22 Tryd.underlying9 info5 (.slice A5 bs.length c5) bs ⟨#[48, 48, 48, 13, 10, 13, 10, 114, 101, 115, 116]⟩ rfl rfl ?bO (Below.refl _ _) (Nat.zero_le _) ?bL ?_); (case bO => exact Kd.own_of_R (enc := Value.int .u8) (h1 := fun _ => rfl) HR5.out); (case bL => have := HBL.out; show bs.length + 11 ≤ _; omega); intro v9 w9 ho9 _ hg9; have HO7 := Aside0.mk (keep_rest HO.out hg9); have hR9 : Kd.R (Kd.int .u8) 5 w9 0 (fun _ => True) v9 (bs ++ [48, 48, 48, 13, 10, 13, 10, 114, 101, 115, 116]) := Kd.R_of_own (enc := Value.int .u8) (h1 := fun _ => rfl) ho9 (fun _ _ => trivial); obtain ⟨A9, c9, rfl, hc9, hC9⟩ := Kd.R_reads hR9; have HC9 := Aside0.mk hC9; have HCC := Lib.hid hc9; clear ho9 hg9 hR9 hC9 hc9)
          | fail)
        have hoc := open_calls A9 c9 (bs ++ [48, 48, 48, 13, 10, 13, 10, 114, 101, 115, 116]) w9 HC9.out HCC.out (by have := HBL.out; rw [List.length_append]; show bs.length + 11 ≤ _; omega) HRG.out
        have hl9 : (bs ++ [48, 48, 48, 13, 10, 13, 10, 114, 101, 115, 116] : List Int).length = bs.length + 11 := by rw [List.length_append]; rfl
        rw [hl9] at hoc
        with_reducible refine hoc.mono ?_
        rintro e w10 ⟨hB10, hp⟩
        rw [HOP.out, hl9] at hp
        obtain ⟨v10, rfl, hR10⟩ := hp
        obtain ⟨A10, c10, rfl, hc10, hC10⟩ := Kd.R_reads hR10
        have ho8 := HO7.out.step hB10
        obtain ⟨A6b, c6b, hde, hc6b, hC6⟩ := ho8.reads
        have hA6 : A6b = A6 ∧ c6b = c6 := by injection hde with h1 _ h3; exact ⟨h1.symm, h3.symm⟩
        obtain ⟨rfl, rfl⟩ := hA6
        have hbf := ho8.below
        have hn7 : (((bs.length + 11 - ([114, 101, 115, 116] : List Int).length : Nat)) : Int) = (bs.length : Int) + 7 := by
          rw [show bs.length + 11 - ([114, 101, 115, 116] : List Int).length = bs.length + 7 from rfl]
          exact Int.natCast_add _ _
        rw [hn7]
        have hal6 : (al.length : Int) ≤ 65536 := by have := HBL.out.2; omega
        have hb7 : (0 : Int) ≤ (bs.length : Int) + 7 ∧ (bs.length : Int) + 7 ≤ 9000000000000000000 := by have := HBL.out.1; omega
        have hw7 : wrap64 ((bs.length : Int) + 7) = (bs.length : Int) + 7 := w64 _ hb7.1 hb7.2
        have hw7b : IntKind.i64.wrap ((bs.length : Int) + 7) = (bs.length : Int) + 7 := w64i _ hb7.1 hb7.2
        clear hb7
        have HC10 := Lib.hid hC10
        have HC6 := Lib.hid hC6
        have HBF := Lib.hid hbf
        have HK10 := Lib.hid (show al.length ≤ c10 ∧ al.length ≤ c6b from ⟨hc10, hc6b⟩)
        clear hoc hl9 hB10 hR10 hC10 hC6 ho8 hde hbf hn7 hc10 hc6b
        go_wp2_with fail
        with_reducible refine (ambryhelp_Bytes.calls A10 c10 al A6b c6b al true w10 HC10.out HK10.out.1 HC6.out HK10.out.2 (same_bytes al)).mono ?_
        rintro e w11 ⟨rfl, hd⟩
        have HD := Aside0.mk hd
        clear hd
        go_wp2_with fail
        go_ret
        exact ⟨rfl, HBF.out.trans (HD.out.below.mono HBF.out.size)⟩
end Go.Proofs.YtdhajdgcgjbdnaaDoor.Walk
