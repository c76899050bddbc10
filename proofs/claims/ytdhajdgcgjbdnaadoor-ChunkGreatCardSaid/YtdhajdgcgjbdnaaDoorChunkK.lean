/- The chapter's example. -/
import Derived.Test.YtdhajdgcgjbdnaaDoorChunkRd
import Derived.Test.YtdhajdgcgjbdnaaDoorChunkBy
import Derived.Lib.SlBytesConst
set_option linter.unusedVariables false
set_option linter.unusedSimpArgs false
namespace Go.Proofs.YtdhajdgcgjbdnaaDoor.Chunk
open Go.RowKit Go.Proofs.YtdhajdgcgjbdnaaDoor.G Go.Proofs.YtdhajdgcgjbdnaaDoorW.PrintWords Go.Proofs.YtdhajdgcgjbdnaaDoorW.PrintMore Go.Proofs.YtdhajdgcgjbdnaaDoor.Foot Go.Proofs.YtdhajdgcgjbdnaaDoor.Plain

def k1 : List Int := [51, 13, 10, 97, 98, 99, 13, 10, 48, 13, 10, 13, 10]
def k2 : List Int := [122, 122, 13, 10]
def k3 : List Int := [51, 13, 10, 97, 98]
def k4 : List Int := [97, 98, 99]
theorem open_k1 : openG k1 = .ok ([97, 98, 99], []) := by kernel_rfl
theorem open_k2 : openG k2 = .bad 94 := by kernel_rfl
theorem open_k3 : openG k3 = .bad 92 := by kernel_rfl
theorem enc_k4 : encS k4 2 (starts 2 2) ++ [48, 13, 10, 13, 10] = [50, 13, 10, 97, 98, 13, 10, 49, 13, 10, 99, 13, 10, 48, 13, 10, 13, 10] := by kernel_rfl
theorem open_lit (L : List Int) (m : Nat) (hm : L.length = m) (hm2 : m ≤ 1000) (w : World) (C : Array Value) (hC : C.toList = L.map (Value.int .u8)) (hr : ∀ c ∈ L, 0 ≤ c ∧ c ≤ 255) :
    Calls Tryd.prog 10 #[.slice (some ⟨w.heap.size, 0, none⟩) m m] (w.alloc (.cells C 5 (m, m + 1))) (OpenPost L (w.alloc (.cells C 5 (m, m + 1)))) := by
  subst hm
  exact open_calls (some ⟨w.heap.size, 0, none⟩) L.length L _ (C_row (blk_new w _) hC (by omega)) (Nat.le_refl _) (by omega) hr
theorem bytes_lit (L : List Int) (m : Nat) (hm : L.length = m) (hm2 : m ≤ 1000) (w : World) (C : Array Value) (hC : C.toList = L.map (Value.int .u8)) (hT : Tz w) (P : Nat) (hP : w.heap.size + 1 = P) :
    Calls Tryd.prog 9 #[.slice (some ⟨w.heap.size, 0, none⟩) m m, .int .i64 2] (w.alloc (.cells C 5 (m, m + 1))) (BytesPost L 2 P (w.alloc (.cells C 5 (m, m + 1)))) := by
  subst hm
  exact bytes_calls (some ⟨w.heap.size, 0, none⟩) L.length 2 P 2 L _ (by rw [World.size_alloc]; exact hP) (C_row (blk_new w _) hC (by omega)) (Nat.le_refl _) (hT.below (below_alloc (Below.refl _ _) _)) (by omega) rfl (by decide)
set_option maxHeartbeats 4000000 in
set_option maxRecDepth 100000 in
theorem known_calls (w : World) (hT : Tz w) : Calls Tryd.prog 8 #[] w fun e w' => e = .returned (.bool true) ∧ Below w.heap.size w w' := by
  have kc := fun (w : World) (C : Array Value) (n c : Nat) => Lib.run_convert_bytes_const (P := Tryd.prog) w 22 5 C n c Tryd.underlying22 Tryd.underlying5
  have HT := Aside0.mk hT
  clear hT
  go_enter Tryd.func8, Tryd.ntmps8
  go_wp2_with fail
  with_reducible refine (open_lit k1 13 rfl (by decide) w #[.int .u8 51, .int .u8 13, .int .u8 10, .int .u8 97, .int .u8 98, .int .u8 99, .int .u8 13, .int .u8 10, .int .u8 48, .int .u8 13, .int .u8 10, .int .u8 13, .int .u8 10] rfl (by decide)).mono ?_
  rintro e w1 ⟨hb1, hp1⟩
  rw [open_k1] at hp1
  obtain ⟨v1, rfl, hR1⟩ := hp1
  obtain ⟨A1, c1, rfl⟩ := Kd.R_slice hR1
  have HB1 := Aside0.mk ((below_alloc (Below.refl _ w) (.cells #[.int .u8 51, .int .u8 13, .int .u8 10, .int .u8 97, .int .u8 98, .int .u8 99, .int .u8 13, .int .u8 10, .int .u8 48, .int .u8 13, .int .u8 10, .int .u8 13, .int .u8 10] 5 (13, 14))).trans (hb1.mono (by simp)))
  have HC1 := Aside0.mk (Kd.R_reads' hR1).2.2
  clear hb1 hR1
  rw [show k1.length - ([] : List Int).length = 13 from rfl]
  go_wp2_with fail
  with_reducible refine (open_lit k2 4 rfl (by decide) w1 #[.int .u8 122, .int .u8 122, .int .u8 13, .int .u8 10] rfl (by decide)).mono ?_
  rintro e w2 ⟨hb2, hp2⟩
  rw [open_k2] at hp2
  subst hp2
  have hb12 := (below_alloc (Below.refl _ w1) (.cells #[.int .u8 122, .int .u8 122, .int .u8 13, .int .u8 10] 5 (4, 5))).trans (hb2.mono (by simp))
  have HB2 := Aside0.mk (HB1.out.trans (hb12.mono HB1.out.size))
  have HC2 := Aside0.mk (Kd.C_below HC1.out hb12)
  clear hb2 hb12 HB1 HC1
  go_wp2_with fail
  with_reducible refine (open_lit k3 5 rfl (by decide) w2 #[.int .u8 51, .int .u8 13, .int .u8 10, .int .u8 97, .int .u8 98] rfl (by decide)).mono ?_
  rintro e w3 ⟨hb3, hp3⟩
  rw [open_k3] at hp3
  subst hp3
  have hb23 := (below_alloc (Below.refl _ w2) (.cells #[.int .u8 51, .int .u8 13, .int .u8 10, .int .u8 97, .int .u8 98] 5 (5, 6))).trans (hb3.mono (by simp))
  have HB3 := Aside0.mk (HB2.out.trans (hb23.mono HB2.out.size))
  have hC3 := Kd.C_below HC2.out hb23
  clear hb3 hb23 HB2 HC2
  have hcv := Kd.C_string (P := Tryd.prog) (c := c1) Tryd.underlying22 Tryd.underlying5 Tryd.underlying9 hC3
  rw [show ([97, 98, 99] : List Int).length = 3 from rfl, show strOfNums [97, 98, 99] = ⟨#[97, 98, 99]⟩ from rfl] at hcv
  go_wp2_with fail
  with_reducible refine (bytes_lit k4 3 rfl (by decide) w3 #[.int .u8 97, .int .u8 98, .int .u8 99] rfl (HT.out.below HB3.out) (w3.heap.size + 1) rfl).mono ?_
  rintro e w4 ⟨hb4, v4, k, rfl, hR4, hk1, hk2⟩
  obtain rfl : k = 2 := by
    have h3 : k4.length = 3 := rfl
    rw [h3] at hk1 hk2
    omega
  rw [enc_k4] at hR4
  obtain ⟨A4, c4, rfl⟩ := Kd.R_slice hR4
  have hcv4 := Kd.C_string (P := Tryd.prog) (c := c4) Tryd.underlying22 Tryd.underlying5 Tryd.underlying9 (Kd.R_reads' hR4).2.2
  rw [show ([50, 13, 10, 97, 98, 13, 10, 49, 13, 10, 99, 13, 10, 48, 13, 10, 13, 10] : List Int).length = 18 from rfl, show strOfNums [50, 13, 10, 97, 98, 13, 10, 49, 13, 10, 99, 13, 10, 48, 13, 10, 13, 10] = ⟨#[50, 13, 10, 97, 98, 13, 10, 49, 13, 10, 99, 13, 10, 48, 13, 10, 13, 10]⟩ from rfl] at hcv4
  have hbf : Below w.heap.size w w4 := HB3.out.trans ((below_alloc (Below.refl _ w3) (.cells #[.int .u8 97, .int .u8 98, .int .u8 99] 5 (3, 4))).trans (hb4.mono (by omega)) |>.mono HB3.out.size)
  have HBF := Aside0.mk hbf
  clear hbf hb4 hR4 hk1 hk2
  go_wp2_with fail
  go_ret
  exact ⟨rfl, HBF.out⟩
end Go.Proofs.YtdhajdgcgjbdnaaDoor.Chunk
