/- Any text as a chunk's length is taken, or refused, as the document says. -/
import Derived.Test.YtdhajdgcgjbdnaaDoorChunkJ
import Derived.Test.YtdhajdgcgjbdnaaDoorChunkK
import Derived.Test.YtdhajdgcgjbdnaaDoorMarks
import Derived.Test.YtdhajdgcgjbdnaaDoorGx2
import Derived.Test.YtdhajdgcgjbdnaaDoorGx7
import Derived.OpenShut
set_option linter.unusedVariables false
set_option linter.unusedSimpArgs false
namespace Go.Proofs.YtdhajdgcgjbdnaaDoor.Walk
open Go.RowKit Go.Proofs.YtdhajdgcgjbdnaaDoor.G Go.Proofs.YtdhajdgcgjbdnaaDoorW.PrintWords Go.Proofs.YtdhajdgcgjbdnaaDoorW.PrintMore Go.Proofs.YtdhajdgcgjbdnaaDoor.Foot Go.Proofs.YtdhajdgcgjbdnaaDoor.Plain Go.Proofs.YtdhajdgcgjbdnaaDoor.Chunk Go.Proofs.YtdhajdgcgjbdnaaDoor.Marks

theorem same_bytesL (l : List Int) : ambryhelp_Bytes.f l l = some true := by
  unfold ambryhelp_Bytes.f
  simp
set_option maxHeartbeats 4000000 in
set_option maxRecDepth 100000 in
theorem ChunkLines (W : World) (htz : Tz W) (a0 : ByteArray) (A1 : Option Addr) (c1 : Nat) (l1 : List Int) (w0 : a0.size ≤ 140737488351232) (hr1 : Kd.C (Kd.int .u8) W A1 l1.length l1) (hc1 : l1.length ≤ c1) (g1 : ∀ x ∈ l1, (Lit.int .u8 x).wf = true) :
    Calls Tryd.prog 6 #[.string a0, .slice A1 l1.length c1] W fun e w' => e = .returned (.bool true) ∧ Below W.heap.size W w' := by
  have h8 : ∀ x ∈ l1, 0 ≤ x ∧ x ≤ 255 := fun x hx => by
    have := bounds_u8 (g1 x hx)
    omega
  have H8 := Lib.hid h8
  have HR1 := Lib.hid hr1
  have HC1 := Lib.hid hc1
  have HT := Lib.hid htz
  have kc := fun (w : World) (s : ByteArray) => Lib.run_convert_string_bytes (P := Tryd.prog) w 9 22 5 s Tryd.underlying9 Tryd.underlying22 Tryd.underlying5
  clear h8 g1 hr1 hc1 htz
  go_enter Tryd.func6, Tryd.ntmps6
  go_wp2_with fail
  with_reducible refine (known_calls W HT.out).mono ?_
  rintro e w1 ⟨rfl, hB⟩
  have HB := Aside0.mk hB
  clear hB
  by_cases q0 : 1100 < a0.size
  · have p0 : (1100 : Int) < (a0.size : Int) := by omega
    go_wp2_with fail
    go_ret
    exact ⟨rfl, HB.out⟩
  have p0 : decide ((1100 : Int) < (a0.size : Int)) = false := decide_eq_false (by omega)
  by_cases q1 : 300 < l1.length
  · have p1 : (300 : Int) < (l1.length : Int) := by omega
    go_wp2_with fail
    go_ret
    exact ⟨rfl, HB.out⟩
  have p1 : decide ((300 : Int) < (l1.length : Int)) = false := decide_eq_false (by omega)
  have hq0 : a0.size ≤ 1100 := by omega
  have HQ := Lib.hid (show l1.length ≤ 300 by omega)
  clear q0 q1
  obtain ⟨s, hs⟩ : ∃ s, a0 ++ (⟨#[13, 10]⟩ : ByteArray) = s := ⟨_, rfl⟩
  have hss : s.size = a0.size + 2 := by rw [← hs, ByteArray.size_append]; rfl
  have hm1 := conv_row w1 W.heap.size 5 s HB.out.size (by omega)
  have HB2 := Aside0.mk (HB.out.trans (conv_below w1 W.heap.size 5 s HB.out.size))
  have HM1 := Lib.hid hm1
  have HSS := Lib.hid (show (bytesOf s).length = s.size ∧ s.size ≤ 1102 from ⟨bytesOf_length s, by omega⟩)
  have HSR := Lib.hid (bytes_range s)
  have HC1b := Aside0.mk (Kd.C_below HR1.out HB2.out)
  clear hm1 hss w0
  have hlen : (bytesOf s ++ l1 ++ bytesOf ⟨#[13, 10, 48, 13, 10, 13, 10]⟩).length ≤ 2000 := by
    rw [List.length_append, List.length_append]
    have h1 := HSS.out
    have h2 := HQ.out
    show _ + 7 ≤ _
    omega
  have hrng : ∀ c ∈ bytesOf s ++ l1 ++ bytesOf ⟨#[13, 10, 48, 13, 10, 13, 10]⟩, 0 ≤ c ∧ c ≤ 255 := by
    intro c hc
    rw [List.mem_append, List.mem_append] at hc
    rcases hc with (hc | hc) | hc
    · exact HSR.out c hc
    · exact H8.out c hc
    · exact bytes_range _ c hc
  obtain ⟨cl, hcl⟩ : ∃ cl, bytesOf s ++ l1 ++ bytesOf ⟨#[13, 10, 48, 13, 10, 13, 10]⟩ = cl := ⟨_, rfl⟩
  rw [hcl] at hlen hrng
  have HCL := Lib.hid hcl
  have HLN := Lib.hid hlen
  have HRG := Lib.hid hrng
  clear hcl hlen hrng
  go_wp2_with (first
    | ((with_reducible refine gate_builtin (b := .append) (xs := #[.tmp 24, .tmp 25]) rfl ?_); at_builtin; go_must (refine append_m_row W.heap.size rfl (.tmp 24) (.tmp 25) 22 5 rfl Tryd.underlying22 info5 (.slice (some ⟨w1.heap.size, 0, none⟩) s.size (grownCap w1 s.size 0 5)) (bytesOf s) l1 A1 l1.length c1 rfl rfl HM1.out HC1b.out HB2.out.size ?cL ?_); (case cL => have := HSS.out; have := HQ.out; omega); intro v2 w2 hm2 hb2; have HB3 := Aside0.mk (HB2.out.trans hb2); have HM2 := Lib.hid hm2; clear hm2 hb2)
    | ((with_reducible refine gate_builtin (b := .append) (xs := #[.tmp 27, .const (.string ⟨#[13, 10, 48, 13, 10, 13, 10]⟩)]) rfl ?_); at_builtin; go_must (refine append_m_str W.heap.size rfl (.tmp 27) (.const (.string ⟨#[13, 10, 48, 13, 10, 13, 10]⟩)) 22 9 5 rfl Tryd.underlying22 Tryd.underlying9 info5 v2 (bytesOf s ++ l1) ⟨#[13, 10, 48, 13, 10, 13, 10]⟩ rfl rfl HM2.out HB3.out.size ?cL ?_); (case cL => have := HSS.out; have := HQ.out; rw [List.length_append]; show _ + 7 ≤ _; omega); intro v3 w3 hm3 hb3; have HB4 := Aside0.mk (HB3.out.trans hb3); rw [HCL.out] at hm3; obtain ⟨A3, c3, rfl, hc3, hC3⟩ := hm3.reads; have HC3 := Aside0.mk hC3; have HCC := Lib.hid hc3; clear hm3 hb3 hC3 hc3)
    | fail)
  with_reducible refine (open_calls A3 c3 cl w3 HC3.out HCC.out (by have := HLN.out; omega) HRG.out).mono ?_
  rintro e w4 ⟨hb4, hp⟩
  have hu : ∃ (v : Value) (o : List Int) (n f : Int), e = .returned (.tuple #[v, .int .i64 n, .int .i64 f]) ∧ Rw w4 w3.heap.size v o ∧ csR cl.length (openG cl) = (o, n, f) := by
    cases hg : openG cl with
    | ok x =>
      obtain ⟨o, r⟩ := x
      rw [hg] at hp
      obtain ⟨v, rfl, hR⟩ := hp
      exact ⟨v, o, _, _, rfl, hR, rfl⟩
    | bad f =>
      rw [hg] at hp
      subst hp
      exact ⟨_, [], _, _, rfl, Kd.R_nil _ _ _ _ _, rfl⟩
  obtain ⟨v4, o, n, f, rfl, hR4, hcs⟩ := hu
  obtain ⟨k, hk⟩ := (chunks_ev cl (by have := HLN.out; omega) HRG.out).rounds
  rw [hcs] at hk
  have HKK := Lib.hid hk
  obtain ⟨A4, c4, rfl, hc4, hC4⟩ := Kd.R_reads hR4
  have HC4 := Aside0.mk hC4
  have HK4 := Lib.hid hc4
  have HB5 := Aside0.mk (HB4.out.trans (hb4.mono HB4.out.size))
  have HC5 := Aside0.mk (Kd.C_below HC3.out hb4)
  clear hp hcs hk hR4 hC4 hc4 hb4
  go_wp2_with fail
  with_reducible refine (ambryref10_Chunks.calls k A3 c3 cl o n f w4 HC5.out HCC.out HKK.out).mono ?_
  rintro e w5 ⟨v5, rfl, hR5, hb5⟩
  obtain ⟨A5, c5, rfl, hc5, hC5⟩ := Kd.R_reads hR5
  have HC6 := Aside0.mk hC5
  have HK5 := Lib.hid hc5
  have HB6 := Aside0.mk (HB5.out.trans (hb5.mono HB5.out.size))
  have HC7 := Aside0.mk (Kd.C_below HC4.out hb5)
  clear hR5 hC5 hc5 hb5
  go_wp2_with fail
  with_reducible refine (ambryhelp_Bytes.calls A4 c4 o A5 c5 o true w5 HC7.out HK4.out HC6.out HK5.out (same_bytesL o)).mono ?_
  rintro e w6 ⟨rfl, hd⟩
  have HD := Aside0.mk hd
  clear hd
  go_wp2_with fail
  go_ret
  exact ⟨rfl, HB6.out.trans (HD.out.below.mono HB6.out.size)⟩
end Go.Proofs.YtdhajdgcgjbdnaaDoor.Walk
