/- The chapter's example. -/
import Derived.Test.YthbapljhhglamaaCodeV
import Derived.Test.YthbapljhhglamaaCodeC
import Derived.Test.YthbapljhhglamaaGx1
import Derived.Lib.SlBytesConst
set_option linter.unusedVariables false
set_option linter.unusedSimpArgs false
namespace Go.Proofs.Ythbapljhhglamaa.Code
open Go.RowKit Go.Proofs.Ythbapljhhglamaa.G Go.Proofs.YthbapljhhglamaaW.PrintWords Go.Proofs.YthbapljhhglamaaW.PrintMore Go.Proofs.Ythbapljhhglamaa.Foot Go.Proofs.Ythbapljhhglamaa.CodeL Go.Proofs.Ythbapljhhglamaa.Leaf

theorem enc_300 : enc 300 = [172, 2] := by rw [enc_great (by decide), enc_small (by decide)]; rfl
theorem numS_enc {n : Nat} (h : n < 2 ^ 64) (r : List Int) : numS (some (enc n ++ r)) = (n, some r) := by unfold numS; simp only [numD_enc h]
theorem num_300 : numS (some [172, 2]) = (300, some []) := by rw [← enc_300, ← List.append_nil (enc 300)]; exact numS_enc (by decide) []
theorem num_nil : numS (some []) = (0, none) := rfl
section
variable {W w : World} {R : HP} {p : Nat} {st st' : Option (List Int)}
theorem Num_own [Firm R] {n : Nat} (hO : Own W w (star (Rd p st) R)) (h : numS st = (n, st')) : Calls Try.prog 15 #[.pointer (some ⟨p, 0, none⟩)] w fun e w' => e = .returned (.int .u64 (n : Int)) ∧ Own W w' (star (Rd p st') R) :=
  hO.frame fun F hp hF => (Num_calls p st w F hp).mono fun e w' ⟨he, hr⟩ => by
    rw [h] at he hr
    exact ⟨he, hr.frame hp.1⟩
theorem Done_own (hO : Own W w (star (Rd p st) R)) : Calls Try.prog 16 #[.pointer (some ⟨p, 0, none⟩)] w fun e w' => e = .returned (.int .i64 (doneS st)) ∧ w' = w := hO.look fun F hp hF => Done_calls p st w F hp
theorem rd_split {α : Type} {d : Kd α} {e : Nat} {v : Value} {l : List α} {w w' : World} {F : Nat → Prop} (hp : F p) (hF : ∀ k, F k → k < w.heap.size) (hR : d.R e w' 0 (fun k => w.heap.size ≤ k) v l) (h : RdF p st' w F w') :
    ∃ F', star (row d e v l) (Rd p st') w' F' ∧ (∀ k, F' k → F k ∨ w.heap.size ≤ k) ∧ Keeps F w w' :=
  ⟨_, ⟨fun k => w.heap.size ≤ k ∧ k < w'.heap.size, F, rfl, ⟨Kd.R_mono (Kd.R_bound hR) (fun k hk => ⟨hk.1, hk.2.2.1⟩), fun k hk => hk.2⟩, h.1, fun k a b => by have := hF k b; omega⟩, fun k hk => hk.elim (fun h => .inr h.1) .inl, h.2.mono (fun k hk => .inl (hk ▸ hp))⟩
theorem Text_own [Firm R] {b : List Int} (hO : Own W w (star (Rd p st) R)) (h : textS st = (b, st')) (hl : ∀ xs, st = some xs → xs.length ≤ 1000000000) :
    Calls Try.prog 19 #[.pointer (some ⟨p, 0, none⟩)] w fun e w' => ∃ A c, e = .returned (.slice A b.length c) ∧ b.length ≤ c ∧ Kd.C (Kd.int .u8) w' A b.length b ∧ Own W w' (star (row (Kd.int .u8) 5 (.slice A b.length c) b) (star (Rd p st') R)) := by
  refine (hO.frameV (Post := fun v => star (row (Kd.int .u8) 5 v b) (Rd p st')) fun F hp hF => (Text_calls p st w F hp hl).mono fun e w' ⟨v, he, hv, hr⟩ => by
    rw [h] at hv hr
    exact ⟨v, he, rd_split hp.1 hp.2.1 hv hr⟩).mono ?_
  rintro e w' ⟨v, rfl, ho⟩
  obtain ⟨A, c, rfl, hl, hC⟩ := ho.assoc.reads
  exact ⟨A, c, rfl, hl, hC, ho.assoc⟩
theorem Fields_own [Firm R] {b : List (S66)} (hO : Own W w (star (Rd p st) R)) (h : fieldsS st = (b, st')) (hl : ∀ xs, st = some xs → xs.length ≤ 1000000000) :
    Calls Try.prog 24 #[.pointer (some ⟨p, 0, none⟩)] w fun e w' => ∃ A c, e = .returned (.slice A b.length c) ∧ b.length ≤ c ∧ Kd.C k66 w' A b.length b ∧ Own W w' (star (row k66 66 (.slice A b.length c) b) (star (Rd p st') R)) := by
  refine (hO.frameV (Post := fun v => star (row k66 66 v b) (Rd p st')) fun F hp hF => (Fields_calls p st w F hp hl).mono fun e w' ⟨v, he, hv, hr⟩ => by
    rw [h] at hv hr
    exact ⟨v, he, rd_split hp.1 hp.2.1 hv hr⟩).mono ?_
  rintro e w' ⟨v, rfl, ho⟩
  obtain ⟨A, c, rfl, hl, hC⟩ := ho.assoc.reads
  exact ⟨A, c, rfl, hl, hC, ho.assoc⟩
theorem NewReader_own [Firm R] (A : Option Addr) (c : Nat) (b : List Int) (hO : Own W w R) (hC : Kd.C (Kd.int .u8) w A b.length b) (h8 : Bytes8 b) (hl : b.length ≤ 1000000000) :
    Calls Try.prog 14 #[.slice A b.length c] w fun e w' => ∃ q, e = .returned (.pointer (some ⟨q, 0, none⟩)) ∧ Below w.heap.size w w' ∧ Own W w' (star (Rd q (some b)) R) :=
  (NewReader_calls A c b w hC h8 hl).mono fun e w' ⟨q, he, hB, F', hRd, hF'⟩ => ⟨q, he, hB, hO.add hB hRd hF'⟩
theorem NewWriter_own [Firm R] (hO : Own W w R) : Calls Try.prog 11 #[] w fun e w' => e = .returned (.pointer (some ⟨w.heap.size, 0, none⟩)) ∧ Own W w' (star (Wr w.heap.size []) R) :=
  (NewWriter_calls w).mono fun e w' ⟨he, hB, hW⟩ => ⟨he, hO.add hB hW (fun k hk => by omega)⟩
theorem wnum_own [Firm R] (l : List Int) (n : Nat) (hO : Own W w (star (Wr p l) R)) (hn : n < 18446744073709551616) (hl : l.length ≤ 1000000000) :
    Calls Try.prog 12 #[.pointer (some ⟨p, 0, none⟩), .int .u64 (n : Int)] w fun e w' => e = .returned (.tuple #[]) ∧ Own W w' (star (Wr p (l ++ enc n)) R) :=
  hO.frame fun F h hF => wnum p l n w F h hn hl
theorem wtext_own [Firm R] (l : List Int) (A : Option Addr) (c : Nat) (b : List Int) (hO : Own W w (star (Wr p l) R)) (hb : Kd.C (Kd.int .u8) W A b.length b) (hn : b.length ≤ 1000000) (hl : l.length ≤ 900000000) :
    Calls Try.prog 17 #[.pointer (some ⟨p, 0, none⟩), .slice A b.length c] w fun e w' => e = .returned (.tuple #[]) ∧ Own W w' (star (Wr p (l ++ encT b)) R) :=
  have hB := hO.below
  hO.frame fun F h hF => wtext p l A c b w F h (CS.of_arg hb hB hF) hn hl
theorem wfields_own [Firm R] (l : List Int) (A : Option Addr) (c : Nat) (fs : List (S66)) (hO : Own W w (star (Wr p l) R)) (hb : Kd.C k66 W A fs.length fs) (hn : fs.length ≤ 100) (hs : ∀ x ∈ fs, x.f0.size ≤ 10000 ∧ x.f1.size ≤ 10000) (hl : l.length ≤ 100000000) :
    Calls Try.prog 29 #[.pointer (some ⟨p, 0, none⟩), .slice A fs.length c] w fun e w' => e = .returned (.tuple #[]) ∧ Own W w' (star (Wr p (l ++ encS fs)) R) :=
  have hB := hO.below
  hO.frame fun F h hF => wfields p l A c fs w F h (CS.of_arg hb hB hF) hn hs hl
theorem wbytes_own [Firm R] (l : List Int) (hO : Own W w (star (Wr p l) R)) (hl : l.length ≤ 1000000000) :
    Calls Try.prog 13 #[.pointer (some ⟨p, 0, none⟩)] w fun e w' => ∃ A c, e = .returned (.slice A l.length c) ∧ l.length ≤ c ∧ Kd.C (Kd.int .u8) w' A l.length l ∧ Own W w' (star (row (Kd.int .u8) 5 (.slice A l.length c) l) (star (Wr p l) R)) :=
  (hO.look fun F h hF => wbytes p l w F h hl).mono fun e w' ⟨A, c, he, hlc, hR, hB⟩ => ⟨A, c, he, hlc, (Kd.R_reads' hR).2.2, hO.row hR hB⟩
end
set_option maxHeartbeats 1000000 in
set_option maxRecDepth 100000 in
theorem known_calls (w : World) : Calls Try.prog 8 #[] w fun e w' => e = .returned (.bool true) ∧ Below w.heap.size w w' := by
  have kc := fun (w : World) (C : Array Value) (n c : Nat) => Lib.run_convert_bytes_const (P := Try.prog) w 22 5 C n c Try.underlying22 Try.underlying5
  go_enter Try.func8, Try.ntmps8
  go_wp2_with fail
  refine (NewWriter_calls _).mono ?_
  rintro e w1 ⟨rfl, hB, hW⟩
  have HO := Aside0.mk ((Own.start w).add hB hW (fun k hk => by omega))
  clear hB hW
  go_wp2_with fail
  refine (HO.out.frame (fun F h hF => wnum w.heap.size [] 300 w1 F h (by decide) (by decide))).mono ?_
  rintro e w2 ⟨rfl, ho⟩
  rw [List.nil_append, enc_300] at ho
  have HO := Aside0.mk ho
  clear ho
  go_wp2_with fail
  refine (HO.out.look (fun F h hF => wbytes w.heap.size [172, 2] w2 F h (by decide))).mono ?_
  rintro e w3 ⟨A3, c3, rfl, hl3, hR3, hB3⟩
  have HC3 := Aside0.mk (Kd.R_reads' hR3).2.2
  have HO := Aside0.mk (HO.out.step hB3)
  clear hR3 hB3
  go_wp2_with fail
  refine (NewReader_calls A3 c3 [172, 2] w3 HC3.out (by unfold Bytes8; simp) (by decide)).mono ?_
  rintro e w4 ⟨q, rfl, hB4, F4, hRd, hF4⟩
  have HO := Aside0.mk (HO.out.add hB4 hRd hF4)
  clear hB4 hRd hF4 HC3
  go_wp2_with fail
  refine (HO.out.swap.look (fun F h hF => wbytes w.heap.size [172, 2] w4 F h (by decide))).mono ?_
  rintro e w5 ⟨A5, c5, rfl, hl5, hR5, hB5⟩
  have HC5 := Aside0.mk (Kd.R_reads' hR5).2.2
  have HO := Aside0.mk (HO.out.step hB5)
  clear hR5 hB5
  go_wp2_with fail
  have hb6 := blk_new w5 (.cells #[.int .u8 172, .int .u8 2] 5)
  have HC6 := Aside0.mk (C_row (xs := [172, 2]) hb6 rfl (by decide))
  have HC5 := Aside0.mk (Kd.C_alloc HC5.out (.cells #[.int .u8 172, .int .u8 2] 5))
  have HO := Aside0.mk (HO.out.alloc (.cells #[.int .u8 172, .int .u8 2] 5))
  clear hb6
  refine (ambryhelp_Bytes.calls A5 c5 [172, 2] (some ⟨w5.heap.size, 0, none⟩) 2 [172, 2] true _ HC5.out hl5 HC6.out (by decide) (by unfold ambryhelp_Bytes.f; rw [beq_self_eq_true])).mono ?_
  rintro e w7 ⟨rfl, hd⟩
  have HO := Aside0.mk (HO.out.drawn hd)
  clear hd HC5 HC6
  go_wp2_with fail
  refine (Num_own HO.out num_300).mono ?_
  rintro e w8 ⟨rfl, ho⟩
  have HO := Aside0.mk ho
  clear ho
  go_wp2_with fail
  refine (Done_own HO.out).mono ?_
  rintro e w9 ⟨rfl, rfl⟩
  have hd0 : doneS (some []) = 0 := rfl
  go_wp2_with fail
  refine (Num_own HO.out num_nil).mono ?_
  rintro e w10 ⟨rfl, ho⟩
  have HO := Aside0.mk ho
  clear ho
  go_wp2_with fail
  refine (Done_own HO.out).mono ?_
  rintro e w11 ⟨rfl, rfl⟩
  have hd1 : doneS none = 20 := rfl
  go_wp2_with fail
  have hb12 := blk_new w11 (.cells #[.int .u8 49, .int .u8 50, .int .u8 51, .int .u8 52, .int .u8 53, .int .u8 54, .int .u8 55, .int .u8 56, .int .u8 57] 5 (9, 10))
  have HC12 := Aside0.mk (C_row (xs := [49, 50, 51, 52, 53, 54, 55, 56, 57]) hb12 rfl (by decide))
  have HO := Aside0.mk (HO.out.alloc (.cells #[.int .u8 49, .int .u8 50, .int .u8 51, .int .u8 52, .int .u8 53, .int .u8 54, .int .u8 55, .int .u8 56, .int .u8 57] 5 (9, 10)))
  clear hb12
  refine (code_crc (some ⟨w11.heap.size, 0, none⟩) 9 [49, 50, 51, 52, 53, 54, 55, 56, 57] _ HC12.out (by simp)).mono ?_
  rintro e w13 ⟨rfl, rfl⟩
  have hck := crc_known
  go_wp2
  go_ret
  exact ⟨rfl, HO.out.below⟩
end Go.Proofs.Ythbapljhhglamaa.Code
