/- A writer: what its calls write. -/
import Derived.Test.YthbapljhhglamaaFoot
import Derived.Test.YthbapljhhglamaaDrawn
import Derived.Test.YthbapljhhglamaaCodeL
import Derived.Test.YthbapljhhglamaaCodeBits
import Derived.Test.YthbapljhhglamaaGx0
import Derived.Outline
import Derived.Deep.DeepMust
set_option linter.unusedVariables false
set_option linter.unusedSimpArgs false
namespace Go.Proofs.Ythbapljhhglamaa.Code
open Go.RowKit Go.Proofs.Ythbapljhhglamaa.G Go.Proofs.YthbapljhhglamaaW.PrintWords Go.Proofs.YthbapljhhglamaaW.PrintMore Go.Proofs.Ythbapljhhglamaa.Foot Go.Proofs.Ythbapljhhglamaa.CodeL

/-- A row of bytes that grows beside a block p. -/
def Wr (p : Nat) (l : List Int) : HP := fun w F => F p ∧ (∀ k, F k → k < w.heap.size) ∧ ∃ v, w.heap[p]? = some (.cells #[v] 60 (0, 0)) ∧ Kd.R (Kd.int .u8) 5 w 0 (fun k => F k ∧ k ≠ p) v l
instance {p : Nat} {l : List Int} : Firm (Wr p l) where
  move := by
    rintro w w' F ⟨hp, hl, v, hb, hR⟩ hm
    exact ⟨hp, fun k hk => lt_of_same (hm k hk) (hl k hk), v, (hm p hp).trans hb, Kd.R_move hR (fun k hk => hm k hk.1)⟩
  lt := fun h => h.2.1
/-- The same, in the middle of a call. -/
def WrI (p : Nat) (l : List Int) (w : World) (F : Nat → Prop) (wr : World) : Prop := Keeps F w wr ∧ F p ∧ ∃ v, wr.heap[p]? = some (.cells #[v] 60 (0, 0)) ∧ Kd.R (Kd.int .u8) 5 wr 0 (fun k => (F k ∨ w.heap.size ≤ k) ∧ k ≠ p) v l
theorem Wr.begin {p : Nat} {l : List Int} {w : World} {F : Nat → Prop} (h : Wr p l w F) : WrI p l w F w ∧ p < w.heap.size := by
  obtain ⟨hp, hl, v, hb, hR⟩ := h
  exact ⟨⟨Keeps.refl F w, hp, v, hb, Kd.R_mono hR (fun k hk => ⟨.inl hk.1, hk.2⟩)⟩, hl p hp⟩
def WrE (p : Nat) (l : List Int) (w : World) (F : Nat → Prop) (w' : World) : Prop := ∃ F', Wr p l w' F' ∧ (∀ k, F' k → F k ∨ w.heap.size ≤ k) ∧ Keeps F w w'
theorem WrI.done {p : Nat} {l : List Int} {w wr : World} {F : Nat → Prop} (h : WrI p l w F wr) : WrE p l w F wr := by
  obtain ⟨hk, hp, v, hb, hR⟩ := h
  refine ⟨fun k => (F k ∨ w.heap.size ≤ k) ∧ k < wr.heap.size, ⟨⟨.inl hp, blk_lt hb⟩, fun k hk => hk.2, v, hb, Kd.R_mono (Kd.R_bound hR) (fun k hk => ⟨⟨hk.1.1, hk.2.2.1⟩, hk.1.2⟩)⟩, fun k hk => hk.1, hk⟩
theorem WrE.again {p : Nat} {l : List Int} {w w' : World} {F : Nat → Prop} (h : WrE p l w F w') (hp : F p) : WrI p l w F w' := by
  obtain ⟨F', ⟨hp', hl, v, hb, hR⟩, hF, hk⟩ := h
  exact ⟨hk, hp, v, hb, Kd.R_mono hR (fun k hk => ⟨hF k hk.1, hk.2⟩)⟩
theorem WrE.then_ {p : Nat} {m : List Int} {w w1 w2 : World} {F F1 : Nat → Prop} (hk : Keeps F w w1) (hF : ∀ k, F1 k → F k ∨ w.heap.size ≤ k) (h : WrE p m w1 F1 w2) : WrE p m w F w2 := by
  obtain ⟨F', hw, hF', hk'⟩ := h
  exact ⟨F', hw, fun k hk1 => (hF' k hk1).elim (hF k) (fun h => .inr (Nat.le_trans hk.size h)), hk.trans hk' hF⟩
theorem WrI.put {p : Nat} {w wr w3 : World} {F : Nat → Prop} {v v' : Value} {l l' : List Int} (hk : Keeps F w wr) (hp : F p) (hb : wr.heap[p]? = some (.cells #[v] 60 (0, 0)))
    (hR : Kd.R (Kd.int .u8) 5 wr 0 (fun k => (F k ∨ w.heap.size ≤ k) ∧ k ≠ p) v l) (hg : wr.grownBy w3 v.ownBlock) (hR3 : Kd.R (Kd.int .u8) 5 w3 0 (fun k => (F k ∨ w.heap.size ≤ k) ∧ k ≠ p) v' l') :
    w3.cell? ⟨p, 0, none⟩ = some v ∧ w3.frozen? ⟨p, 0, none⟩ = false ∧ WrI p l' w F (w3.setCell ⟨p, 0, none⟩ v') := by
  have hb3 : w3.heap[p]? = some (.cells #[v] 60 (0, 0)) := blk_grown hb hg (fun e => (hR.1 p e.symm).2 rfl)
  exact ⟨blk_cell hb3 0, blk_frozen hb3 0, (hk.grown hg (fun k e => (hR.1 k e).1)).setCell (.inl hp) _, hp, v', blk_put hb3 0 _ rfl, Kd.R_far hR3 (p := ⟨p, 0, none⟩) (fun k hk => hk.2) _⟩
def Bytes8 (l : List Int) : Prop := ∀ x ∈ l, 0 ≤ x ∧ x ≤ 255
set_option maxHeartbeats 2000000 in
set_option maxRecDepth 100000 in
theorem wnum (p : Nat) (l : List Int) (n : Nat) (w : World) (F : Nat → Prop) (h : Wr p l w F) (hn : n < 18446744073709551616) (hl : l.length ≤ 1000000000) :
    Calls Try.prog 12 #[.pointer (some ⟨p, 0, none⟩), .int .u64 (n : Int)] w fun e w' => e = .returned (.tuple #[]) ∧ WrE p (l ++ enc n) w F w' := by
  obtain ⟨hi, hpl⟩ := h.begin
  have HI := Aside0.mk hi
  have HN := Lib.hid hn
  have HL := Lib.hid (by have := (enc_len10 (n := n) (by omega)).2; rw [List.length_append]; omega : (l ++ enc n).length ≤ 1000000010)
  clear h hi hn hl
  go_enter Try.func12, Try.ntmps12
  go_wp2
  go_loopw [1] (fun v1 wr => ∃ (m : Nat) (acc : List Int), v1 = .int .u64 (m : Int) ∧ Aside0 (acc ++ enc m = l ++ enc n) ∧ Aside0 (m < 18446744073709551616) ∧ Aside0 (WrI p acc w F wr)) (fun v1 _ => (intOf v1).toNat)
  case atStart => exact ⟨n, l, rfl, ⟨rfl⟩, ⟨HN.out⟩, HI⟩
  case round =>
    clear HI HN
    obtain ⟨m, acc, rfl, HE, HM, HW⟩ := hrel
    obtain ⟨hk, hp, v, hb, hR⟩ := HW.out
    have hc0 : wr.cell? ⟨p, 0, none⟩ = some v := blk_cell hb 0
    have HB := Aside0.mk hb
    have HR := Aside0.mk hR
    have HK := Aside0.mk hk
    have HA := Lib.hid (by have := HL.out; rw [← HE.out, List.length_append] at this; omega : acc.length ≤ 1000000010)
    obtain ⟨A0, c0, rfl⟩ := Kd.R_slice hR
    clear hk hb hR HW
    by_cases hm : m < 128
    · go_wp2_with (first
        | ((with_reducible refine gate_builtin (b := .append) (xs := #[.tmp 24, .tmp 27]) rfl ?_); at_builtin; refine Kd.R_append (Kd.int .u8) (w0 := wr) 0 rfl (.tmp 24) (.tmp 27) 22 5 (.int .u8 0) 1 rfl Try.underlying22 info5 rfl (by decide) (by decide) (.slice A0 acc.length c0) acc _ [.int .u8 _] (fun k => (F k ∨ w.heap.size ≤ k) ∧ k ≠ p) (fun _ => False) rfl rfl rfl (fun _ hk => hk.elim) ?aF ?aO (Below.refl _ _) (Nat.zero_le _) ?aL ?_; (case aF => exact fun q hq => ⟨.inr (Nat.le_trans HK.out.size hq), by have := blk_lt HB.out; omega⟩); (case aO => exact HR.out); (case aL => have := HA.out; omega); intro v' w3 ho hb hg hat; obtain ⟨hc3, hz3, hw3⟩ := WrI.put HK.out hp HB.out HR.out hg ho; have HW3 := Aside0.mk hw3; obtain ⟨A9, c9, rfl⟩ := Kd.R_slice ho; clear ho hb hg hat hw3))
      go_end0
      refine ⟨rfl, ?_⟩
      have hE := HE.out
      rw [enc_small hm] at hE
      rw [← hE]
      have hw := HW3.out.done
      rw [List.length_append, List.length_singleton] at hw
      exact hw
    · go_wp2_with (first
        | ((with_reducible refine gate_builtin (b := .append) (xs := #[.tmp 12, .tmp 16]) rfl ?_); at_builtin; refine Kd.R_append (Kd.int .u8) (w0 := wr) 0 rfl (.tmp 12) (.tmp 16) 22 5 (.int .u8 0) 1 rfl Try.underlying22 info5 rfl (by decide) (by decide) (.slice A0 acc.length c0) acc _ [.int .u8 _] (fun k => (F k ∨ w.heap.size ≤ k) ∧ k ≠ p) (fun _ => False) rfl rfl rfl (fun _ hk => hk.elim) ?aF ?aO (Below.refl _ _) (Nat.zero_le _) ?aL ?_; (case aF => exact fun q hq => ⟨.inr (Nat.le_trans HK.out.size hq), by have := blk_lt HB.out; omega⟩); (case aO => exact HR.out); (case aL => have := HA.out; omega); intro v' w3 ho hb hg hat; obtain ⟨hc3, hz3, hw3⟩ := WrI.put HK.out hp HB.out HR.out hg ho; have HW3 := Aside0.mk hw3; obtain ⟨A9, c9, rfl⟩ := Kd.R_slice ho; clear ho hb hg hat hw3))
      go_roundw
      case rel =>
        refine ⟨m / 128, acc ++ [((m % 128 + 128 : Nat) : Int)], by go_num, ⟨?_⟩, ⟨by have := HM.out; omega⟩, ⟨?_⟩⟩
        · rw [← HE.out, enc_great hm, List.append_assoc]; rfl
        · have hw := HW3.out
          rw [List.length_append, List.length_singleton, byte_more] at hw
          exact hw
      case measure => simp [intOf]; omega
set_option maxHeartbeats 2000000 in
set_option maxRecDepth 100000 in
theorem wtext (p : Nat) (l : List Int) (A : Option Addr) (c : Nat) (b : List Int) (w : World) (F : Nat → Prop) (h : Wr p l w F) (hb : CS (Kd.int .u8) F w A b.length b) (hn : b.length ≤ 1000000) (hl : l.length ≤ 900000000) :
    Calls Try.prog 17 #[.pointer (some ⟨p, 0, none⟩), .slice A b.length c] w fun e w' => e = .returned (.tuple #[]) ∧ WrE p (l ++ encT b) w F w' := by
  have HI := Aside0.mk h
  have HC := Aside0.mk hb
  have HT := Lib.hid (by have := (enc_len10 (n := b.length) (by omega)).2; rw [List.length_append]; omega : (l ++ enc b.length).length ≤ 900000010)
  have hp := h.1
  clear h hb
  go_enter Try.func17, Try.ntmps17
  go_wp2_with fail
  refine (wnum p l b.length _ F HI.out (by omega) (by omega)).mono ?_
  rintro e w1 ⟨rfl, hE⟩
  obtain ⟨q, hq⟩ : ∃ q, l ++ enc b.length = q := ⟨_, rfl⟩
  rw [hq] at hE HT
  have HQ := Lib.hid hq
  clear hq
  obtain ⟨hk, _, v, hb, hR⟩ := hE.again hp
  have hc0 : w1.cell? ⟨p, 0, none⟩ = some v := blk_cell hb 0
  have HB := Aside0.mk hb
  have HR := Aside0.mk hR
  have HK := Aside0.mk hk
  have HC1 := Aside0.mk (HC.out _ hk)
  obtain ⟨A0, c0, rfl⟩ := Kd.R_slice hR
  clear hE hk hb hR HI
  go_wp2_with (first
        | ((with_reducible refine gate_builtin (b := .append) (xs := #[.tmp 13, .tmp 14]) rfl ?_); at_builtin; go_must (refine Kd.R_append_row (Value.int .u8) 0 (h1 := fun _ => rfl) (w0 := w1) 0 rfl (.tmp 13) (.tmp 14) 22 5 (.int .u8 0) 1 rfl Try.underlying22 info5 rfl (by decide) (.slice A0 q.length c0) q b A b.length c (fun k => (F k ∨ w.heap.size ≤ k) ∧ k ≠ p) rfl rfl ?bF ?bO ?bC (Below.refl _ _) (Nat.zero_le _) ?bL ?_); (case bF => exact fun q hq => ⟨.inr (Nat.le_trans HK.out.size hq), by have := blk_lt HB.out; omega⟩); (case bO => exact HR.out); (case bC => exact HC1.out); (case bL => have := HT.out; omega); intro v' w3 ho hb hg hat; obtain ⟨hc3, hz3, hw3⟩ := WrI.put HK.out hp HB.out HR.out hg ho; have HW3 := Aside0.mk hw3; obtain ⟨A9, c9, rfl⟩ := Kd.R_slice ho; clear ho hb hg hat hw3))
  go_end0
  refine ⟨rfl, ?_⟩
  have hw := HW3.out.done
  rw [List.length_append, ← HQ.out, List.append_assoc] at hw
  rw [← HQ.out]
  exact hw
end Go.Proofs.Ythbapljhhglamaa.Code
