/- A slice's entries, the last one first: what the library's iterator hands to a loop. -/
import Derived.Test.YtafpaomcmjccaaaDirW
import Derived.Test.YtafpaomcmjccaaaRnd
import Derived.RangeFuncNested
import Derived.RangeFuncBound
import Derived.RangeFuncCalls
import Derived.RangeFuncLeaves
import Derived.RangeFuncBox
import Derived.RangeFuncWrites
import Derived.Shelf.Abstract
import Derived.Shelf.RegionOpen
import Derived.WalkKit
import Derived.OwnWalkIn
import Derived.TacticsInMore
import Derived.LoopNIn
import Derived.LoopIn
set_option linter.unusedVariables false
set_option linter.unusedSimpArgs false
namespace Go.Proofs.Ytafpaomcmjccaaa.Dir
open Go.RowKit Go.Shelf Go.Proofs.Ytafpaomcmjccaaa.G Go.Proofs.YtafpaomcmjccaaaW.PrintWords Go.Proofs.YtafpaomcmjccaaaW.PrintMore Go.Proofs.Ytafpaomcmjccaaa.Foot
attribute [local go_sem] Oper.semAt_some

/-- Blocks below n0 stand as they stood, but for one. -/
def Kc (P n0 : Nat) (W W' : World) : Prop := W.heap.size ≤ W'.heap.size ∧ ∀ k, k < n0 → k ≠ P → W'.heap[k]? = W.heap[k]?
theorem kc_t {P n0 : Nat} {A B C : World} (h : Kc P n0 A B) (k : Kc P n0 B C) : Kc P n0 A C := ⟨Nat.le_trans h.1 k.1, fun i hi hp => (k.2 i hi hp).trans (h.2 i hi hp)⟩
theorem kc_b {P n0 : Nat} {w : World} (hn : n0 ≤ w.heap.size) (W : World) (l : Nat) (o o' : Obj) (hl : w.heap.size ≤ l) (h : W.heap[l]? = some o) (_ : o.isCells = false) (_ : o.isWalk = false) : Kc P n0 W (W.putObj l o') :=
  ⟨by simp, fun k hk _ => World.putObj_heap_other (by omega)⟩
theorem grown_drew (W : World) : W.grownBy W.drew none := ⟨rfl, rfl, rfl, Nat.le_refl _, fun _ _ _ => rfl⟩
theorem C_kc {P n0 : Nat} {W W' : World} {A : Option Addr} {xs : List S55} (h : dE.C W A xs) (hk : Kc P n0 W W') (hA : ∀ ad, A = some ad → ad.block < n0 ∧ ad.block ≠ P) : dE.C W' A xs := fun hp => by
  obtain ⟨ad, rfl, hc⟩ := h hp
  refine ⟨ad, rfl, fun j u hu => ?_⟩
  obtain ⟨h1, h2⟩ := hA ad rfl
  have := hc j u hu
  have hb : (ad.add j).block = ad.block := by unfold Addr.add; split <;> rfl
  have hh := hk.2 (ad.add j).block (by rw [hb]; exact h1) (by rw [hb]; exact h2)
  rw [← this]
  unfold World.cell?
  rw [hh]
/-- Indices, from the last one down. -/
def downs (n k : Nat) : List Nat := (List.range k).map fun j => n - 1 - j
theorem downs_succ (n k : Nat) : downs n (k + 1) = downs n k ++ [n - 1 - k] := by simp [downs, List.range_succ]
theorem downs_length (n k : Nat) : (downs n k).length = k := by simp [downs]
def entV (xs : List S55) (j : Nat) : Value := .agg #[.int .u16 (rd_T55 xs (j : Int)).f0, .int .u32 (rd_T55 xs (j : Int)).f1, .int .u16 (rd_T55 xs (j : Int)).f2, .int .u64 (rd_T55 xs (j : Int)).f3]
set_option maxHeartbeats 4000000 in
set_option maxRecDepth 100000 in
/-- The iterator, at every loop body that keeps what it reads. -/
theorem back1_in (l P B n0 : Nat) (A : Option Addr) (n c : Nat) (xs : List S55) (hxn : xs.length = n) (hB : B < n0) (hP1 : B ≠ P) (hn : n ≤ 100000) (hA : ∀ ad, A = some ad → ad.block < n0 ∧ ad.block ≠ P) (J Jx : List Nat → World → Prop)
    (hY : ∀ pre x W, J pre W → pre.length < n → x < n → YieldAt Fence.wide (5 - 1) Try.prog l #[.int .i64 (x : Int), entV xs x] W fun e W' =>
      (e = .returned (.bool true) ∧ J (pre ++ [x]) W' ∧ Kc P n0 W W') ∨ (e = .returned (.bool false) ∧ Jx (pre ++ [x]) W'))
    (W : World) (hb1 : W.heap[B]? = some (.cells #[.slice A n c] 45 (0, 0))) (hC : dE.C W A xs) (h0 : J [] W) (hdr : ∀ pre W, J pre W → J pre W.drew) :
    CallsIn Fence.wide 5 Try.prog 52 #[.func (.yield l) #[] #[], .pointer (some ⟨B, 0, none⟩)] W fun e W' => (∃ v, e = .returned v) ∧
      ((∃ ys, ys = downs n n ∧ J ys W') ∨ (∃ pre, (∃ k, k ≤ n ∧ pre = downs n k) ∧ Jx pre W')) := by
  have HY := Lib.hid hY
  have HB1 := Lib.hid hb1
  have HC := Aside0.mk hC
  have HA := Lib.hid hA
  have HXN := Lib.hid hxn
  have h1 := blk_cell hb1 0
  clear hb1 hY hC hA hdr hxn
  refine callsIn_of_wp Try.func52 rfl trivial ?_ rfl
  simp only [Try.ntmps52, List.size_toArray, List.length_cons, List.length_nil, Nat.reduceAdd, Nat.reduceSub, Array.replicate_succ, Array.replicate_zero, List.push_toArray, List.append_toArray, List.nil_append, List.cons_append]
  gi_wp2
  gi_loopw [3] (fun i wr => ∃ k : Nat, i = .int .i64 ((n : Int) - 1 - (k : Int)) ∧ k ≤ n ∧ J (downs n k) wr ∧ wr.heap[B]? = some (.cells #[.slice A n c] 45 (0, 0)) ∧ Aside0 (dE.C wr A xs))
    (fun i _ => (intOf i + 1).toNat)
  case atStart => exact ⟨0, by simp, Nat.zero_le _, h0, HB1.out, HC⟩
  case round =>
    obtain ⟨k, rfl, hk, hJ, hb1, HCr⟩ := hrel
    have HBR1 := Lib.hid hb1
    have hc1 : wr.cell? ⟨B, 0, none⟩ = some (.slice A n c) := blk_cell hb1 0
    have HJ := Aside0.mk hJ
    clear h1 hb1 hJ h0
    by_cases hlt : k < n
    · obtain ⟨i, hi⟩ : ∃ i, n - 1 - k = i := ⟨_, rfl⟩
      have hii : (n : Int) - 1 - (k : Int) = (i : Int) := by omega
      rw [hii]
      have hin : i < n := by omega
      have hj0 : (0 : Int) ≤ (i : Int) := by omega
      have hj1 : (i : Int) < (n : Int) := by omega
      obtain ⟨ad, rfl, c0, c1, c2, c3⟩ := at_T55 (K_of_C HCr.out (by rw [HXN.out]; omega)) (i : Int) hj0 (by rw [HXN.out]; exact hj1)
      rw [Int.toNat_natCast] at c0 c1 c2 c3
      obtain ⟨fn, tmps, assign, body, hy, hR⟩ := HY.out (downs n k) i wr HJ.out (by rw [downs_length]; exact hlt) hin
      simp only [entV] at hy
      generalize rd_T55 xs (i : Int) = x at c0 c1 c2 c3 hy
      have HR := Lib.hid hR
      have HI := Lib.hid (show downs n (k + 1) = downs n k ++ [i] by rw [downs_succ, hi])
      have HII := Lib.hid (show (i : Int) - 1 = (n : Int) - 1 - ((k + 1 : Nat) : Int) by omega)
      clear hR hi hii
      gi_wp2
      refine HR.out.mono ?_
      rintro e' W3 (⟨rfl, hJ3, hk3⟩ | ⟨rfl, hJx3⟩)
      · have hb31 := (hk3.2 B (by omega) hP1).trans HBR1.out
        have hc31 : W3.cell? ⟨B, 0, none⟩ = some (.slice (some ad) n c) := blk_cell hb31 0
        have HJ3 := Aside0.mk hJ3
        have H31 := Lib.hid hb31
        have HC3 := Aside0.mk (C_kc HCr.out hk3 HA.out)
        clear hk3 hJ3 hb31
        gi_wp2
        go_roundw
        case rel => exact ⟨k + 1, by rw [← HII.out], by omega, by rw [HI.out]; exact HJ3.out, H31.out, HC3⟩
        case measure => simp [intOf]
      · have HJX := Lib.hid hJx3
        clear hJx3
        gi_wp2
        refine bodyPost_ret (results_none rfl _ _ _) rfl ?_
        exact ⟨⟨_, rfl⟩, .inr ⟨_, ⟨k + 1, hlt, HI.out.symm⟩, HJX.out⟩⟩
    · have hkn : k = n := by omega
      subst hkn
      have hii : (k : Int) - 1 - (k : Int) = -1 := by omega
      rw [hii]
      gi_wp2
      go_end0
      exact ⟨⟨_, rfl⟩, .inl ⟨_, rfl, HJ.out⟩⟩
abbrev Ix (n : Nat) := { x : Nat // x < n }
theorem back_stops (P B n0 : Nat) (A : Option Addr) (n c : Nat) (xs : List S55) (hxn : xs.length = n) (hB : B < n0) (hP1 : B ≠ P) (hn : n ≤ 100000) (hA : ∀ ad, A = some ad → ad.block < n0 ∧ ad.block ≠ P) (w : World) (hw : n0 ≤ w.heap.size)
    (hb1 : w.heap[B]? = some (.cells #[.slice A n c] 45 (0, 0))) (hC : dE.C w A xs) :
    SeqStopsK Fence.wide 5 Try.prog 52 #[.pointer (some ⟨B, 0, none⟩)] (fun x : Ix n => #[.int .i64 (x.1 : Int), entV xs x.1]) (Kc P n0)
      (fun ys => ys.map (·.1) = downs n n) (fun pre => ∃ k, k ≤ n ∧ pre.map (·.1) = downs n k) n w := fun l J Jx W hW hJ hJx hY h0 => by
  refine (back1_in l P B n0 A n c xs hxn hB hP1 hn hA (fun pre W => ∃ p : List (Ix n), p.map (·.1) = pre ∧ J p W) (fun pre W => ∃ p : List (Ix n), p.map (·.1) = pre ∧ Jx p W) ?_ W
    ((hW.block B (blk_lt hb1)).trans hb1) (Fl.C_below hC hW) ⟨[], rfl, h0⟩ ?_).mono ?_
  · rintro pre x W1 ⟨p, rfl, hp⟩ hl hx
    obtain ⟨fn, tmps, assign, body, hy, hR⟩ := hY p ⟨x, hx⟩ W1 hp (by simpa using hl)
    refine ⟨fn, tmps, assign, body, hy, hR.mono ?_⟩
    rintro e W' (⟨he, hj, hk⟩ | ⟨he, hj⟩)
    · exact .inl ⟨he, ⟨_, by simp, hj⟩, hk⟩
    · exact .inr ⟨he, _, by simp, hj⟩
  · rintro pre W1 ⟨p, hp, hj⟩
    exact ⟨p, hp, hJ p W1 W1.drew none hj (grown_drew W1) (fun r e => by cases e)⟩
  · rintro e W' ⟨he, ⟨ys, rfl, p, hp, hj⟩ | ⟨pre, ⟨k, hkn, rfl⟩, p, hp, hj⟩⟩
    · exact ⟨he, .inl ⟨p, hp, hj⟩⟩
    · exact ⟨he, .inr ⟨p, ⟨k, hkn, hp⟩, hj⟩⟩
theorem Backward_calls (w : World) (v : Value) (hv : ∃ A n c, v = .slice A n c) : Calls Try.prog 39 #[v] w fun e w' => e = .returned (.func (.func 52) #[] #[.pointer (some ⟨w.heap.size, 0, none⟩)]) ∧ w' = w.alloc (.cells #[v] 45) := by
  have hmf : ∀ (fn : Fn) (first cap : Array Value) (w : World), (Instr.makeFunc fn first cap).run Try.prog w = .ok (.func fn first cap) w := fun _ _ _ _ => rfl
  obtain ⟨A, n, c, rfl⟩ := hv
  go_enter Try.func39, Try.ntmps39
  go_wp2
  go_ret
  exact ⟨rfl, rfl⟩
/-- What lies in a block of cells stays through the machinery's own steps. -/
theorem cells_own {B k e : Nat} {C : Array Value} {fr : Nat × Nat} {W W' : World} {row : Option Nat} (hk : W.heap[k]? = some (.cells C e fr)) (hg : W.grownBy W' row) (hr : ∀ r, row = some r → B ≤ r ∧ ∃ o : Obj, W.heap[r]? = some o ∧ o.isCells = false) : W'.heap[k]? = some (.cells C e fr) := by
  refine (hg.block k (blk_lt hk) (fun e2 => ?_)).trans hk
  obtain ⟨_, o, ho, hc⟩ := hr k e2.symm
  rw [hk] at ho
  cases ho
  cases hc
theorem R_own_step {B base : Nat} {v : Value} {xs : List S55} {W W' : World} {row : Option Nat} (h : dE.R 55 W base v xs) (hg : W.grownBy W' row) (hr : ∀ r, row = some r → B ≤ r ∧ ∃ o : Obj, W.heap[r]? = some o ∧ o.isCells = false) : dE.R 55 W' base v xs :=
  Fl.R_move h (fun k hk => by
    obtain ⟨cells, hc⟩ := own_typed h k hk
    rw [cells_own hc hg hr, hc])
end Go.Proofs.Ytafpaomcmjccaaa.Dir
