/- A sweep. -/
import Derived.Test.YtafpaomcmjccaaaDirV
set_option linter.unusedVariables false
set_option linter.unusedSimpArgs false
namespace Go.Proofs.Ytafpaomcmjccaaa.Dir
open Go.RowKit Go.Proofs.Ytafpaomcmjccaaa.G Go.Proofs.YtafpaomcmjccaaaW.PrintWords Go.Proofs.YtafpaomcmjccaaaW.PrintMore Go.Proofs.Ytafpaomcmjccaaa.Foot
def keepB (p : S55 → Bool) (b : List S55) : List S55 := b.filter fun x => !p x
def Di.purgeTo (D : Di) (p : S55 → Bool) (i : Nat) : Di := ⟨D.s, (D.L.take i).map (keepB p) ++ D.L.drop i⟩
def Di.purge (D : Di) (p : S55 → Bool) : Di := ⟨D.s, D.L.map (keepB p)⟩
def goneN (p : S55 → Bool) (L : List (List S55)) : Nat := (L.flatten.filter p).length
theorem purgeTo_zero (D : Di) (p : S55 → Bool) : D.purgeTo p 0 = D := by unfold Di.purgeTo; simp
theorem purgeTo_end (D : Di) (p : S55 → Bool) (i : Nat) (h : D.L.length ≤ i) : D.purgeTo p i = D.purge p := by
  unfold Di.purgeTo Di.purge
  rw [List.take_of_length_le h, List.drop_eq_nil_of_le h, List.append_nil]
theorem purgeTo_len (D : Di) (p : S55 → Bool) (i : Nat) (h : i ≤ D.L.length) : (D.purgeTo p i).L.length = D.L.length := by
  unfold Di.purgeTo
  simp only [List.length_append, List.length_map, List.length_take, List.length_drop]
  omega
theorem purgeTo_at (D : Di) (p : S55 → Bool) (i : Nat) (b : List S55) (h : D.L[i]? = some b) : (D.purgeTo p i).L[i]? = some b := by
  have hi := (List.getElem?_eq_some_iff.1 h).1
  unfold Di.purgeTo
  rw [List.getElem?_append_right (by simp; omega)]
  simp only [List.length_map, List.length_take, Nat.min_eq_left (Nat.le_of_lt hi), Nat.sub_self, List.getElem?_drop, Nat.add_zero]
  exact h
theorem purgeTo_succ (D : Di) (p : S55 → Bool) (i : Nat) (b : List S55) (h : D.L[i]? = some b) : layD (D.purgeTo p i) i (keepB p b) = D.purgeTo p (i + 1) := by
  obtain ⟨hi, rfl⟩ := List.getElem?_eq_some_iff.1 h
  unfold layD Di.purgeTo
  congr 1
  have hl : ((D.L.take i).map (keepB p)).length = i := by simp; omega
  rw [List.set_append_right _ _ (by omega), hl, Nat.sub_self, List.drop_eq_getElem_cons hi, List.set_cons_zero, List.take_succ_eq_append_getElem hi, List.map_append]
  simp
theorem goneN_succ (p : S55 → Bool) (L : List (List S55)) (i : Nat) (b : List S55) (h : L[i]? = some b) : goneN p (L.take (i + 1)) + (keepB p b).length = goneN p (L.take i) + b.length := by
  unfold goneN keepB
  rw [flatten_take L i b h, List.filter_append, List.length_append]
  have : ∀ c : List S55, (c.filter p).length + (c.filter fun x => !p x).length = c.length := by
    intro c
    induction c with
    | nil => rfl
    | cons x c ih =>
      rw [List.filter_cons, List.filter_cons]
      cases p x
      · simp only [Bool.false_eq_true, if_false, Bool.not_false, if_true, List.length_cons]; omega
      · simp only [if_true, Bool.not_true, Bool.false_eq_true, if_false, List.length_cons]; omega
  have := this b
  omega
theorem goneN_le (p : S55 → Bool) (L : List (List S55)) (i : Nat) : goneN p (L.take i) ≤ L.flatten.length := by
  unfold goneN
  have h1 := List.length_filter_le p (L.take i).flatten
  have h2 : L.flatten.length = ((L.take i).flatten ++ (L.drop i).flatten).length := by rw [← List.flatten_append, List.take_append_drop]
  rw [List.length_append] at h2
  omega
def PurgeI (p q r : Nat) (D : Di) (P : S55 → Bool) (w : World) (i : Nat) (wr : World) : Prop := (∃ M, DirAt wr p q r (D.purgeTo P i) M) ∧ Keeps (fun k => k = q ∨ k = r) w wr
set_option maxHeartbeats 4000000 in
set_option maxRecDepth 100000 in
theorem Purge_calls (w : World) (p q r : Nat) (D : Di) (M : List S55) (h : DirAt w p q r D M) (f t u : Int) (hf : 0 ≤ f ∧ f < 4294967296) (ht : 0 ≤ t ∧ t < 4294967296) :
    Calls Try.prog 26 #[.pointer (some ⟨p, 0, none⟩), .int .u32 f, .int .u32 t, .int .u64 u] w (DirPost p q r (D.purge (elder f t u)) (.int .i64 (goneN (elder f t u) D.L)) w) := by
  obtain ⟨H, hH⟩ : ∃ H, w.heap.size = H := ⟨_, rfl⟩
  have hx : Bxs (((w.alloc (.cells #[.int .u32 f] 37)).alloc (.cells #[.int .u32 t] 37)).alloc (.cells #[.int .u64 u] 38)) w.heap.size (w.heap.size + 1) (w.heap.size + 1 + 1) f t u := by
    obtain ⟨h1, h2, h3, _⟩ := three (w := w) (.cells #[.int .u32 f] 37) (.cells #[.int .u32 t] 37) (.cells #[.int .u64 u] 38)
    exact ⟨h1, h2, h3⟩
  have hbl : Below w.heap.size w (((w.alloc (.cells #[.int .u32 f] 37)).alloc (.cells #[.int .u32 t] 37)).alloc (.cells #[.int .u64 u] 38)) := below_alloc (below_alloc (below_alloc (Below.refl _ _) _) _) _
  have HX := Aside0.mk hx
  have HBL := Aside0.mk hbl
  have HD0 := Aside0.mk (h.below hbl)
  have hb2 := h.ok.b2
  have hs2 := h.ok.s2
  have hfl := flatten_len D.L D.s h.ok.fit
  have hsz := h.ok.size
  have HFL := Lib.hid (show D.L.flatten.length ≤ 65536 by omega)
  have hpw : p < w.heap.size ∧ q < w.heap.size ∧ r < w.heap.size := ⟨blk_lt h.box, blk_lt h.ents, blk_lt h.nums⟩
  have HPW := Lib.hid hpw
  have HF := Lib.hid hf
  have HT := Lib.hid ht
  have HOKS := Lib.hid h.ok
  clear h hx hbl hfl hsz hpw hf ht
  obtain ⟨B, hB⟩ : ∃ B, D.L.length = B := ⟨_, rfl⟩
  have c2 := HD0.out.c2
  rw [hB] at hb2 c2
  have HB := Lib.hid hB
  clear hB
  go_enter Try.func26, Try.ntmps26
  go_wp2_with fail
  generalize ((w.alloc (.cells #[.int .u32 f] 37)).alloc (.cells #[.int .u32 t] 37)).alloc (.cells #[.int .u64 u] 38) = w0 at HX HBL HD0 c2 ⊢
  rw [hH] at HX HPW
  go_loopw [9, 18] (fun v9 v18 wr => ∃ i n : Nat, v18 = .int .i64 (i : Int) ∧ v9 = .int .i64 (n : Int) ∧ i ≤ B ∧ Aside0 (goneN (elder f t u) (D.L.take i) = n) ∧ Aside0 (PurgeI p q r D (elder f t u) w0 i wr)) (fun _ v18 _ => B - (intOf v18).toNat)
  case atStart => exact ⟨0, 0, rfl, rfl, Nat.zero_le _, ⟨rfl⟩, ⟨M, by rw [purgeTo_zero]; exact HD0.out⟩, Keeps.refl _ _⟩
  case round =>
    clear c2
    obtain ⟨i, n, rfl, rfl, hi, HN, HI⟩ := hrel
    by_cases hlt : i < B
    · have hi0 : (0 : Int) ≤ (i : Int) := by omega
      have hi1 : (i : Int) < (B : Int) := by omega
      obtain ⟨b, hb⟩ : ∃ b, D.L[i]? = some b := ⟨_, List.getElem?_eq_getElem (by rw [HB.out]; exact hlt)⟩
      have hbl := HOKS.out.fit b (List.mem_of_getElem? hb)
      have HOKB := Lib.hid (HOKS.out.ok b (List.mem_of_getElem? hb))
      have HBE := Lib.hid hb
      have hg := goneN_succ (elder f t u) D.L i b hb
      have hgl := goneN_le (elder f t u) D.L (i + 1)
      have hfl := HFL.out
      rw [HN.out] at hg
      obtain ⟨n', hn'⟩ : ∃ n', goneN (elder f t u) (D.L.take (i + 1)) = n' := ⟨_, rfl⟩
      rw [hn'] at hg hgl
      have HN' := Lib.hid hn'
      obtain ⟨⟨M1, hd⟩, hk⟩ := HI.out
      have HD := Aside0.mk hd
      have HK := Aside0.mk hk
      clear hb hd hk HI hn'
      go_wp2_with fail
      with_reducible refine (bucket_calls _ p q r _ M1 HD.out i b (purgeTo_at D _ i b HBE.out)).mono ?_
      rintro e w1 ⟨rfl, hb1⟩
      have HD1 := Aside0.mk (HD.out.below hb1)
      have HK1 := Aside0.mk (HK.out.then_below hb1)
      have hC1 := HD1.out.bucketC (purgeTo_at D _ i b HBE.out)
      have HC1 := Aside0.mk hC1
      clear hb1 hC1
      go_wp2_with fail
      with_reducible refine (Clone_calls _ _ _ b HC1.out (by omega)).mono ?_
      rintro e w2 ⟨v2, rfl, hR2, hb2'⟩
      have HR2 := Aside0.mk hR2
      have HD2 := Aside0.mk (HD1.out.below hb2')
      have HK2 := Aside0.mk (HK1.out.then_below hb2')
      have hqs : q < w1.heap.size ∧ r < w1.heap.size := ⟨blk_lt HD1.out.ents, blk_lt HD1.out.nums⟩
      have hX2 : Bxs w2 H (H + 1) (H + 1 + 1) f t u := HX.out.move (HK2.out.block _ (blk_lt HX.out.b0) (by have := HPW.out; omega)) (HK2.out.block _ (blk_lt HX.out.b1) (by have := HPW.out; omega)) (HK2.out.block _ (blk_lt HX.out.b2) (by have := HPW.out; omega))
      have HX2 := Aside0.mk hX2
      have hw1s : H + 1 + 1 < w1.heap.size := Nat.lt_of_lt_of_le (blk_lt HX.out.b2) HK1.out.size
      have HW1S := Lib.hid hw1s
      have HQS := Lib.hid hqs
      clear hR2 hb2' hX2 hqs hw1s
      go_wp2_with fail
      have hnot : ∀ k, k < w1.heap.size → v2.ownBlock ≠ some k := fun k hk e => by have := (Fl.R_lt HR2.out k e).1; omega
      have HNOT := Lib.hid hnot
      have hw1s := HW1S.out
      with_reducible refine (DeleteFunc_calls _ _ v2 b HR2.out (by omega) HOKB.out H (H + 1) (H + 1 + 1) f t u HX2.out HF.out HT.out ⟨hnot _ (by omega), hnot _ (by omega), hnot _ (by omega)⟩).mono ?_
      rintro e w3 ⟨v3, rfl, hR3, hk3⟩
      have HR3 := Aside0.mk (show dE.R 55 w3 w1.heap.size v3 (keepB (elder f t u) b) from hR3)
      have HD3 := Aside0.mk (HD2.out.move (hk3.block p (blk_lt HD2.out.box) (hnot p (by have := HPW.out; omega))) (hk3.block q (blk_lt HD2.out.ents) (hnot q HQS.out.1)) (hk3.block r (blk_lt HD2.out.nums) (hnot r HQS.out.2)))
      have HK3 := Aside0.mk (HK2.out.trans hk3 (fun k hk => .inr (by have h1 := (Fl.R_lt HR2.out k hk).1; exact Nat.le_trans HK1.out.size h1)))
      clear hR3 hk3 hnot hw1s
      obtain ⟨A3, c3, rfl, hl3, _, hC3, _⟩ := Fl.R_slice HR3.out
      have HC3 := Aside0.mk (K_of_C hC3 (by omega))
      obtain ⟨kb, hkb⟩ : ∃ kb, keepB (elder f t u) b = kb := ⟨_, rfl⟩
      rw [hkb] at hg HC3 HR3 ⊢
      have HKB := Lib.hid hkb
      obtain ⟨m, hm⟩ : ∃ m, kb.length = m := ⟨_, rfl⟩
      have HM := Lib.hid hm
      obtain ⟨l, hll⟩ : ∃ l, b.length = l := ⟨_, rfl⟩
      have HL := Lib.hid hll
      rw [hll] at hg hbl ⊢
      rw [hm] at hg ⊢
      have hml : m ≤ l := by rw [← hm, ← hll, ← hkb]; exact List.length_filter_le _ _
      have e1 : IntKind.i64.wrap ((l : Int) - (m : Int)) = (l : Int) - (m : Int) := by rw [IntKind.wrap_i64]; omega
      have e2 : (n : Int) + ((l : Int) - (m : Int)) = (n' : Int) := by omega
      clear hl3 hC3 hkb hm hll
      go_wp2_with fail
      have hlay := lay_calls w3 p q r _ M1 HD3.out i (by rw [purgeTo_len _ _ _ (by rw [HB.out]; exact hi), HB.out]; exact hlt) A3 c3 kb HC3.out (by show kb.length ≤ D.s; rw [HM.out]; omega) (fun x hx => HOKB.out x (by rw [← HKB.out] at hx; exact (List.mem_filter.1 hx).1))
      rw [HM.out] at hlay
      refine hlay.mono ?_
      rintro e w4 ⟨rfl, hd4, hk4⟩
      have HD4 := Aside0.mk hd4
      have HK4 := Aside0.mk (HK3.out.trans hk4 (fun k hk => .inl hk))
      clear hd4 hk4 hlay
      go_wp2
      go_roundw
      case rel => exact ⟨i + 1, n', by go_num, rfl, by omega, ⟨HN'.out⟩, ⟨by rw [← purgeTo_succ D _ i b HBE.out, HKB.out]; exact HD4.out, HK4.out⟩⟩
      case measure => simp [intOf]; omega
    · have hin : i = B := by omega
      have HR := Lib.hid (show goneN (elder f t u) D.L = n by rw [← HN.out, List.take_of_length_le (by rw [HB.out]; omega)])
      obtain ⟨⟨M1, hd⟩, hk⟩ := HI.out
      have HD := Aside0.mk hd
      have HK := Aside0.mk ((Keeps.of_below HBL.out).trans hk (fun k hk => .inl hk))
      clear hd hk HI
      go_wp2
      go_ret
      exact ⟨by rw [HR.out]; rfl, ⟨M1, by rw [← purgeTo_end D _ i (by rw [HB.out]; omega)]; exact HD.out⟩, HK.out⟩
end Go.Proofs.Ytafpaomcmjccaaa.Dir
