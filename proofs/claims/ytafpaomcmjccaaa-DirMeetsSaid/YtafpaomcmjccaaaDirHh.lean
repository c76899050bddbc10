/- A directory beside other things; a key of few numbers. -/
import Derived.Test.YtafpaomcmjccaaaDirE
import Derived.Test.YtafpaomcmjccaaaFoot2
set_option linter.unusedVariables false
set_option linter.unusedSimpArgs false
set_option linter.unusedSectionVars false
namespace Go.Proofs.Ytafpaomcmjccaaa.Dir
open Go.RowKit Go.Proofs.Ytafpaomcmjccaaa.G Go.Proofs.YtafpaomcmjccaaaW.PrintWords Go.Proofs.YtafpaomcmjccaaaW.PrintMore Go.Proofs.Ytafpaomcmjccaaa.Foot

section
variable {W w : World} {R : HP} [Firm R] {p : Nat} {D : Di} {k : Key}
theorem New_own (h : Foot.Own W w R) (b s : Int) : Calls Try.prog 13 #[.int .i64 b, .int .i64 s] w fun e w' => ∃ p, e = .returned (.pointer (some ⟨p, 0, none⟩)) ∧ Foot.Own W w' (star (DirH p (newD b s)) R) :=
  (New_calls b s w).mono fun e w' ⟨p, he, F, hD, hF, hB⟩ => ⟨p, he, h.add hB hD hF⟩
theorem post_frame {v : Value} {D' : Di} {q r : Nat} {M : List S55} {e : Ending} {w' : World} (hd : DirAt w p q r D M) (h : DirPost p q r D' v w e w') :
    e = .returned v ∧ ∃ F', DirH p D' w' F' ∧ (∀ j, F' j → (j = p ∨ j = q ∨ j = r) ∨ w.heap.size ≤ j) ∧ Keeps (fun j => j = p ∨ j = q ∨ j = r) w w' := by
  obtain ⟨he, ⟨M', hM⟩, hk⟩ := h
  exact ⟨he, _, ⟨q, r, M', rfl, hM⟩, fun j hj => .inl hj, hk.mono (fun j hj => .inl (.inr hj))⟩
theorem Insert_own (h : Foot.Own W w (star (DirH p D) R)) (a f2 f3 : Int) (hok : OkE ⟨k.tag, a, f2, f3⟩) :
    Calls Try.prog 17 #[.pointer (some ⟨p, 0, none⟩), .agg k.cells, .int .u32 a, .int .u16 f2, .int .u64 f3] w fun e w' => e = .returned (.int .i64 (D.ins k ⟨k.tag, a, f2, f3⟩).1) ∧ Foot.Own W w' (star (DirH p (D.ins k ⟨k.tag, a, f2, f3⟩).2) R) := by
  refine h.frame fun F hF _ => ?_
  obtain ⟨q, r, M, rfl, hd⟩ := hF
  unfold Di.ins
  by_cases hb : f2 = 0 ∨ 9223372036854775808 ≤ f3
  · rw [if_pos hb]
    exact (Insert_bad hd hb).mono fun e w' hp => post_frame hd hp
  · rw [if_neg hb]
    by_cases hf : (D.of k).length = D.s
    · rw [if_pos hf]
      exact (Insert_full hd (fun e => hb (.inl e)) (fun e => hb (.inr e)) hf).mono fun e w' hp => post_frame hd hp
    · rw [if_neg hf]
      exact (Insert_ok hd (fun e => hb (.inl e)) (fun e => hb (.inr e)) hf hok).mono fun e w' hp => post_frame hd hp
def Di.del (D : Di) (k : Key) (a : Int) : Bool × Di := match delIdx k.tag a (D.of k) with
  | some j => (true, layD D (D.at_ k) ((D.of k).eraseIdx j))
  | none => (false, D)
theorem Delete_own (h : Foot.Own W w (star (DirH p D) R)) (a : Int) :
    Calls Try.prog 19 #[.pointer (some ⟨p, 0, none⟩), .agg k.cells, .int .u32 a] w fun e w' => e = .returned (.bool (D.del k a).1) ∧ Foot.Own W w' (star (DirH p (D.del k a).2) R) := by
  refine h.frame fun F hF _ => ?_
  obtain ⟨q, r, M, rfl, hd⟩ := hF
  refine (Delete_calls w p q r D M hd k a).mono fun e w' hp => ?_
  unfold DelPost at hp
  unfold Di.del
  split at hp <;> rename_i hq <;> rw [hq] <;> exact post_frame hd hp
theorem Purge_own (h : Foot.Own W w (star (DirH p D) R)) (f t u : Int) (hf : 0 ≤ f ∧ f < 4294967296) (ht : 0 ≤ t ∧ t < 4294967296) :
    Calls Try.prog 26 #[.pointer (some ⟨p, 0, none⟩), .int .u32 f, .int .u32 t, .int .u64 u] w fun e w' => e = .returned (.int .i64 (goneN (elder f t u) D.L)) ∧ Foot.Own W w' (star (DirH p (D.purge (elder f t u))) R) := by
  refine h.frame fun F hF _ => ?_
  obtain ⟨q, r, M, rfl, hd⟩ := hF
  exact (Purge_calls w p q r D M hd f t u hf ht).mono fun e w' hp => post_frame hd hp
theorem Len_own (h : Foot.Own W w (star (DirH p D) R)) : Calls Try.prog 20 #[.pointer (some ⟨p, 0, none⟩)] w fun e w' => e = .returned (.int .i64 D.all.length) ∧ Foot.Own W w' (star (DirH p D) R) := by
  obtain ⟨q, r, M, hd⟩ := h.look (X := ∃ q r M, DirAt w p q r D M) fun F hF _ => by obtain ⟨q, r, M, _, hd⟩ := hF; exact ⟨q, r, M, hd⟩
  exact (Len_calls w p q r D M hd).mono fun e w' ⟨he, hb⟩ => ⟨he, h.step hb⟩
theorem Bucket_own (h : Foot.Own W w (star (DirH p D) R)) : Calls Try.prog 14 #[.pointer (some ⟨p, 0, none⟩), .agg k.cells] w fun e w' => e = .returned (.int .i64 (D.at_ k)) ∧ Foot.Own W w' (star (DirH p D) R) := by
  obtain ⟨q, r, M, hd⟩ := h.look (X := ∃ q r M, DirAt w p q r D M) fun F hF _ => by obtain ⟨q, r, M, _, hd⟩ := hF; exact ⟨q, r, M, hd⟩
  rw [← hd.ok.at_eq k]
  exact (Bucket_calls k w p D.L.length _ _ hd.c2 hd.ok.b1 hd.ok.b2).mono fun e w' ⟨he, hb⟩ => ⟨he, h.step hb⟩
theorem Tag_own {P : HP} [Firm P] (h : Foot.Own W w P) : Calls Try.prog 11 #[.agg k.cells] w fun e w' => e = .returned (.int .u16 k.tag) ∧ Foot.Own W w' P :=
  (Tag_calls k w).mono fun e w' ⟨he, hb⟩ => ⟨he, h.step hb⟩
/-- A row of entries beside other things. -/
def RowH (v : Value) (xs : List S55) : HP := fun w F => dE.R 55 w 0 v xs ∧ F = fun k => v.ownBlock = some k
instance {v : Value} {xs : List S55} : Firm (RowH v xs) where
  move := by
    rintro w w' F ⟨h, rfl⟩ hm
    exact ⟨Fl.R_move h hm, rfl⟩
  lt := by
    rintro w F ⟨h, rfl⟩ k hk
    exact own_lt h k hk
theorem row_own {xs : List S55} {w' : World} {v : Value} (h : Foot.Own W w R) (hR : dE.R 55 w' w.heap.size v xs) (hb : Below w.heap.size w w') : Foot.Own W w' (star (RowH v xs) R) :=
  h.add hb ⟨Fl.R_lower hR (Nat.zero_le _), rfl⟩ (fun k hk => own_base hR k hk)
theorem rowC_own {xs : List S55} {v : Value} (h : Foot.Own W w (star (RowH v xs) R)) : ∃ A c, v = .slice A xs.length c ∧ xs.length ≤ c ∧ dE.C w A xs := by
  refine h.look fun F hF _ => ?_
  obtain ⟨A, c, hv, hl, _, hC, _⟩ := Fl.R_slice hF.1
  exact ⟨A, c, hv, hl, hC⟩
theorem Probe_own (h : Foot.Own W w (star (DirH p D) R)) : Calls Try.prog 24 #[.pointer (some ⟨p, 0, none⟩), .agg k.cells] w fun e w' => ∃ v, e = .returned v ∧ Foot.Own W w' (star (RowH v (probe k.tag (D.of k))) (star (DirH p D) R)) := by
  obtain ⟨q, r, M, hd⟩ := h.look (X := ∃ q r M, DirAt w p q r D M) fun F hF _ => by obtain ⟨q, r, M, _, hd⟩ := hF; exact ⟨q, r, M, hd⟩
  exact (Probe_calls w p q r D M hd k).mono fun e w' ⟨v, he, hR, hb⟩ => ⟨v, he, row_own h hR hb⟩
theorem All_own (h : Foot.Own W w (star (DirH p D) R)) : Calls Try.prog 34 #[.pointer (some ⟨p, 0, none⟩)] w fun e w' => ∃ v, e = .returned v ∧ Foot.Own W w' (star (RowH v D.all) (star (DirH p D) R)) := by
  obtain ⟨q, r, M, hd⟩ := h.look (X := ∃ q r M, DirAt w p q r D M) fun F hF _ => by obtain ⟨q, r, M, _, hd⟩ := hF; exact ⟨q, r, M, hd⟩
  exact (All_calls w p q r D M hd).mono fun e w' ⟨v, he, hR, hb⟩ => ⟨v, he, row_own h hR hb⟩
end
def keyL (k : Int) : List Int := [0, 0, 0, k % 7, 0, k / 16 % 4, 0, 0, 0, k % 256, 0, 0, 0, 0, 0, 0, 0, 0, 0, 0, 0, 0, 0, 0, 0, 0, 0, 0, 0, 0, 0, 0]
theorem keyL_rng (k : Int) : ∀ x ∈ keyL k, 0 ≤ x ∧ x ≤ 255 := by
  intro x hx
  simp only [keyL, List.mem_cons, List.not_mem_nil, or_false] at hx
  rcases hx with rfl | rfl | rfl | rfl | rfl | rfl | rfl | rfl | rfl | rfl | rfl | rfl | rfl | rfl | rfl | rfl | rfl | rfl | rfl | rfl | rfl | rfl | rfl | rfl | rfl | rfl | rfl | rfl | rfl | rfl | rfl | rfl <;> omega
def keyOf (k : Int) : Key := ⟨keyL k, rfl, keyL_rng k⟩
theorem keyOf_cells (k : Int) : (keyOf k).cells = #[.int .u8 0, .int .u8 0, .int .u8 0, .int .u8 (k % 7), .int .u8 0, .int .u8 (k / 16 % 4), .int .u8 0, .int .u8 0, .int .u8 0, .int .u8 (k % 256), .int .u8 0, .int .u8 0, .int .u8 0, .int .u8 0, .int .u8 0, .int .u8 0, .int .u8 0, .int .u8 0, .int .u8 0, .int .u8 0, .int .u8 0, .int .u8 0, .int .u8 0, .int .u8 0, .int .u8 0, .int .u8 0, .int .u8 0, .int .u8 0, .int .u8 0, .int .u8 0, .int .u8 0, .int .u8 0] := rfl
set_option maxHeartbeats 4000000 in
set_option maxRecDepth 100000 in
theorem key_calls (k : Int) (w : World) (h0 : 0 ≤ k) (h1 : k < 65536) : Calls Try.prog 18 #[.int .u16 k] w fun e w' => e = .returned (.agg (keyOf k).cells) ∧ Below w.heap.size w w' := by
  go_enter Try.func18, Try.ntmps18
  go_upto_region 3 with (fail)
  have hb3 : bits .and .u16 (k / 16) 3 % 256 = k / 16 % 4 := by
    obtain ⟨K, rfl⟩ := Int.eq_ofNat_of_zero_le h0
    rw [show (K : Int) / 16 = ((K / 16 : Nat) : Int) by omega, show (3 : Int) = ((3 : Nat) : Int) from rfl, u16_and_nat _ _ (by omega) (by omega), show (3 : Nat) = 2 ^ 2 - 1 from rfl, Nat.and_two_pow_sub_one_eq_mod]
    omega
  rw [hb3, ← keyOf_cells k]
  obtain ⟨Z, hZ⟩ : ∃ Z, #[Value.int .u8 0, .int .u8 0, .int .u8 0, .int .u8 0, .int .u8 0, .int .u8 0, .int .u8 0, .int .u8 0, .int .u8 0, .int .u8 0, .int .u8 0, .int .u8 0, .int .u8 0, .int .u8 0, .int .u8 0, .int .u8 0, .int .u8 0, .int .u8 0, .int .u8 0, .int .u8 0, .int .u8 0, .int .u8 0, .int .u8 0, .int .u8 0, .int .u8 0, .int .u8 0, .int .u8 0, .int .u8 0, .int .u8 0, .int .u8 0, .int .u8 0, .int .u8 0] = Z := ⟨_, rfl⟩
  have hzs : Z.size = 32 := by rw [← hZ]; rfl
  rw [hZ]
  clear hZ
  have hk1 := blk_new (w.alloc (.cells Z 23)) (.cells (keyOf k).cells 23)
  rw [World.size_alloc] at hk1
  have hz1 := blk_alloc (blk_new w (.cells Z 23)) (.cells (keyOf k).cells 23)
  refine wp_region_lit ?_
  refine wpList_load_key (keyOf k) _ hk1 rfl (.tmp 3) rfl rfl ?_
  refine wpList_store_row rfl 23 (.tmp 2) (.tmp 16) rfl w.heap.size (keyOf k).cells rfl rfl 23 Z hz1 (by rw [(keyOf k).size]; kernel_rfl) ?_ (keyOf k).one ?_
  · rw [hzs, (keyOf k).size]
  have hz2 := setRow_heap ((w.alloc (.cells Z 23)).alloc (.cells (keyOf k).cells 23)) w.heap.size Z (keyOf k).cells 23 (0, 0) hz1
  have hbl : Below w.heap.size w (((w.alloc (.cells Z 23)).alloc (.cells (keyOf k).cells 23)).setRow w.heap.size (keyOf k).cells) := below_setRow (below_alloc (below_alloc (Below.refl _ _) _) _) (Nat.le_refl _) _
  generalize ((w.alloc (.cells Z 23)).alloc (.cells (keyOf k).cells 23)).setRow w.heap.size (keyOf k).cells = w2 at hz2 hbl ⊢
  clear hk1 hz1 hzs hb3
  go_wp2
  exact bodyPost_ret (results_cell_row (show (Try.f18).results = #[.cell 2 23] from rfl) _ _ w.heap.size 23 (keyOf k).cells (0, 0) _ rfl hz2 Try.underlying23 rfl (by rw [(keyOf k).size]; kernel_rfl)) rfl ⟨rfl, hbl⟩
end Go.Proofs.Ytafpaomcmjccaaa.Dir
