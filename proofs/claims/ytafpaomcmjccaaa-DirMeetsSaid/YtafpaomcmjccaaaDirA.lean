/- All entries of a directory. -/
import Derived.Test.YtafpaomcmjccaaaDirO
import Derived.Test.YtafpaomcmjccaaaFlat
import Derived.WalkSpells
set_option linter.unusedVariables false
set_option linter.unusedSimpArgs false
namespace Go.Proofs.Ytafpaomcmjccaaa.Dir
open Go.RowKit Go.Proofs.Ytafpaomcmjccaaa.G Go.Proofs.YtafpaomcmjccaaaW.PrintWords Go.Proofs.YtafpaomcmjccaaaW.PrintMore Go.Proofs.Ytafpaomcmjccaaa.Foot

/-- An entry's four cells. -/
def dE : Fl S55 := ⟨cE, 4, by decide, cE_length, cE_one⟩
theorem szE : ∃ i0, Try.prog.info? 55 = some i0 ∧ i0.zero = some (.agg #[.int .u16 0, .int .u32 0, .int .u16 0, .int .u64 0]) ∧ i0.size = dE.sz ∧ i0.bytes = 24 := by
  have hz : (Try.prog.info? 55).map (fun i => (i.zero, i.size, i.bytes)) = some (some (.agg #[.int .u16 0, .int .u32 0, .int .u16 0, .int .u64 0]), 4, 24) := by kernel_rfl
  obtain ⟨i0, hi0, hh⟩ := Option.map_eq_some_iff.1 hz
  simp only [Prod.mk.injEq] at hh
  exact ⟨i0, hi0, hh.1, hh.2.1, hh.2.2⟩
theorem K_of_C {w : World} {A : Option Addr} {xs : List S55} (h : dE.C w A xs) (hl : xs.length ≤ 9223372036854775807) : Kd.C k55 w A xs.length xs := by
  refine ⟨rfl, hl, fun hp => ?_⟩
  obtain ⟨ad, rfl, hc⟩ := h hp
  refine ⟨ad, rfl, fun j x hj => ⟨cE x, rfl, k55_mk w x, fun k u hu => ?_⟩⟩
  refine hc _ _ ?_
  show (dE.flat xs)[j * dE.sz + k]? = _
  rw [Fl.flat_get xs j k x hj (by have := (List.getElem?_eq_some_iff.1 hu).1; exact this)]
  exact hu
theorem C_of_K {w : World} {A : Option Addr} {n : Nat} {xs : List S55} (h : Kd.C k55 w A n xs) : dE.C w A xs := fun hp => by
  obtain ⟨ad, ha, hc⟩ := h.2.2 (by rw [← h.1]; exact hp)
  refine ⟨ad, ha, fun j u hu => ?_⟩
  have hj : j < xs.length * 4 := by
    have := (List.getElem?_eq_some_iff.1 hu).1
    rw [Fl.flat_length] at this
    exact this
  have hx : xs[j / 4]? = some (xs[j / 4]'(by omega)) := List.getElem?_eq_getElem (by omega)
  obtain ⟨c, hcl, hK, hcc⟩ := hc (j / 4) _ hx
  obtain rfl := k55_open hK
  have hf : (dE.flat xs)[j]? = (cE (xs[j / 4]'(by omega)))[j % 4]? := by
    have := Fl.flat_get (d := dE) xs (j / 4) (j % 4) _ hx (Nat.mod_lt _ (by decide))
    rwa [show j / 4 * dE.sz + j % 4 = j by show j / 4 * 4 + j % 4 = j; omega] at this
  have := hcc (j % 4) u (by rw [← hu, hf]; rfl)
  rwa [show j / 4 * k55.sz + j % 4 = j by show j / 4 * 4 + j % 4 = j; omega] at this
/-- A bucket's entries lie where they are told. -/
theorem DirAt.bucketC {w : World} {p q r : Nat} {D : Di} {M : List S55} (h : DirAt w p q r D M) {i : Nat} {b : List S55} (hb : D.L[i]? = some b) : dE.C w (some ⟨q, i * D.s * 4, none⟩) b := by
  have hi : i < D.L.length := (List.getElem?_eq_some_iff.1 hb).1
  have := Fl.C_blk (d := dE) (w := w) (q := q) (M := M) (e := 55) h.ents (i * D.s) b.length (by have := h.ok.place hi; have := h.ok.fit b (List.mem_of_getElem? hb); rw [h.len]; omega)
  rw [h.parts i b hb] at this
  exact this
def Di.all (D : Di) : List S55 := D.L.flatten
theorem flatten_len : ∀ (L : List (List S55)) (s : Nat), (∀ b ∈ L, b.length ≤ s) → L.flatten.length ≤ L.length * s
  | [], s, _ => by simp
  | b :: L, s, h => by
    have h1 := flatten_len L s (fun b hb => h b (List.mem_cons_of_mem _ hb))
    have h2 := h b List.mem_cons_self
    rw [List.flatten_cons, List.length_append, List.length_cons, Nat.succ_mul]
    omega
theorem flatten_take (L : List (List S55)) (i : Nat) (b : List S55) (h : L[i]? = some b) : (L.take (i + 1)).flatten = (L.take i).flatten ++ b := by
  obtain ⟨hi, rfl⟩ := List.getElem?_eq_some_iff.1 h
  rw [List.take_succ_eq_append_getElem hi, List.flatten_append]
  simp
theorem flatten_le (L : List (List S55)) (i : Nat) (b : List S55) (h : L[i]? = some b) : (L.take i).flatten.length + b.length ≤ L.flatten.length := by
  have h1 : L.flatten.length = ((L.take (i + 1)).flatten ++ (L.drop (i + 1)).flatten).length := by rw [← List.flatten_append, List.take_append_drop]
  rw [h1, flatten_take L i b h, List.length_append, List.length_append]
  omega
/-- A row of entries that is handed back. -/
def RowPost (xs : List S55) (w : World) (e : Ending) (w' : World) : Prop := ∃ v, e = .returned v ∧ dE.R 55 w' w.heap.size v xs ∧ Below w.heap.size w w'
set_option maxHeartbeats 2000000 in
set_option maxRecDepth 100000 in
theorem All_calls (w : World) (p q r : Nat) (D : Di) (M : List S55) (h : DirAt w p q r D M) :
    Calls Try.prog 34 #[.pointer (some ⟨p, 0, none⟩)] w (RowPost D.all w) := by
  have hsz := h.ok.size
  have hb2 := h.ok.b2
  have c2 := h.c2
  have HH := Aside0.mk h
  have hfl := flatten_len D.L D.s h.ok.fit
  have HFL := Lib.hid (show D.L.flatten.length ≤ 65536 by omega)
  clear h hfl hsz
  obtain ⟨B, hB⟩ : ∃ B, D.L.length = B := ⟨_, rfl⟩
  rw [hB] at hb2 c2
  have HB := Lib.hid hB
  clear hB
  go_enter Try.func34, Try.ntmps34
  go_wp2_with fail
  go_loopw [3, 10] (fun v3 v10 wr => ∃ (i : Nat) (acc : List S55), v10 = .int .i64 (i : Int) ∧ i ≤ B ∧ Aside0 ((D.L.take i).flatten = acc) ∧ Aside0 (dE.R 55 wr w.heap.size v3 acc) ∧ Aside0 (Below w.heap.size w wr)) (fun _ v10 _ => B - (intOf v10).toNat)
  case atStart => exact ⟨0, [], rfl, Nat.zero_le _, ⟨rfl⟩, ⟨Fl.R_nil⟩, ⟨Below.refl _ _⟩⟩
  case round =>
    obtain ⟨i, acc, rfl, hi, HACC, HR, HBW⟩ := hrel
    by_cases hlt : i < B
    · have hi0 : (0 : Int) ≤ (i : Int) := by omega
      have hi1 : (i : Int) < (B : Int) := by omega
      obtain ⟨b, hb⟩ : ∃ b, D.L[i]? = some b := ⟨_, List.getElem?_eq_getElem (by rw [HB.out]; exact hlt)⟩
      have HBB := Lib.hid hb
      have HD := Aside0.mk (HH.out.below HBW.out)
      have hbl := HH.out.ok.fit b (List.mem_of_getElem? hb)
      have hs2 := HH.out.ok.s2
      clear hb
      go_wp2_with fail
      with_reducible refine (bucket_calls _ p q r D M HD.out i b HBB.out).mono ?_
      rintro e w1 ⟨rfl, hb1⟩
      have HD1 := Aside0.mk (HD.out.below hb1)
      have HR1 := Aside0.mk (Fl.R_below HR.out hb1)
      have HB1 := Aside0.mk (HBW.out.trans (hb1.mono HBW.out.size))
      clear hb1
      obtain ⟨A3, c3, rfl, hl3, _, hC3, _⟩ := Fl.R_slice HR1.out
      obtain ⟨i0, hi0', hz, hsz, hby⟩ := szE
      obtain ⟨v', w2, hrun, hR2, hg2, hat2⟩ := Fl.run_append (P := Try.prog) (ty := 45) Try.underlying45 hi0' hz hsz hby rfl D.s HR1.out (HD1.out.bucketC HBB.out)
        (by have := HFL.out; have h9 := flatten_le D.L i b HBB.out; rw [HACC.out] at h9; omega)
        (by have := HFL.out; have h9 := flatten_le D.L i b HBB.out; rw [HACC.out] at h9; omega) HB1.out.size
      have HR2 := Lib.hid hR2
      have HB2 := Lib.hid (HB1.out.grown hg2 HB1.out.size (fun k hk => (Fl.R_lt HR1.out k hk).1))
      have HRUN := Lib.hid hrun
      clear hrun hR2 hg2 hat2 hC3
      go_wp2_with (first
        | ((with_reducible refine gate_builtin (b := .append) (xs := #[.tmp 13, .tmp 16]) rfl ?_); at_builtin; refine Fl.wpList_append_run rfl (.tmp 13) (.tmp 16) 45 45 rfl _ _ _ rfl rfl HRUN.out ?_)
        | fail)
      go_roundw
      case rel => exact ⟨i + 1, _, by go_num, by omega, ⟨by rw [flatten_take D.L i b HBB.out, HACC.out]⟩, ⟨HR2.out⟩, ⟨HB2.out⟩⟩
      case measure => simp [intOf]; omega
    · have hin : i = B := by omega
      have HE := Lib.hid (show acc = D.all by rw [← HACC.out]; rw [List.take_of_length_le (by rw [HB.out]; omega)]; rfl)
      go_wp2
      go_ret
      exact ⟨_, rfl, by rw [← HE.out]; exact HR.out, HBW.out⟩
theorem Len_calls (w : World) (p q r : Nat) (D : Di) (M : List S55) (h : DirAt w p q r D M) :
    Calls Try.prog 20 #[.pointer (some ⟨p, 0, none⟩)] w fun e w' => e = .returned (.int .i64 D.all.length) ∧ Below w.heap.size w w' := by
  have HH := Aside0.mk h
  clear h
  obtain ⟨n, hn⟩ : ∃ n, D.all.length = n := ⟨_, rfl⟩
  have HN := Lib.hid hn
  rw [hn]
  clear hn
  go_enter Try.func20, Try.ntmps20
  go_wp2_with fail
  with_reducible refine (All_calls _ p q r D M HH.out).mono ?_
  rintro e w1 ⟨v, rfl, hR, hB⟩
  have HB := Lib.hid hB
  obtain ⟨A, c, rfl, _⟩ := Fl.R_slice hR
  rw [HN.out]
  clear hR hB
  go_wp2
  go_ret
  exact ⟨rfl, HB.out⟩
end Go.Proofs.Ytafpaomcmjccaaa.Dir
