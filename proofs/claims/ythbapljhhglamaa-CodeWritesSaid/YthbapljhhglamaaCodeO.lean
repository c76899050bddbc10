/- Parts, written and read. -/
import Derived.Test.YthbapljhhglamaaCodeZ
import Derived.OpenShut
set_option linter.unusedVariables false
set_option linter.unusedSimpArgs false
namespace Go.Proofs.Ythbapljhhglamaa.Code
open Go.RowKit Go.Proofs.Ythbapljhhglamaa.G Go.Proofs.YthbapljhhglamaaW.PrintWords Go.Proofs.YthbapljhhglamaaW.PrintMore Go.Proofs.Ythbapljhhglamaa.Foot Go.Proofs.Ythbapljhhglamaa.CodeL Go.Proofs.Ythbapljhhglamaa.Leaf Go.Proofs.Ythbapljhhglamaa.Plain

theorem strOf_bytes (y : ByteArray) : strOfNums (bytesOf y) = y := bytes_inj (bytes_of_nums (bytes_range y))
def pairOf (x : S66) : List Int × List Int := (bytesOf x.f0, bytesOf x.f1)
theorem encFs_pairs : ∀ (l : List S66), encFs l = encP (l.map pairOf)
  | [] => rfl
  | x :: l => by
    show (encT (bytesOf x.f0) ++ encT (bytesOf x.f1)) ++ encFs l = _
    rw [encFs_pairs l]
    rfl
theorem encS_pairs (l : List S66) : encS l = encF (l.map pairOf) := by
  unfold encS encF
  rw [encFs_pairs, List.length_map]
theorem textS_enc {b : List Int} (h : b.length < 2 ^ 64) (r : List Int) : textS (some (encT b ++ r)) = (b, some r) := textS_some (textD_enc h r)
theorem fieldsS_enc {fs : List S66} (hl : fs.length < 2 ^ 64) (h : ∀ x ∈ fs, x.f0.size ≤ 300 ∧ x.f1.size ≤ 300) (r : List Int) : fieldsS (some (encS fs ++ r)) = (fs, some r) := by
  rw [encS_pairs, fieldsS_ok (fieldsD_enc (by rw [List.length_map]; exact hl) (fun p hp => ?_) r), List.map_map]
  · rw [show (fieldOf ∘ pairOf) = (fun x : S66 => x) from by
      funext x
      show (⟨strOfNums (bytesOf x.f0), strOfNums (bytesOf x.f1)⟩ : S66) = x
      rw [strOf_bytes, strOf_bytes], List.map_id']
  · obtain ⟨x, hx, rfl⟩ := List.mem_map.1 hp
    have := h x hx
    show (bytesOf x.f0).length < _ ∧ (bytesOf x.f1).length < _
    rw [bytesOf_length, bytesOf_length]
    omega
def encPart (x : S53) : List Int := if x.f0 % 3 = 0 then enc x.f1.toNat else if x.f0 % 3 = 1 then encT x.f2 else encS x.f3
def encL (l : List S53) : List Int := l.flatMap encPart
structure PartOk (x : S53) : Prop where
  what : 0 ≤ x.f0 ∧ x.f0 ≤ 255
  num : 0 ≤ x.f1 ∧ x.f1 ≤ 18446744073709551615
  byte : Bytes8 x.f2
  fits : Fits x
theorem encT_len10 {b : List Int} (h : b.length < 2 ^ 64) : (encT b).length ≤ b.length + 10 := by
  have := (enc_len10 h).2
  unfold encT
  rw [List.length_append]
  omega
theorem encFs_len10 : ∀ (l : List S66), (∀ x ∈ l, x.f0.size ≤ 300 ∧ x.f1.size ≤ 300) → (encFs l).length ≤ 620 * l.length
  | [], _ => Nat.le_refl _
  | x :: l, h => by
    have hx := h x List.mem_cons_self
    have h0 := bytesOf_length x.f0
    have h1 := bytesOf_length x.f1
    have e0 := encT_len10 (b := bytesOf x.f0) (by omega)
    have e1 := encT_len10 (b := bytesOf x.f1) (by omega)
    have := encFs_len10 l (fun y hy => h y (List.mem_cons_of_mem _ hy))
    show ((encT (bytesOf x.f0) ++ encT (bytesOf x.f1)) ++ encFs l).length ≤ _
    rw [List.length_append, List.length_append, List.length_cons]
    omega
theorem PartOk.len {x : S53} (h : PartOk x) : (encPart x).length ≤ 4000 := by
  obtain ⟨_, hn, _, hf2, hf3, hfs⟩ := h
  unfold encPart
  split
  · have := (enc_len10 (n := x.f1.toNat) (by omega)).2
    omega
  · split
    · have := encT_len10 (b := x.f2) (by omega)
      omega
    · have h1 := (enc_len10 (n := x.f3.length) (by omega)).2
      have h2 := encFs_len10 x.f3 hfs
      unfold encS
      rw [List.length_append]
      omega
theorem encT_8 {b : List Int} (h : Bytes8 b) : Bytes8 (encT b) := fun y hy => (List.mem_append.1 hy).elim (enc_byte _ y) (h y)
theorem encFs_8 (l : List S66) : Bytes8 (encFs l) := fun y hy => by
  obtain ⟨x, _, hx⟩ := List.mem_flatMap.1 hy
  exact (List.mem_append.1 hx).elim (encT_8 (bytes_range _) y) (encT_8 (bytes_range _) y)
theorem PartOk.bytes {x : S53} (h : PartOk x) : Bytes8 (encPart x) := by
  unfold encPart
  split
  · exact enc_byte _
  · split
    · exact encT_8 h.byte
    · exact fun y hy => (List.mem_append.1 hy).elim (enc_byte _ y) (encFs_8 _ y)
theorem encL_8 {l : List S53} (h : ∀ x ∈ l, PartOk x) : Bytes8 (encL l) := fun y hy => by
  obtain ⟨x, hx, hy⟩ := List.mem_flatMap.1 hy
  exact (h x hx).bytes y hy
theorem encL_len : ∀ (l : List S53), (∀ x ∈ l, PartOk x) → (encL l).length ≤ 4000 * l.length
  | [], _ => Nat.le_refl _
  | x :: l, h => by
    have := (h x List.mem_cons_self).len
    have := encL_len l (fun y hy => h y (List.mem_cons_of_mem _ hy))
    show (encPart x ++ encL l).length ≤ _
    rw [List.length_append, List.length_cons]
    omega
section
variable {W w : World} {R : HP} {v : Value} {l : List Int}
theorem row_back {F : Nat → Prop} {l' : List Int} {v' : Value} {w' : World} (hR : Kd.R (Kd.int .u8) 5 w' 0 (fun k => F k ∨ w.heap.size ≤ k) v' l') (hk : Keeps F w w') :
    ∃ F', row (Kd.int .u8) 5 v' l' w' F' ∧ (∀ k, F' k → F k ∨ w.heap.size ≤ k) ∧ Keeps F w w' :=
  ⟨fun k => (F k ∨ w.heap.size ≤ k) ∧ k < w'.heap.size, ⟨Kd.R_mono (Kd.R_bound hR) (fun k hk => ⟨hk.1, hk.2.2.1⟩), fun k hk => hk.2⟩, fun k hk => hk.1, hk⟩
theorem rtext_own [Firm R] (A : Option Addr) (c : Nat) (b : List Int) (hO : Own W w (star (row (Kd.int .u8) 5 v l) R)) (hb : Kd.C (Kd.int .u8) W A b.length b) (hc : b.length ≤ c) (hn : b.length ≤ 1000000) (hl : l.length ≤ 1000000000) :
    Calls Try.prog 28 #[v, .slice A b.length c] w fun e w' => ∃ v', e = .returned v' ∧ Own W w' (star (row (Kd.int .u8) 5 v' (l ++ encT b)) R) :=
  have hB := hO.below
  hO.frameV (Post := fun v' => row (Kd.int .u8) 5 v' (l ++ encT b)) fun F hp hF => (rtext F v l b A c w hp.1 (CS.of_arg hb hB hF) hc hn hl).mono fun e w' ⟨v', he, hR, hk⟩ => ⟨v', he, row_back hR hk⟩
theorem rfields_own [Firm R] (A : Option Addr) (c : Nat) (fs : List S66) (hO : Own W w (star (row (Kd.int .u8) 5 v l) R)) (hb : Kd.C k66 W A fs.length fs) (hn : fs.length ≤ 100) (hs : ∀ x ∈ fs, x.f0.size ≤ 10000 ∧ x.f1.size ≤ 10000) (hl : l.length ≤ 100000000) :
    Calls Try.prog 30 #[v, .slice A fs.length c] w fun e w' => ∃ v', e = .returned v' ∧ Own W w' (star (row (Kd.int .u8) 5 v' (l ++ encS fs)) R) :=
  have hB := hO.below
  hO.frameV (Post := fun v' => row (Kd.int .u8) 5 v' (l ++ encS fs)) fun F hp hF => (rfields F v l fs A c w hp.1 hp.2 (CS.of_arg hb hB hF) hn hs hl).mono fun e w' ⟨v', he, hR, hk⟩ => ⟨v', he, row_back hR hk⟩
end
/-- A part, read where it stands. -/
theorem part_at {W : World} {A0 : Option Addr} {l0 : List S53} (hr : Kd.C k53 W A0 l0.length l0) (hg : ∀ x ∈ l0, PartOk x) (i : Nat) (hlt : i < l0.length) :
    ∃ ad f0 m f2 f3 A2 c2 A3 c3, A0 = some ad ∧ l0.drop i = ⟨f0, ((m : Nat) : Int), f2, f3⟩ :: l0.drop (i + 1) ∧ PartOk ⟨f0, (m : Int), f2, f3⟩ ∧
      (∀ w', Below W.heap.size W w' → w'.cell? (ad.add (i * 4)) = some (.int .u8 f0) ∧ w'.cell? ⟨(ad.add (i * 4)).block, (ad.add (i * 4)).off + 1, none⟩ = some (.int .u64 (m : Int)) ∧ w'.cell? ⟨(ad.add (i * 4)).block, (ad.add (i * 4)).off + 2, none⟩ = some (.slice A2 f2.length c2) ∧ w'.cell? ⟨(ad.add (i * 4)).block, (ad.add (i * 4)).off + 3, none⟩ = some (.slice A3 f3.length c3)) ∧
      f2.length ≤ c2 ∧ Kd.C (Kd.int .u8) W A2 f2.length f2 ∧ f3.length ≤ c3 ∧ Kd.C k66 W A3 f3.length f3 := by
  obtain ⟨ad, A2, c2, A3, c3, e, h0, h1, h2, h3, l2, g2, l3, g3⟩ := at_T53 hr (i : Int) (by omega) (by omega)
  have hx := hg _ (List.getElem_mem (l := l0) hlt)
  have hd : l0.drop i = l0[i] :: l0.drop (i + 1) := List.drop_eq_getElem_cons hlt
  have e1 : rd_T53 l0 (i : Int) = l0[i] := by unfold rd_T53; rw [Int.toNat_natCast, List.getD_eq_getElem?_getD, List.getElem?_eq_getElem hlt]; rfl
  rw [e1] at h0 h1 h2 h3 l2 g2 l3 g3
  rw [Int.toNat_natCast] at h0 h1 h2 h3
  generalize l0[i] = x at *
  obtain ⟨f0, f1, f2, f3⟩ := x
  obtain ⟨m, rfl⟩ : ∃ m : Nat, f1 = (m : Int) := ⟨f1.toNat, by have := hx.num; show f1 = _; simp only at this; omega⟩
  have mv : ∀ {p : Addr} {u : Value}, W.cell? p = some u → ∀ w', Below W.heap.size W w' → w'.cell? p = some u := fun hc w' hb => (hb.cell (World.block_lt_of_cell? W _ hc)).trans hc
  exact ⟨ad, f0, m, f2, f3, A2, c2, A3, c3, e, hd, hx, fun w' hb => ⟨mv h0 w' hb, mv h1 w' hb, mv h2 w' hb, mv h3 w' hb⟩, l2, g2, l3, g3⟩
end Go.Proofs.Ythbapljhhglamaa.Code
