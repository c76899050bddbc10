/- The document's writing of a list, beside other things. -/
import Derived.Test.YthbapljhhglamaaCodeP
import Derived.Deep.DeepMust
set_option linter.unusedVariables false
set_option linter.unusedSimpArgs false
namespace Go.Proofs.Ythbapljhhglamaa.Code
open Go.RowKit Go.Proofs.Ythbapljhhglamaa.G Go.Proofs.YthbapljhhglamaaW.PrintWords Go.Proofs.YthbapljhhglamaaW.PrintMore Go.Proofs.Ythbapljhhglamaa.Foot Go.Proofs.Ythbapljhhglamaa.CodeL Go.Proofs.Ythbapljhhglamaa.Leaf Go.Proofs.Ythbapljhhglamaa.Plain

/-- A text, written behind a row of the call's own. -/
theorem rtext (F : Nat → Prop) (v : Value) (l b : List Int) (A : Option Addr) (c : Nat) (w : World) (hR : Kd.R (Kd.int .u8) 5 w 0 F v l) (hb : CS (Kd.int .u8) F w A b.length b) (hc : b.length ≤ c) (hn : b.length ≤ 1000000) (hl : l.length ≤ 1000000000) :
    Calls Try.prog 28 #[v, .slice A b.length c] w fun e w' => ∃ v', e = .returned v' ∧ Kd.R (Kd.int .u8) 5 w' 0 (fun k => F k ∨ w.heap.size ≤ k) v' (l ++ encT b) ∧ Keeps F w w' := by
  obtain ⟨k, hk⟩ := (reftext_ev l b hn hl).rounds
  refine (ambryref1_Text.calls k F v l A c b (l ++ encT b) (bare w) w (bare_below w) hR (fun W_ hW => ?_) hc hk).mono ?_
  · exact C_move (hb { w with heap := W_.heap } ⟨rfl, rfl, rfl, hW.1, hW.2⟩) (fun a ha => rfl)
  · rintro e w' ⟨v', rfl, hR', hB, hK⟩
    exact ⟨v', rfl, hR', kept_keeps hB hK⟩
theorem rnum (F : Nat → Prop) (v : Value) (l : List Int) (n : Nat) (w : World) (hR : Kd.R (Kd.int .u8) 5 w 0 F v l) (hn : n < 18446744073709551616) (hl : l.length ≤ 1000000000) :
    Calls Try.prog 27 #[v, .int .u64 (n : Int)] w fun e w' => ∃ v', e = .returned v' ∧ Kd.R (Kd.int .u8) 5 w' 0 (fun k => F k ∨ w.heap.size ≤ k) v' (l ++ enc n) ∧ Keeps F w w' := by
  have he := enc_len10 (n := n) (by omega)
  obtain ⟨k, hk⟩ := (refnum_ev n l (by omega)).rounds
  refine (ambryref1_Num.calls k F v l (n : Int) (l ++ enc n) (bare w) w (bare_below w) hR hk).mono ?_
  rintro e w' ⟨v', rfl, hR', hB, hK⟩
  exact ⟨v', rfl, hR', kept_keeps hB hK⟩
/-- A row in the zone Z; since w0 nothing but F has turned. -/
structure At (F : Nat → Prop) (w0 : World) (Z : Nat → Prop) (acc : List Int) (v : Value) (w : World) : Prop where
  row : Kd.R (Kd.int .u8) 5 w 0 Z v acc
  keeps : Keeps F w0 w
  zone : ∀ k, Z k → F k ∨ w0.heap.size ≤ k
  lt : ∀ k, Z k → k < w.heap.size
section
variable {F Z : Nat → Prop} {w0 w : World} {acc : List Int} {v : Value}
theorem At.below {w' : World} (h : At F w0 Z acc v w) (hb : Below w.heap.size w w') : At F w0 Z acc v w' :=
  ⟨Kd.R_move h.row (fun k hk => hb.block k (h.lt k hk)), h.keeps.then_below hb, h.zone, fun k hk => Nat.lt_of_lt_of_le (h.lt k hk) hb.size⟩
theorem bytes_b (w : World) (e : Nat) (s : ByteArray) : Below w.heap.size w (Lib.bytesWorld w e s) := bytes_below (Below.refl _ _) (Nat.le_refl _) _ _
theorem At.conv (h : At F w0 Z acc v w) (s : ByteArray) : At F w0 Z acc v (Lib.bytesWorld w 5 s) := h.below (bytes_b w _ s)
theorem At.made (h : At F w0 Z acc v w) (s : ByteArray) (hs : s.size ≤ 1000000) : CS (Kd.int .u8) Z (Lib.bytesWorld w 5 s) (some ⟨w.heap.size, 0, none⟩) s.size (bytesOf s) :=
  (CS.made w 5 s (by omega)).step (Keeps.refl _ _) (fun k hk => .inl (h.lt k hk))
theorem cs_conv {A : Option Addr} {n : Nat} {xs : List Int} (h : CS (Kd.int .u8) Z w A n xs) (hZ : ∀ k, Z k → k < w.heap.size) (s : ByteArray) : CS (Kd.int .u8) Z (Lib.bytesWorld w 5 s) A n xs :=
  h.step (.of_below (bytes_b w _ s)) (fun k hk => .inl hk)
def Grow (Z : Nat → Prop) (w w' : World) : Nat → Prop := fun k => (Z k ∨ w.heap.size ≤ k) ∧ k < w'.heap.size
theorem cs_grow {w' : World} {A : Option Addr} {n : Nat} {xs : List Int} (h : CS (Kd.int .u8) Z w A n xs) (hk : Keeps Z w w') : CS (Kd.int .u8) (Grow Z w w') w' A n xs := h.step hk (fun k hk => hk.1)
theorem At.grow {w' : World} {acc' : List Int} {v' : Value} (h : At F w0 Z acc v w) (hR : Kd.R (Kd.int .u8) 5 w' 0 (fun k => Z k ∨ w.heap.size ≤ k) v' acc') (hk : Keeps Z w w') : At F w0 (Grow Z w w') acc' v' w' :=
  ⟨Kd.R_mono (Kd.R_bound hR) (fun k hk => ⟨hk.1, hk.2.2.1⟩), h.keeps.trans hk h.zone, fun k hk => hk.1.elim (h.zone k) (fun h1 => .inr (Nat.le_trans h.keeps.size h1)), fun k hk => hk.2⟩
theorem At.text (h : At F w0 Z acc v w) {A : Option Addr} {s : ByteArray} (c : Nat) (hC : CS (Kd.int .u8) Z w A s.size (bytesOf s)) (hc : s.size ≤ c) (hs : s.size ≤ 1000000) (hl : acc.length ≤ 1000000000) :
    Calls Try.prog 28 #[v, .slice A s.size c] w fun e w' => ∃ v', e = .returned v' ∧ At F w0 (Grow Z w w') (acc ++ encT (bytesOf s)) v' w' ∧ Keeps Z w w' := by
  have e := bytesOf_length s
  rw [← e] at hC hc ⊢
  refine (rtext Z v acc (bytesOf s) A c w h.row hC hc (by omega) hl).mono ?_
  rintro e w' ⟨v', rfl, hR, hk⟩
  exact ⟨v', rfl, h.grow hR hk, hk⟩
end
set_option maxHeartbeats 4000000 in
set_option maxRecDepth 100000 in
theorem rfields (F : Nat → Prop) (v : Value) (l : List Int) (fs : List (S66)) (A : Option Addr) (c : Nat) (w : World) (hR : Kd.R (Kd.int .u8) 5 w 0 F v l) (hF : ∀ k, F k → k < w.heap.size) (hb : CS k66 F w A fs.length fs) (hn : fs.length ≤ 100) (hs : ∀ x ∈ fs, x.f0.size ≤ 10000 ∧ x.f1.size ≤ 10000) (hl : l.length ≤ 100000000) :
    Calls Try.prog 30 #[v, .slice A fs.length c] w fun e w' => ∃ v', e = .returned v' ∧ Kd.R (Kd.int .u8) 5 w' 0 (fun k => F k ∨ w.heap.size ≤ k) v' (l ++ encS fs) ∧ Keeps F w w' := by
  have HI := Lib.hid hR
  have HC := Lib.hid hb
  have HS := Lib.hid hs
  have HF := Lib.hid hF
  clear hR hb hs hF
  go_enter Try.func30, Try.ntmps30
  go_wp2_with fail
  refine (rnum F v l fs.length _ HI.out (by omega) (by omega)).mono ?_
  rintro e w1 ⟨v1, rfl, hR1, hk1⟩
  have HA1 := Lib.hid (show At F w (Grow F w w1) (l ++ enc fs.length) v1 w1 from At.grow ⟨HI.out, Keeps.refl _ _, fun k h => .inl h, HF.out⟩ hR1 hk1)
  clear hR1 hk1 HI
  go_wp2
  go_loopw [0, 5] (fun v0 v5 wr => ∃ (i : Nat) (acc : List Int) (Z : Nat → Prop), v5 = .int .i64 (i : Int) ∧ i ≤ fs.length ∧ Aside0 (acc ++ encFs (fs.drop i) = l ++ encS fs) ∧ Aside0 (acc.length ≤ 100000020 + 30000 * i) ∧ Aside0 (At F w Z acc v0 wr)) (fun _ v5 _ => fs.length - (intOf v5).toNat)
  case atStart => exact ⟨0, l ++ enc fs.length, _, rfl, Nat.zero_le _, ⟨by rw [List.drop_zero]; unfold encS; rw [List.append_assoc]⟩, ⟨by have := (enc_len10 (n := fs.length) (by omega)).2; rw [List.length_append]; omega⟩, ⟨HA1.out⟩⟩
  case round =>
    clear HA1
    obtain ⟨i, acc, Z, rfl, hi, HA, HL, HAT⟩ := hrel
    by_cases hlt : i < fs.length
    · obtain ⟨x, hxx⟩ : ∃ x, rd_T66 fs (i : Int) = x := ⟨_, rfl⟩
      have hxi : fs[i] = x := by rw [← hxx]; unfold rd_T66; rw [Int.toNat_natCast, List.getD_eq_getElem?_getD, List.getElem?_eq_getElem hlt]; rfl
      have hx := HS.out _ (List.getElem_mem (l := fs) hlt)
      rw [hxi] at hx
      obtain ⟨f0, f1⟩ := x
      have hat : ∀ w', Keeps F w w' → ∃ ad, A = some ad ∧ w'.cell? (ad.add (i * 2)) = some (.string f0) ∧ w'.cell? ⟨(ad.add (i * 2)).block, (ad.add (i * 2)).off + 1, none⟩ = some (.string f1) := fun w' hk => by
        obtain ⟨ad, e, h0, h1⟩ := at_T66 (HC.out w' hk) (i : Int) (by omega) (by omega)
        rw [hxx, Int.toNat_natCast] at h0 h1
        exact ⟨ad, e, h0, h1⟩
      obtain ⟨ad, rfl, _, _⟩ := hat _ HAT.out.keeps
      have HAD := Lib.hid (show ∀ w', Keeps F w w' → w'.cell? (ad.add (i * 2)) = some (.string f0) ∧ w'.cell? ⟨(ad.add (i * 2)).block, (ad.add (i * 2)).off + 1, none⟩ = some (.string f1) from fun w' hk => by
        obtain ⟨ad', e, h0, h1⟩ := hat w' hk
        injection e with e
        subst e
        exact ⟨h0, h1⟩)
      have HD := Lib.hid (by rw [← hxi]; exact List.drop_eq_getElem_cons hlt : fs.drop i = ⟨f0, f1⟩ :: fs.drop (i + 1))
      have hs0 : f0.size ≤ 10000 := hx.1
      have hs1 : f1.size ≤ 10000 := hx.2
      have hll := HL.out
      have HLE := Lib.hid (show (acc ++ encT (bytesOf f0)).length ≤ 1000000000 by
        have := (enc_len10 (n := (bytesOf f0).length) (by rw [bytesOf_length]; omega)).2
        unfold encT
        rw [List.length_append, List.length_append, bytesOf_length]
        rw [bytesOf_length] at this
        omega)
      clear hxx hxi hx hat hll
      have kb := fun s W => print_bytes (P := Try.prog) 9 22 5 Try.underlying9 Try.underlying22 Try.underlying5 s W
      have hi0 : (0 : Int) ≤ (i : Int) := by omega
      have hi1 : (i : Int) < (fs.length : Int) := by omega
      have HAU := Lib.hid (HAT.out.below (below_drew (Below.refl _ _)))
      have HE2 := Lib.hid (show acc ++ encT (bytesOf f0) ++ encT (bytesOf f1) ++ encFs (fs.drop (i + 1)) = l ++ encS fs by
        rw [← HA.out, HD.out]
        show _ = acc ++ (encT (bytesOf f0) ++ encT (bytesOf f1) ++ encFs (fs.drop (i + 1)))
        simp only [List.append_assoc])
      have HL2 := Lib.hid (show (acc ++ encT (bytesOf f0) ++ encT (bytesOf f1)).length ≤ 100000020 + 30000 * (i + 1) by
        have h0 := bytesOf_length f0
        have h1 := bytesOf_length f1
        have e0 := (enc_len10 (n := (bytesOf f0).length) (by omega)).2
        have e1 := (enc_len10 (n := (bytesOf f1).length) (by omega)).2
        have := HL.out
        unfold encT
        simp only [List.length_append]
        omega)
      clear HA HD
      go_wp2_with fail
      -- REGION
      refine OrdE.beginS (fun w' => w'.cell? (ad.add (i * 2)) = some (.string f0) ∧ w'.cell? ⟨(ad.add (i * 2)).block, (ad.add (i * 2)).off + 1, none⟩ = some (.string f1)) (fun _ => true) (by kernel_rfl) ?_
      refine OrdE.takeK (i := 0) (oi := { dst := some 17, op := Go.Op.move (Go.Operand.tmp 0), type := 22, pos := "ambryref1.go:109", after := #[], guard := none }) (v := u0) rfl (by kernel_rfl) (by kernel_rfl) (by kernel_rfl) (by kernel_rfl) (fun _ _ _ h => h) (by rfl) ?_ (HAD.out _ HAU.out.keeps) ?_
      · intro w hS; obtain ⟨hx0, hx1⟩ := hS; go_simp
      try simp only [Act.put, List.setIfInBounds_toArray, List.set_cons_zero, List.set_cons_succ]
      refine OrdE.takeK (i := 1) (oi := { dst := some 18, op := Go.Op.move (Go.Operand.tmp 1), type := 48, pos := "ambryref1.go:109", after := #[], guard := none }) (v := .slice (some ad) fs.length c) rfl (by kernel_rfl) (by kernel_rfl) (by kernel_rfl) (by kernel_rfl) (fun _ _ _ h => h) (by rfl) ?_ (HAD.out _ HAU.out.keeps) ?_
      · intro w hS; obtain ⟨hx0, hx1⟩ := hS; go_simp
      try simp only [Act.put, List.setIfInBounds_toArray, List.set_cons_zero, List.set_cons_succ]
      refine OrdE.takeK (i := 2) (oi := { dst := some 19, op := Go.Op.move (Go.Operand.tmp 5), type := 3, pos := "ambryref1.go:109", after := #[], guard := none }) (v := .int .i64 (i : Int)) rfl (by kernel_rfl) (by kernel_rfl) (by kernel_rfl) (by kernel_rfl) (fun _ _ _ h => h) (by rfl) ?_ (HAD.out _ HAU.out.keeps) ?_
      · intro w hS; obtain ⟨hx0, hx1⟩ := hS; go_simp
      try simp only [Act.put, List.setIfInBounds_toArray, List.set_cons_zero, List.set_cons_succ]
      refine OrdE.takeK (i := 3) (oi := { dst := some 20, op := Go.Op.indexAddr 48 (Go.Operand.tmp 18) (Go.Operand.tmp 19), type := 0, pos := "ambryref1.go:109", after := #[{ on := 1, ground := Go.Ground.data }, { on := 2, ground := Go.Ground.data }], guard := none }) (v := .pointer (some (ad.add (i * 2)))) rfl (by kernel_rfl) (by kernel_rfl) (by kernel_rfl) (by kernel_rfl) (fun _ _ _ h => h) (by rfl) ?_ (HAD.out _ HAU.out.keeps) ?_
      · intro w hS; obtain ⟨hx0, hx1⟩ := hS; go_simp
      try simp only [Act.put, List.setIfInBounds_toArray, List.set_cons_zero, List.set_cons_succ]
      refine OrdE.takeK (i := 4) (oi := { dst := some 21, op := Go.Op.fieldAddr 66 (Go.Operand.tmp 20) 0, type := 0, pos := "ambryref1.go:109", after := #[{ on := 3, ground := Go.Ground.data }], guard := none }) (v := .pointer (some (ad.add (i * 2)))) rfl (by kernel_rfl) (by kernel_rfl) (by kernel_rfl) (by kernel_rfl) (fun _ _ _ h => h) (by rfl) ?_ (HAD.out _ HAU.out.keeps) ?_
      · intro w hS; obtain ⟨hx0, hx1⟩ := hS; go_simp
      try simp only [Act.put, List.setIfInBounds_toArray, List.set_cons_zero, List.set_cons_succ]
      refine OrdE.takeK (i := 5) (oi := { dst := some 22, op := Go.Op.load 9 (Go.Operand.tmp 21), type := 9, pos := "ambryref1.go:109", after := #[{ on := 4, ground := Go.Ground.data }], guard := none }) (v := .string f0) rfl (by kernel_rfl) (by kernel_rfl) (by kernel_rfl) (by kernel_rfl) (fun _ _ _ h => h) (by rfl) ?_ (HAD.out _ HAU.out.keeps) ?_
      · intro w hS; obtain ⟨hx0, hx1⟩ := hS; go_simp
      try simp only [Act.put, List.setIfInBounds_toArray, List.set_cons_zero, List.set_cons_succ]
      refine OrdE.takeK (i := 8) (oi := { dst := some 25, op := Go.Op.move (Go.Operand.tmp 1), type := 48, pos := "ambryref1.go:109", after := #[], guard := none }) (v := .slice (some ad) fs.length c) rfl (by kernel_rfl) (by kernel_rfl) (by kernel_rfl) (by kernel_rfl) (fun _ _ _ h => h) (by rfl) ?_ (HAD.out _ HAU.out.keeps) ?_
      · intro w hS; obtain ⟨hx0, hx1⟩ := hS; go_simp
      try simp only [Act.put, List.setIfInBounds_toArray, List.set_cons_zero, List.set_cons_succ]
      refine OrdE.takeK (i := 9) (oi := { dst := some 26, op := Go.Op.move (Go.Operand.tmp 5), type := 3, pos := "ambryref1.go:109", after := #[], guard := none }) (v := .int .i64 (i : Int)) rfl (by kernel_rfl) (by kernel_rfl) (by kernel_rfl) (by kernel_rfl) (fun _ _ _ h => h) (by rfl) ?_ (HAD.out _ HAU.out.keeps) ?_
      · intro w hS; obtain ⟨hx0, hx1⟩ := hS; go_simp
      try simp only [Act.put, List.setIfInBounds_toArray, List.set_cons_zero, List.set_cons_succ]
      refine OrdE.takeK (i := 10) (oi := { dst := some 27, op := Go.Op.indexAddr 48 (Go.Operand.tmp 25) (Go.Operand.tmp 26), type := 0, pos := "ambryref1.go:109", after := #[{ on := 8, ground := Go.Ground.data }, { on := 9, ground := Go.Ground.data }], guard := none }) (v := .pointer (some (ad.add (i * 2)))) rfl (by kernel_rfl) (by kernel_rfl) (by kernel_rfl) (by kernel_rfl) (fun _ _ _ h => h) (by rfl) ?_ (HAD.out _ HAU.out.keeps) ?_
      · intro w hS; obtain ⟨hx0, hx1⟩ := hS; go_simp
      try simp only [Act.put, List.setIfInBounds_toArray, List.set_cons_zero, List.set_cons_succ]
      refine OrdE.takeK (i := 11) (oi := { dst := some 28, op := Go.Op.fieldAddr 66 (Go.Operand.tmp 27) 1, type := 0, pos := "ambryref1.go:109", after := #[{ on := 10, ground := Go.Ground.data }], guard := none }) (v := .pointer (some ⟨(ad.add (i * 2)).block, (ad.add (i * 2)).off + 1, none⟩)) rfl (by kernel_rfl) (by kernel_rfl) (by kernel_rfl) (by kernel_rfl) (fun _ _ _ h => h) (by rfl) ?_ (HAD.out _ HAU.out.keeps) ?_
      · intro w hS; obtain ⟨hx0, hx1⟩ := hS; go_simp
      try simp only [Act.put, List.setIfInBounds_toArray, List.set_cons_zero, List.set_cons_succ]
      refine OrdE.takeK (i := 12) (oi := { dst := some 29, op := Go.Op.load 9 (Go.Operand.tmp 28), type := 9, pos := "ambryref1.go:109", after := #[{ on := 11, ground := Go.Ground.data }], guard := none }) (v := .string f1) rfl (by kernel_rfl) (by kernel_rfl) (by kernel_rfl) (by kernel_rfl) (fun _ _ _ h => h) (by rfl) ?_ (HAD.out _ HAU.out.keeps) ?_
      · intro w hS; obtain ⟨hx0, hx1⟩ := hS; go_simp
      try simp only [Act.put, List.setIfInBounds_toArray, List.set_cons_zero, List.set_cons_succ]
      refine OrdE.twoE (i := 6) (j := 13) (o := { dst := some 23, op := Go.Op.convert 9 22 (Go.Operand.tmp 22), type := 22, pos := "ambryref1.go:109", after := #[{ on := 5, ground := Go.Ground.data }], guard := none }) (oj := { dst := some 30, op := Go.Op.convert 9 22 (Go.Operand.tmp 29), type := 22, pos := "ambryref1.go:109", after := #[{ on := 12, ground := Go.Ground.data }], guard := none }) (by kernel_rfl) rfl rfl (fun K hK => ?_) (fun K hK => ?_)
      · go_simp
        refine hK.out _ _ (fun _ => HAD.out _ (HAU.out.conv f0).keeps) ?_
        clear hK K
        try simp only [Act.put, List.setIfInBounds_toArray, List.set_cons_zero, List.set_cons_succ]
        refine OrdE.twoE (i := 7) (j := 13) (o := { dst := some 24, op := Go.Op.call { callee := Go.Callee.value (Go.Operand.func 28), args := #[Go.Operand.tmp 17, Go.Operand.tmp 23], argTypes := #[22, 22] }, type := 22, pos := "ambryref1.go:109", after := #[{ on := 0, ground := Go.Ground.data }, { on := 6, ground := Go.Ground.data }], guard := none }) (oj := { dst := some 30, op := Go.Op.convert 9 22 (Go.Operand.tmp 29), type := 22, pos := "ambryref1.go:109", after := #[{ on := 12, ground := Go.Ground.data }], guard := none }) (by kernel_rfl) rfl rfl (fun K hK => ?_) (fun K hK => ?_)
        · go_simp
          refine (At.text (HAU.out.conv f0) _ (HAU.out.made f0 (by omega)) (grownCap_ge _ _ _ _) (by omega) (by have := HL.out; omega)).mono ?_
          rintro e w5 ⟨v5, rfl, h5, k5⟩
          have HAT5 := Lib.hid h5
          clear h5 k5
          refine hK.out _ _ (fun _ => HAD.out _ HAT5.out.keeps) ?_
          clear hK K
          try simp only [Act.put, List.setIfInBounds_toArray, List.set_cons_zero, List.set_cons_succ]
          refine OrdE.oneE (i := 13) (o := { dst := some 30, op := Go.Op.convert 9 22 (Go.Operand.tmp 29), type := 22, pos := "ambryref1.go:109", after := #[{ on := 12, ground := Go.Ground.data }], guard := none }) (by kernel_rfl) rfl (fun K hK => ?_)
          go_simp
          refine hK.out _ _ (fun _ => HAD.out _ (HAT5.out.conv f1).keeps) ?_
          clear hK K
          try simp only [Act.put, List.setIfInBounds_toArray, List.set_cons_zero, List.set_cons_succ]
          refine OrdE.oneE (i := 14) (o := { dst := some 31, op := Go.Op.call { callee := Go.Callee.value (Go.Operand.func 28), args := #[Go.Operand.tmp 24, Go.Operand.tmp 30], argTypes := #[22, 22] }, type := 22, pos := "ambryref1.go:109", after := #[{ on := 7, ground := Go.Ground.data }, { on := 13, ground := Go.Ground.data }, { on := 7, ground := Go.Ground.chain }], guard := none }) (by kernel_rfl) rfl (fun K hK => ?_)
          go_simp
          refine (At.text (HAT5.out.conv f1) _ (HAT5.out.made f1 (by omega)) (grownCap_ge _ _ _ _) (by omega) HLE.out).mono ?_
          rintro e w6 ⟨v6, rfl, h6, k6⟩
          have HAT6 := Lib.hid h6
          clear h6 k6
          refine hK.out _ _ (fun _ => HAD.out _ HAT6.out.keeps) ?_
          clear hK K
          try simp only [Act.put, List.setIfInBounds_toArray, List.set_cons_zero, List.set_cons_succ]
          refine OrdE.oneE (i := 15) (o := { dst := some 0, op := Go.Op.assign (Go.Operand.tmp 31), type := 22, pos := "ambryref1.go:109", after := #[{ on := 14, ground := Go.Ground.data }, { on := 14, ground := Go.Ground.chain }, { on := 0, ground := Go.Ground.phase }, { on := 1, ground := Go.Ground.phase }, { on := 2, ground := Go.Ground.phase }, { on := 3, ground := Go.Ground.phase }, { on := 4, ground := Go.Ground.phase }, { on := 5, ground := Go.Ground.phase }, { on := 6, ground := Go.Ground.phase }, { on := 7, ground := Go.Ground.phase }, { on := 8, ground := Go.Ground.phase }, { on := 9, ground := Go.Ground.phase }, { on := 10, ground := Go.Ground.phase }, { on := 11, ground := Go.Ground.phase }, { on := 12, ground := Go.Ground.phase }, { on := 13, ground := Go.Ground.phase }, { on := 14, ground := Go.Ground.phase }], guard := none }) (by kernel_rfl) rfl (fun K hK => ?_)
          go_simp
          refine hK.out _ _ (fun _ => HAD.out _ HAT6.out.keeps) ?_
          clear hK K
          try simp only [Act.put, List.setIfInBounds_toArray, List.set_cons_zero, List.set_cons_succ]
          refine OrdE.doneE (by kernel_rfl) ?_ _
          go_wp2
          go_roundw
          case rel => exact ⟨i + 1, acc ++ encT (bytesOf f0) ++ encT (bytesOf f1), _, by go_num, by omega, ⟨HE2.out⟩, ⟨HL2.out⟩, ⟨HAT6.out⟩⟩
          case measure => simp [intOf]; omega
        · go_simp
          refine hK.out _ _ (fun _ => HAD.out _ ((HAU.out.conv f0).conv f1).keeps) ?_
          clear hK K
          try simp only [Act.put, List.setIfInBounds_toArray, List.set_cons_zero, List.set_cons_succ]
          refine OrdE.oneE (i := 7) (o := { dst := some 24, op := Go.Op.call { callee := Go.Callee.value (Go.Operand.func 28), args := #[Go.Operand.tmp 17, Go.Operand.tmp 23], argTypes := #[22, 22] }, type := 22, pos := "ambryref1.go:109", after := #[{ on := 0, ground := Go.Ground.data }, { on := 6, ground := Go.Ground.data }], guard := none }) (by kernel_rfl) rfl (fun K hK => ?_)
          go_simp
          refine (At.text ((HAU.out.conv f0).conv f1) _ (cs_conv (HAU.out.made f0 (by omega)) (HAU.out.conv f0).lt f1) (grownCap_ge _ _ _ _) (by omega) (by have := HL.out; omega)).mono ?_
          rintro e w5 ⟨v5, rfl, h5, k5⟩
          have HAT5 := Lib.hid h5
          have HC5 := Lib.hid (cs_grow ((HAU.out.conv f0).made f1 (by omega)) k5)
          clear h5 k5
          refine hK.out _ _ (fun _ => HAD.out _ HAT5.out.keeps) ?_
          clear hK K
          try simp only [Act.put, List.setIfInBounds_toArray, List.set_cons_zero, List.set_cons_succ]
          refine OrdE.oneE (i := 14) (o := { dst := some 31, op := Go.Op.call { callee := Go.Callee.value (Go.Operand.func 28), args := #[Go.Operand.tmp 24, Go.Operand.tmp 30], argTypes := #[22, 22] }, type := 22, pos := "ambryref1.go:109", after := #[{ on := 7, ground := Go.Ground.data }, { on := 13, ground := Go.Ground.data }, { on := 7, ground := Go.Ground.chain }], guard := none }) (by kernel_rfl) rfl (fun K hK => ?_)
          go_simp
          refine (At.text HAT5.out _ HC5.out (grownCap_ge _ _ _ _) (by omega) HLE.out).mono ?_
          rintro e w6 ⟨v6, rfl, h6, k6⟩
          have HAT6 := Lib.hid h6
          clear h6 k6
          refine hK.out _ _ (fun _ => HAD.out _ HAT6.out.keeps) ?_
          clear hK K
          try simp only [Act.put, List.setIfInBounds_toArray, List.set_cons_zero, List.set_cons_succ]
          refine OrdE.oneE (i := 15) (o := { dst := some 0, op := Go.Op.assign (Go.Operand.tmp 31), type := 22, pos := "ambryref1.go:109", after := #[{ on := 14, ground := Go.Ground.data }, { on := 14, ground := Go.Ground.chain }, { on := 0, ground := Go.Ground.phase }, { on := 1, ground := Go.Ground.phase }, { on := 2, ground := Go.Ground.phase }, { on := 3, ground := Go.Ground.phase }, { on := 4, ground := Go.Ground.phase }, { on := 5, ground := Go.Ground.phase }, { on := 6, ground := Go.Ground.phase }, { on := 7, ground := Go.Ground.phase }, { on := 8, ground := Go.Ground.phase }, { on := 9, ground := Go.Ground.phase }, { on := 10, ground := Go.Ground.phase }, { on := 11, ground := Go.Ground.phase }, { on := 12, ground := Go.Ground.phase }, { on := 13, ground := Go.Ground.phase }, { on := 14, ground := Go.Ground.phase }], guard := none }) (by kernel_rfl) rfl (fun K hK => ?_)
          go_simp
          refine hK.out _ _ (fun _ => HAD.out _ HAT6.out.keeps) ?_
          clear hK K
          try simp only [Act.put, List.setIfInBounds_toArray, List.set_cons_zero, List.set_cons_succ]
          refine OrdE.doneE (by kernel_rfl) ?_ _
          go_wp2
          go_roundw
          case rel => exact ⟨i + 1, acc ++ encT (bytesOf f0) ++ encT (bytesOf f1), _, by go_num, by omega, ⟨HE2.out⟩, ⟨HL2.out⟩, ⟨HAT6.out⟩⟩
          case measure => simp [intOf]; omega
      · go_simp
        refine hK.out _ _ (fun _ => HAD.out _ (HAU.out.conv f1).keeps) ?_
        clear hK K
        try simp only [Act.put, List.setIfInBounds_toArray, List.set_cons_zero, List.set_cons_succ]
        refine OrdE.oneE (i := 6) (o := { dst := some 23, op := Go.Op.convert 9 22 (Go.Operand.tmp 22), type := 22, pos := "ambryref1.go:109", after := #[{ on := 5, ground := Go.Ground.data }], guard := none }) (by kernel_rfl) rfl (fun K hK => ?_)
        go_simp
        refine hK.out _ _ (fun _ => HAD.out _ ((HAU.out.conv f1).conv f0).keeps) ?_
        clear hK K
        try simp only [Act.put, List.setIfInBounds_toArray, List.set_cons_zero, List.set_cons_succ]
        refine OrdE.oneE (i := 7) (o := { dst := some 24, op := Go.Op.call { callee := Go.Callee.value (Go.Operand.func 28), args := #[Go.Operand.tmp 17, Go.Operand.tmp 23], argTypes := #[22, 22] }, type := 22, pos := "ambryref1.go:109", after := #[{ on := 0, ground := Go.Ground.data }, { on := 6, ground := Go.Ground.data }], guard := none }) (by kernel_rfl) rfl (fun K hK => ?_)
        go_simp
        refine (At.text ((HAU.out.conv f1).conv f0) _ ((HAU.out.conv f1).made f0 (by omega)) (grownCap_ge _ _ _ _) (by omega) (by have := HL.out; omega)).mono ?_
        rintro e w5 ⟨v5, rfl, h5, k5⟩
        have HAT5 := Lib.hid h5
        have HC5 := Lib.hid (cs_grow (cs_conv (HAU.out.made f1 (by omega)) (HAU.out.conv f1).lt f0) k5)
        clear h5 k5
        refine hK.out _ _ (fun _ => HAD.out _ HAT5.out.keeps) ?_
        clear hK K
        try simp only [Act.put, List.setIfInBounds_toArray, List.set_cons_zero, List.set_cons_succ]
        refine OrdE.oneE (i := 14) (o := { dst := some 31, op := Go.Op.call { callee := Go.Callee.value (Go.Operand.func 28), args := #[Go.Operand.tmp 24, Go.Operand.tmp 30], argTypes := #[22, 22] }, type := 22, pos := "ambryref1.go:109", after := #[{ on := 7, ground := Go.Ground.data }, { on := 13, ground := Go.Ground.data }, { on := 7, ground := Go.Ground.chain }], guard := none }) (by kernel_rfl) rfl (fun K hK => ?_)
        go_simp
        refine (At.text HAT5.out _ HC5.out (grownCap_ge _ _ _ _) (by omega) HLE.out).mono ?_
        rintro e w6 ⟨v6, rfl, h6, k6⟩
        have HAT6 := Lib.hid h6
        clear h6 k6
        refine hK.out _ _ (fun _ => HAD.out _ HAT6.out.keeps) ?_
        clear hK K
        try simp only [Act.put, List.setIfInBounds_toArray, List.set_cons_zero, List.set_cons_succ]
        refine OrdE.oneE (i := 15) (o := { dst := some 0, op := Go.Op.assign (Go.Operand.tmp 31), type := 22, pos := "ambryref1.go:109", after := #[{ on := 14, ground := Go.Ground.data }, { on := 14, ground := Go.Ground.chain }, { on := 0, ground := Go.Ground.phase }, { on := 1, ground := Go.Ground.phase }, { on := 2, ground := Go.Ground.phase }, { on := 3, ground := Go.Ground.phase }, { on := 4, ground := Go.Ground.phase }, { on := 5, ground := Go.Ground.phase }, { on := 6, ground := Go.Ground.phase }, { on := 7, ground := Go.Ground.phase }, { on := 8, ground := Go.Ground.phase }, { on := 9, ground := Go.Ground.phase }, { on := 10, ground := Go.Ground.phase }, { on := 11, ground := Go.Ground.phase }, { on := 12, ground := Go.Ground.phase }, { on := 13, ground := Go.Ground.phase }, { on := 14, ground := Go.Ground.phase }], guard := none }) (by kernel_rfl) rfl (fun K hK => ?_)
        go_simp
        refine hK.out _ _ (fun _ => HAD.out _ HAT6.out.keeps) ?_
        clear hK K
        try simp only [Act.put, List.setIfInBounds_toArray, List.set_cons_zero, List.set_cons_succ]
        refine OrdE.doneE (by kernel_rfl) ?_ _
        go_wp2
        go_roundw
        case rel => exact ⟨i + 1, acc ++ encT (bytesOf f0) ++ encT (bytesOf f1), _, by go_num, by omega, ⟨HE2.out⟩, ⟨HL2.out⟩, ⟨HAT6.out⟩⟩
        case measure => simp [intOf]; omega
      -- END
    · have hin : i = fs.length := by omega
      subst hin
      go_wp2
      go_ret
      refine ⟨_, rfl, ?_, HAT.out.keeps⟩
      have := HA.out
      rw [List.drop_length] at this
      rw [← this]
      show Kd.R _ _ _ _ _ _ (acc ++ [])
      rw [List.append_nil]
      exact Kd.R_mono HAT.out.row HAT.out.zone
end Go.Proofs.Ythbapljhhglamaa.Code
