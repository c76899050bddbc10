/- The document's ChunkBytes. -/
import Derived.Test.YtdhajdgcgjbdnaaDoorChunkV
import Derived.Test.YtdhajdgcgjbdnaaDoorOrdE
import Derived.OpenShut
set_option linter.unusedVariables false
set_option linter.unusedSimpArgs false
namespace Go.Proofs.YtdhajdgcgjbdnaaDoor.Chunk
open Go.RowKit Go.Proofs.YtdhajdgcgjbdnaaDoor.G Go.Proofs.YtdhajdgcgjbdnaaDoorW.PrintWords Go.Proofs.YtdhajdgcgjbdnaaDoorW.PrintMore Go.Proofs.YtdhajdgcgjbdnaaDoor.Foot Go.Proofs.YtdhajdgcgjbdnaaDoor.Plain Go.Proofs.YtdhajdgcgjbdnaaDoor.Marks

def RefPost (xs : List Int) (z : Nat) (w : World) (e : Ending) (w' : World) : Prop :=
  Below w.heap.size w w' ∧ ∃ v k, e = .returned v ∧ MRow w' w.heap.size 5 v (encS xs z (starts z k) ++ [48, 13, 10, 13, 10]) ∧ xs.length ≤ k * z ∧ (k = 0 ∨ (k - 1) * z < xs.length)
theorem C_dropN {w : World} {A : Option Addr} {n : Nat} {xs : List Int} (h : Kd.C (Kd.int .u8) w A n xs) (c m : Nat) (hc : n ≤ c) (hm : m ≤ n) : Kd.C (Kd.int .u8) w (if c = m then A else A.map (fun a => a.add m)) (n - m) (xs.drop m) := by
  obtain rfl := h.1
  by_cases hc : c = m
  · have h0 : xs.length - m = 0 := by omega
    exact ⟨by rw [List.length_drop], by omega, fun h => by omega⟩
  · rw [if_neg hc]
    have := C_cut h m (xs.length - m) (by omega)
    rwa [List.take_of_length_le (by simp)] at this
/-- One piece more. -/
theorem enc_step {xs o r ys : List Int} {z j n m : Nat} {hx : ByteArray} (hz : 1 ≤ z) (ho : o = encS xs z (starts z j)) (hr : r = xs.drop (j * z)) (hn : r.length = n) (hm : min z n = m) (hy : r.take m = ys) (hh : bytesOf hx = hexT 15 m) :
    o ++ bytesOf hx ++ bytesOf ⟨#[13, 10]⟩ ++ ys ++ bytesOf ⟨#[13, 10]⟩ = encS xs z (starts z (j + 1)) := by
  have hp : piece xs z (j * z) = ys := by
    unfold piece
    rw [← hr, show xs.length - j * z = n by rw [← hn, hr, List.length_drop], hm, hy]
  have hyl : ys.length = m := by rw [← hy, List.length_take]; omega
  rw [starts_succ, encS_snoc, hp, ← ho, hh, show bytesOf ⟨#[13, 10]⟩ = [13, 10] from rfl]
  unfold chunkT
  rw [hyl]
  simp only [List.append_assoc]
theorem drop_step {xs r : List Int} {z j n m : Nat} (hr : r = xs.drop (j * z)) (hn : r.length = n) (hm : min z n = m) : r.drop m = xs.drop ((j + 1) * z) := by
  rw [hr, List.drop_drop, Nat.succ_mul]
  rcases Nat.le_total z n with h | h
  · rw [show m = z by omega]
  · have h2 : xs.length - j * z = n := by rw [← hn, hr, List.length_drop]
    rw [List.drop_eq_nil_of_le (by omega), List.drop_eq_nil_of_le (by omega)]
set_option maxHeartbeats 4000000 in
set_option maxRecDepth 100000 in
theorem ref_calls (A0 : Option Addr) (c0 z : Nat) (size : Int) (xs : List Int) (W : World) (hC : Kd.C (Kd.int .u8) W A0 xs.length xs) (hc : xs.length ≤ c0) (hn : xs.length ≤ 100000) (hz : max size 1 = (z : Int)) (hs : size ≤ 9223372036854775807) :
    Calls Tryd.prog 12 #[.slice A0 xs.length c0, .int .i64 size] W (RefPost xs z W) := by
  have hz1 : 1 ≤ z := by omega
  have hz2 : z ≤ 9223372036854775807 := by omega
  have HZ := Lib.hid (show 1 ≤ z ∧ z ≤ 9223372036854775807 from ⟨hz1, hz2⟩)
  have HN := Lib.hid hn
  have hmax : max size 1 = (z : Int) := hz
  have HC0 := Lib.hid hC
  have HCC := Lib.hid hc
  have HBW := Aside0.mk (Below.refl W.heap.size W)
  clear hC hc hn hz hz1 hz2
  go_enter Tryd.func12, Tryd.ntmps12
  go_wp2_with fail
  go_loopw [0, 5, 6] (fun v0 v5 v6 wr => ∃ (j n c : Nat) (A : Option Addr) (o r : List Int), v0 = .slice A n c ∧ Aside0 (n ≤ c ∧ n ≤ xs.length ∧ r = xs.drop (j * z) ∧ r.length = n ∧ (j = 0 ∨ (j - 1) * z < xs.length)) ∧ Aside0 (Kd.C (Kd.int .u8) W A n r) ∧ Aside0 (o = encS xs z (starts z j) ∧ o.length + n ≤ j * 30 + xs.length ∧ j ≤ xs.length + 1) ∧ Aside0 (ARow wr W.heap.size 5 v5 o) ∧ Aside0 (Below W.heap.size W wr)) (fun v0 _ _ _ => match v0 with | .slice _ n _ => n | _ => 0)
  case atStart => exact ⟨0, xs.length, c0, A0, [], xs, rfl, ⟨HCC.out, Nat.le_refl _, by simp, rfl, .inl rfl⟩, ⟨HC0.out⟩, ⟨by simp [starts, encS], by simp, by omega⟩, ⟨.inl ⟨rfl, rfl⟩⟩, HBW⟩
  case round =>
    clear HBW
    obtain ⟨j, n, c, A, o, r, rfl, HR, HC, HO, HA, HB⟩ := hrel
    by_cases hn0 : n = 0
    · subst hn0
      have HJ := Lib.hid (show xs.length ≤ j * z by
        obtain ⟨_, _, h1, h2, _⟩ := HR.out
        rw [h1, List.length_drop] at h2
        omega)
      have HQ := Lib.hid (show o.length ≤ 4000000 by have := HO.out.2; have := HN.out; omega)
      go_wp2_with (first
        | ((with_reducible refine gate_builtin (b := .append) (xs := #[.tmp 30, .const (.string ⟨#[48, 13, 10, 13, 10]⟩)]) rfl ?_); at_builtin; go_must (refine append_a_str W.heap.size rfl (.tmp 30) (.const (.string ⟨#[48, 13, 10, 13, 10]⟩)) 22 9 5 rfl Tryd.underlying22 Tryd.underlying9 info5 u5 o ⟨#[48, 13, 10, 13, 10]⟩ rfl rfl HA.out (by decide) HB.out.size (by have := HQ.out; show _ + 5 ≤ _; omega) ?_); intro v7 w7 hm7 hb7; have HM7 := Aside0.mk hm7; have HB7 := Aside0.mk (HB.out.trans hb7); clear hm7 hb7)
        | fail)
      go_ret
      exact ⟨HB7.out, _, j, rfl, by rw [← HO.out.1]; exact HM7.out, HJ.out, HR.out.2.2.2.2⟩
    · obtain ⟨m, hm⟩ : ∃ m, min z n = m := ⟨_, rfl⟩
      have hmin : min (z : Int) (n : Int) = (m : Int) := by omega
      have hnp : (0 : Int) < (n : Int) := by omega
      have hm0 : (0 : Int) ≤ (m : Int) := by omega
      have hmn : (m : Int) ≤ (n : Int) := by omega
      have hmb : 1 ≤ m ∧ m ≤ n ∧ m ≤ z := by have := HZ.out; omega
      obtain ⟨hx, hhx, hhb⟩ := hex_ref 15 m (by omega) (pow15' (by have := HR.out.2.1; have := HN.out; omega))
      have hxl := hexT_length 15 m
      have HX := Lib.hid (show ambryref10_hexText.f 16 (m : Int) = some hx ∧ bytesOf hx = hexT 15 m ∧ 1 ≤ hx.size ∧ hx.size ≤ 16 from ⟨hhx, hhb, by rw [size_bytes, hhb]; exact hxl.2, by rw [size_bytes, hhb]; exact hxl.1⟩)
      obtain ⟨ys, hys⟩ : ∃ ys, r.take m = ys := ⟨_, rfl⟩
      have hY := C_takeN HC.out m (by have := HR.out.2.2.2.1; omega)
      rw [hys] at hY
      have HY := Lib.hid hY
      have HQ := Lib.hid (show o.length ≤ 4000000 ∧ m ≤ 100000 by have := HO.out.2; have := HN.out; have := HR.out.2.1; omega)
      obtain ⟨i0, hi0, _, hsz0, _⟩ := info_parts info5
      have hcut := cut_to (P := Tryd.prog) 22 5 .i64 Tryd.underlying22 hi0 A n c (m : Int) hm0 hmn (by have := HR.out.1; omega)
      rw [Int.toNat_natCast] at hcut
      have hcut2 := cut_from (P := Tryd.prog) 22 5 .i64 Tryd.underlying22 hi0 1 hsz0 A n c (m : Int) hm0 hmn
      rw [Int.toNat_natCast] at hcut2
      have HM := Lib.hid (show min z n = m ∧ 1 ≤ m ∧ m ≤ n ∧ m ≤ z from ⟨hm, hmb⟩)
      clear hm hmb hhx hhb hxl hY hi0 hsz0
      have HYS := Lib.hid hys
      clear hys
      go_wp2_with fail
      refine OrdE.beginS (fun _ => True) (fun _ => true) (by kernel_rfl) ?_
      have HA2 := Aside0.mk (HA.out.below (Below.refl _ wr).drew)
      have HB2 := Aside0.mk HB.out.drew
      clear HA HB
      generalize wr.drew = w2 at HA2 HB2 ⊢
      refine OrdE.takeK (i := 0) (oi := { dst := some 16, op := Go.Op.move (Go.Operand.tmp 5), type := 22, pos := "ambryref10.go:290", after := #[], guard := none }) (v := u5) rfl (by kernel_rfl) (by kernel_rfl) (by kernel_rfl) (by kernel_rfl) (fun _ _ _ h => h) (by rfl) ?_ (trivial) ?_
      · intro w hS; skip; go_simp
      try simp only [Act.put, List.setIfInBounds_toArray, List.set_cons_zero, List.set_cons_succ]
      refine OrdE.takeK (i := 1) (oi := { dst := some 17, op := Go.Op.move (Go.Operand.tmp 6), type := 3, pos := "ambryref10.go:290", after := #[], guard := none }) (v := .int .i64 (m : Int)) rfl (by kernel_rfl) (by kernel_rfl) (by kernel_rfl) (by kernel_rfl) (fun _ _ _ h => h) (by rfl) ?_ (trivial) ?_
      · intro w hS; skip; go_simp
      try simp only [Act.put, List.setIfInBounds_toArray, List.set_cons_zero, List.set_cons_succ]
      refine OrdE.takeK (i := 5) (oi := { dst := some 21, op := Go.Op.move (Go.Operand.tmp 0), type := 22, pos := "ambryref10.go:290", after := #[], guard := none }) (v := .slice A n c) rfl (by kernel_rfl) (by kernel_rfl) (by kernel_rfl) (by kernel_rfl) (fun _ _ _ h => h) (by rfl) ?_ (trivial) ?_
      · intro w hS; skip; go_simp
      try simp only [Act.put, List.setIfInBounds_toArray, List.set_cons_zero, List.set_cons_succ]
      refine OrdE.takeK (i := 6) (oi := { dst := some 22, op := Go.Op.move (Go.Operand.tmp 6), type := 3, pos := "ambryref10.go:290", after := #[], guard := none }) (v := .int .i64 (m : Int)) rfl (by kernel_rfl) (by kernel_rfl) (by kernel_rfl) (by kernel_rfl) (fun _ _ _ h => h) (by rfl) ?_ (trivial) ?_
      · intro w hS; skip; go_simp
      try simp only [Act.put, List.setIfInBounds_toArray, List.set_cons_zero, List.set_cons_succ]
      refine OrdE.takeK (i := 7) (oi := { dst := some 23, op := Go.Op.slice 22 (Go.Operand.tmp 21) none (some (Go.Operand.tmp 22)) none, type := 22, pos := "ambryref10.go:290", after := #[{ on := 5, ground := Go.Ground.data }, { on := 6, ground := Go.Ground.data }], guard := none }) (v := .slice A m c) rfl (by kernel_rfl) (by kernel_rfl) (by kernel_rfl) (by kernel_rfl) (fun _ _ _ h => h) (by rfl) ?_ (trivial) ?_
      · intro w hS; skip; go_simp
      try simp only [Act.put, List.setIfInBounds_toArray, List.set_cons_zero, List.set_cons_succ]
      refine OrdE.oneE (i := 2) (o := { dst := some 18, op := Go.Op.call { callee := Go.Callee.value (Go.Operand.func 23), args := #[Go.Operand.tmp 17], argTypes := #[3] }, type := 9, pos := "ambryref10.go:290", after := #[{ on := 1, ground := Go.Ground.data }], guard := none }) (by kernel_rfl) rfl (fun K hK => ?_)
      go_simp
      with_reducible refine (ambryref10_hexText.calls 16 (m : Int) hx w2 HX.out.1).mono ?_
      rintro e w3 ⟨rfl, hb3⟩
      have HA3 := Aside0.mk (HA2.out.below hb3)
      have HB3 := Aside0.mk (HB2.out.trans (hb3.mono HB2.out.size))
      clear hb3 HA2 HB2
      simp only []
      refine hK.out _ _ (fun _ => trivial) ?_
      clear hK K
      try simp only [Act.put, List.setIfInBounds_toArray, List.set_cons_zero, List.set_cons_succ]
      refine OrdE.oneE (i := 3) (o := { dst := some 19, op := Go.Op.call { callee := Go.Callee.builtin Go.Builtin.append, args := #[Go.Operand.tmp 16, Go.Operand.tmp 18], argTypes := #[22, 9] }, type := 22, pos := "ambryref10.go:290", after := #[{ on := 0, ground := Go.Ground.data }, { on := 2, ground := Go.Ground.data }, { on := 2, ground := Go.Ground.chain }], guard := none }) (by kernel_rfl) rfl (fun K hK => ?_)
      rw [if_pos (by rfl)]
      refine a_str_step W.heap.size (.tmp 16) (.tmp 18) 22 9 5 (by rfl) Tryd.underlying22 Tryd.underlying9 info5 u5 o hx (by rfl) (by rfl) HA3.out HX.out.2.2.1 HB3.out.size (by have := HX.out.2.2.2; have := HQ.out; omega) ?_
      intro v4 w4 hm4 hb4
      have HM4 := Aside0.mk hm4
      have HB4 := Aside0.mk (HB3.out.trans hb4)
      clear hm4 hb4 HA3 HB3
      refine hK.out _ _ (fun _ => trivial) ?_
      clear hK K
      try simp only [Act.put, List.setIfInBounds_toArray, List.set_cons_zero, List.set_cons_succ]
      refine OrdE.oneE (i := 4) (o := { dst := some 20, op := Go.Op.call { callee := Go.Callee.builtin Go.Builtin.append, args := #[Go.Operand.tmp 19, Go.Operand.const (Go.Value.string { data := #[13, 10] })], argTypes := #[22, 9] }, type := 22, pos := "ambryref10.go:290", after := #[{ on := 3, ground := Go.Ground.data }, { on := 3, ground := Go.Ground.chain }], guard := none }) (by kernel_rfl) rfl (fun K hK => ?_)
      rw [if_pos (by rfl)]
      refine a_str_step W.heap.size (.tmp 19) (.const (.string ⟨#[13, 10]⟩)) 22 9 5 (by rfl) Tryd.underlying22 Tryd.underlying9 info5 v4 (o ++ bytesOf hx) ⟨#[13, 10]⟩ (by rfl) (by rfl) (.inr HM4.out) (by decide) HB4.out.size (by rw [List.length_append, bytesOf_length]; have := HX.out.2.2.2; have := HQ.out; show _ + 2 ≤ _; omega) ?_
      intro v6 w6 hm6 hb6
      have HM6 := Aside0.mk hm6
      have HB6 := Aside0.mk (HB4.out.trans hb6)
      clear hm6 hb6 HM4 HB4
      refine hK.out _ _ (fun _ => trivial) ?_
      clear hK K
      try simp only [Act.put, List.setIfInBounds_toArray, List.set_cons_zero, List.set_cons_succ]
      refine OrdE.oneE (i := 8) (o := { dst := some 24, op := Go.Op.call { callee := Go.Callee.builtin Go.Builtin.append, args := #[Go.Operand.tmp 20, Go.Operand.tmp 23], argTypes := #[22, 22] }, type := 22, pos := "ambryref10.go:290", after := #[{ on := 4, ground := Go.Ground.data }, { on := 7, ground := Go.Ground.data }, { on := 4, ground := Go.Ground.chain }], guard := none }) (by kernel_rfl) rfl (fun K hK => ?_)
      rw [if_pos (by rfl)]
      refine m_row_step W.heap.size (.tmp 20) (.tmp 23) 22 5 (by rfl) Tryd.underlying22 info5 v6 (o ++ bytesOf hx ++ bytesOf ⟨#[13, 10]⟩) ys A m c (by rfl) (by rfl) HM6.out (Kd.C_below HY.out HB6.out) HB6.out.size (by rw [List.length_append, List.length_append, bytesOf_length]; have := HX.out.2.2.2; have := HQ.out; show _ + 2 + _ ≤ _; omega) ?_
      intro v7 w7 hm7 hb7
      have HM7 := Aside0.mk hm7
      have HB7 := Aside0.mk (HB6.out.trans hb7)
      clear hm7 hb7 HM6 HB6
      refine hK.out _ _ (fun _ => trivial) ?_
      clear hK K
      try simp only [Act.put, List.setIfInBounds_toArray, List.set_cons_zero, List.set_cons_succ]
      refine OrdE.oneE (i := 9) (o := { dst := some 5, op := Go.Op.assign (Go.Operand.tmp 24), type := 22, pos := "ambryref10.go:290", after := #[{ on := 8, ground := Go.Ground.data }, { on := 8, ground := Go.Ground.chain }, { on := 0, ground := Go.Ground.phase }, { on := 1, ground := Go.Ground.phase }, { on := 2, ground := Go.Ground.phase }, { on := 3, ground := Go.Ground.phase }, { on := 4, ground := Go.Ground.phase }, { on := 5, ground := Go.Ground.phase }, { on := 6, ground := Go.Ground.phase }, { on := 7, ground := Go.Ground.phase }, { on := 8, ground := Go.Ground.phase }], guard := none }) (by kernel_rfl) rfl (fun K hK => ?_)
      go_simp
      refine hK.out _ _ (fun _ => trivial) ?_
      clear hK K
      try simp only [Act.put, List.setIfInBounds_toArray, List.set_cons_zero, List.set_cons_succ]
      refine OrdE.doneE (by kernel_rfl) ?_ _
      go_wp2_with (first
        | ((with_reducible refine gate_builtin (b := .append) (xs := #[.tmp 25, .const (.string ⟨#[13, 10]⟩)]) rfl ?_); at_builtin; go_must (refine append_m_str W.heap.size rfl (.tmp 25) (.const (.string ⟨#[13, 10]⟩)) 22 9 5 rfl Tryd.underlying22 Tryd.underlying9 info5 v7 (o ++ bytesOf hx ++ bytesOf ⟨#[13, 10]⟩ ++ ys) ⟨#[13, 10]⟩ rfl rfl HM7.out HB7.out.size (by rw [List.length_append, List.length_append, List.length_append, bytesOf_length]; have := HX.out.2.2.2; have := HQ.out; have := HY.out.1; show _ + 2 + _ + 2 ≤ _; omega) ?_); intro v8 w8 hm8 hb8; have HM8 := Aside0.mk hm8; have HB8 := Aside0.mk (HB7.out.trans hb8); clear hm8 hb8)
        | fail)
      have hyl := HY.out.1
      have hjz : j * z < xs.length := by
        obtain ⟨_, _, h1, h2, _⟩ := HR.out
        rw [h1, List.length_drop] at h2
        omega
      have hjj : j ≤ j * z := Nat.le_mul_of_pos_right j HZ.out.1
      go_roundw
      case rel =>
        refine ⟨j + 1, n - m, c - m, _, _, r.drop m, rfl, ⟨?_, ?_, ?_, ?_, ?_⟩, ⟨C_dropN HC.out c m HR.out.1 HM.out.2.2.1⟩, ⟨enc_step HZ.out.1 HO.out.1 HR.out.2.2.1 HR.out.2.2.2.1 HM.out.1 HYS.out HX.out.2.1, ?_, ?_⟩, ⟨.inr HM8.out⟩, HB8⟩
        · have := HR.out.1; omega
        · have := HR.out.2.1; omega
        · exact drop_step HR.out.2.2.1 HR.out.2.2.2.1 HM.out.1
        · rw [List.length_drop, HR.out.2.2.2.1]
        · exact .inr hjz
        · simp only [List.length_append, bytesOf_length]
          have h1 := HX.out.2.2.2
          have h2 := HO.out.2.1
          have h3 := HM.out.2.2
          show _ + _ + 2 + _ + 2 + _ ≤ _
          omega
        · omega
      case measure => have := HM.out.2; show n - m < n; omega
end Go.Proofs.YtdhajdgcgjbdnaaDoor.Chunk
