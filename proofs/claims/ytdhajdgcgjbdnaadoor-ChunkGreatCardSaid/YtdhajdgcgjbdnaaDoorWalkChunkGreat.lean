/- Just how long a body in chunks may be. -/
import Derived.Test.YtdhajdgcgjbdnaaDoorChunkU
import Derived.Test.YtdhajdgcgjbdnaaDoorChunkK
import Derived.Test.YtdhajdgcgjbdnaaDoorOrdE
import Derived.Test.YtdhajdgcgjbdnaaDoorGx4
import Derived.OpenShut
set_option linter.unusedVariables false
set_option linter.unusedSimpArgs false
namespace Go.Proofs.YtdhajdgcgjbdnaaDoor.Walk
open Go.RowKit Go.Proofs.YtdhajdgcgjbdnaaDoor.G Go.Proofs.YtdhajdgcgjbdnaaDoorW.PrintWords Go.Proofs.YtdhajdgcgjbdnaaDoorW.PrintMore Go.Proofs.YtdhajdgcgjbdnaaDoor.Foot Go.Proofs.YtdhajdgcgjbdnaaDoor.Plain Go.Proofs.YtdhajdgcgjbdnaaDoor.Chunk Go.Proofs.YtdhajdgcgjbdnaaDoor.Marks

theorem flat_cksU (L : List (List Int)) : (L.flatMap ck).length ≤ L.flatten.length + 20 * L.length := by
  induction L with
  | nil => simp
  | cons y L ih =>
    have h3 := (hexT_length 15 y.length).1
    have h4 : (ck y).length ≤ y.length + 20 := by
      unfold ck
      simp only [List.length_append, List.length_cons, List.length_nil]
      omega
    simp only [List.flatMap_cons, List.flatten_cons, List.length_append, List.length_cons]
    omega
theorem enc_lenU (xs : List Int) (z k : Nat) (hz : 1 ≤ z) (h1 : xs.length ≤ 100000) (hk2 : k = 0 ∨ (k - 1) * z < xs.length) : (encS xs z (starts z k)).length ≤ 2200000 := by
  rw [encS_ck]
  have h := flat_cksU ((starts z k).map (piece xs z))
  rw [pieces_flat, List.length_take, List.length_map, starts_length] at h
  have hk : k ≤ 100001 := by
    rcases hk2 with h | h
    · omega
    · have := Nat.mul_le_mul_left (k - 1) hz
      omega
  omega
theorem enc_rngU (xs : List Int) (z k : Nat) (h1 : xs.length ≤ 100000) (h : ∀ c ∈ xs, 0 ≤ c ∧ c ≤ 255) : ∀ c ∈ encS xs z (starts z k), 0 ≤ c ∧ c ≤ 255 := by
  intro c hc
  rw [encS_ck] at hc
  obtain ⟨y, hy, hc⟩ := List.mem_flatMap.1 hc
  obtain ⟨i, _, rfl⟩ := List.mem_map.1 hy
  have hl := piece_length xs z i
  unfold ck at hc
  simp only [List.mem_append, List.mem_cons, List.not_mem_nil, or_false] at hc
  rcases hc with hc | rfl | rfl | hc | rfl | rfl
  · exact hexT_rng 15 _ (pow15 (by omega)) c hc
  · decide
  · decide
  · exact h c (List.mem_of_mem_drop (List.mem_of_mem_take hc))
  · decide
  · decide
theorem place_okG (a m : Int) (h0 : 0 < m) (h1 : m ≤ 1000000000) : ∃ r, ambryhelp_Place.f a m = some r ∧ 0 ≤ r ∧ r < m := by
  unfold ambryhelp_Place.f
  rw [if_neg (by omega)]
  have hb : -m < Int.tmod a m ∧ Int.tmod a m < m := ⟨Int.lt_tmod_of_pos a h0, Int.tmod_lt_of_pos a h0⟩
  split
  · rename_i h
    refine ⟨_, rfl, ?_⟩
    rw [w64 _ (by omega) (by omega)]
    omega
  · exact ⟨_, rfl, by omega, hb.2⟩
theorem body_big (T P : List Int → Bool) (ys r o : List Int) (f : Nat) (h1 : 1 ≤ ys.length) (h3 : ys.length ≤ 100000) (h2 : 65536 < ys.length + o.length) : bodyG T P (f + 1) (ck ys ++ r) o = .bad 93 := by
  have hu : ys.length < 16 ^ 5 := Nat.lt_of_le_of_lt h3 (by decide)
  have hu16 : ys.length < 16 ^ 16 := Nat.lt_trans hu (by decide)
  have hd := hexT_dig 15 ys.length hu16
  have hl := hexT_len 5 15 ys.length hu (by decide)
  have h0 := (hexT_length 15 ys.length).2
  have e1 : ck ys ++ r = hexT 15 ys.length ++ (13 :: 10 :: (ys ++ 13 :: 10 :: r)) := by simp [ck]
  have e2 := lineG_ok (hexT 15 ys.length) (ys ++ 13 :: 10 :: r) 0 (fun c hc => by have := hd c hc; omega) (by omega)
  have e3 : lenG T (hexT 15 ys.length) 0 0 = some ys.length := by
    rw [lenG_dig T _ 0 0 (fun c hc => (hd c hc).1) (by omega) (by omega), val16_hexT 15 ys.length hu16]
  rw [bodyG, e1, e2]
  dsimp only
  rw [e3]
  dsimp only
  rw [if_neg (by omega), if_pos h2]
theorem body_over (T P : List Int → Bool) : ∀ (L : List (List Int)) (r o : List Int) (f : Nat), (∀ y ∈ L, 1 ≤ y.length ∧ y.length ≤ 100000) → o.length ≤ 65536 → 65536 < L.flatten.length + o.length → bodyG T P (f + L.length) (L.flatMap ck ++ r) o = .bad 93 := by
  intro L
  induction L with
  | nil => intro r o f _ h1 h2; simp at h2; omega
  | cons y L ih =>
    intro r o f hy h1 h2
    have hy0 := hy y (List.mem_cons_self)
    rw [List.flatMap_cons, List.length_cons, show f + (L.length + 1) = (f + L.length) + 1 by omega, List.append_assoc]
    by_cases hb : 65536 < y.length + o.length
    · exact body_big T P y _ o _ hy0.1 hy0.2 hb
    · rw [body_ck T P y _ o _ hy0.1 (by omega)]
      simp only [List.flatten_cons, List.length_append] at h2
      exact ih r (o ++ y) f (fun x hx => hy x (List.mem_cons_of_mem _ hx)) (by rw [List.length_append]; omega) (by rw [List.length_append]; omega)
theorem tail_great (o : List Int) (f : Nat) : bodyG textL fieldL (f + 1) [48, 13, 10, 13, 10] o = .ok (o, []) := by rfl
theorem great_open (N z k : Nat) (hz : 1 ≤ z) (hN : N ≤ 100000) (hk1 : N ≤ k * z) (hk2 : k = 0 ∨ (k - 1) * z < N) :
    (N ≤ 65536 → openG (encS (List.replicate N 0) z (starts z k) ++ [48, 13, 10, 13, 10]) = .ok (List.replicate N 0, [])) ∧ (65536 < N → openG (encS (List.replicate N 0) z (starts z k) ++ [48, 13, 10, 13, 10]) = .bad 93) := by
  constructor
  · intro h
    rw [open_enc (List.replicate N 0) _ z k hz (by simpa using hk1) (by simpa using hk2) (by simpa using h)]
    exact tail_great _ _
  · intro h
    have hfl : ((starts z k).map (piece (List.replicate N 0) z)).flatten = List.replicate N 0 := by rw [pieces_flat, List.take_of_length_le (by simpa using hk1)]
    have hne := pieces_ne (List.replicate N (0 : Int)) z k hz (by simpa using hk2)
    have hfn := flat_len ((starts z k).map (piece (List.replicate N 0) z))
    rw [encS_ck]
    unfold openG
    rw [body_fuel textL fieldL _ _ _ _ ((List.flatMap ck ((starts z k).map (piece (List.replicate N 0) z)) ++ [48, 13, 10, 13, 10]).length + 1 + ((starts z k).map (piece (List.replicate N 0) z)).length) (Nat.le_refl _) (by omega) (by omega)]
    refine body_over textL fieldL _ _ [] _ (fun y hy => ⟨hne y hy, ?_⟩) (Nat.zero_le _) (by rw [hfl]; simpa using h)
    obtain ⟨i, _, rfl⟩ := List.mem_map.1 hy
    rw [piece_length]
    simp only [List.length_replicate]
    omega
theorem great_len (N z k : Nat) (hz : 1 ≤ z) (hN : N ≤ 100000) (hk2 : k = 0 ∨ (k - 1) * z < N) :
    (encS (List.replicate N 0) z (starts z k) ++ [48, 13, 10, 13, 10]).length ≤ 3000000 ∧ ∀ c ∈ encS (List.replicate N 0) z (starts z k) ++ [48, 13, 10, 13, 10], 0 ≤ c ∧ c ≤ 255 := by
  have h1 := enc_lenU (List.replicate N 0) z k hz (by simpa using hN) (by simpa using hk2)
  have h2 := enc_rngU (List.replicate N 0) z k (by simpa using hN) (fun c hc => by rw [List.eq_of_mem_replicate hc]; decide)
  refine ⟨by rw [List.length_append]; show _ + 5 ≤ _; omega, fun c hc => ?_⟩
  rw [List.mem_append] at hc
  rcases hc with hc | hc
  · exact h2 c hc
  · simp only [List.mem_cons, List.not_mem_nil, or_false] at hc
    rcases hc with rfl | rfl | rfl | rfl | rfl <;> decide
theorem great_post {N : Nat} {E : List Int} {w w' : World} {e : Ending} (hG : (N ≤ 65536 → openG E = .ok (List.replicate N 0, [])) ∧ (65536 < N → openG E = .bad 93)) (hp : match openG E with
    | .ok (o, r) => ∃ v, e = .returned (.tuple #[v, .int .i64 ((E.length - r.length : Nat) : Int), .int .i64 0]) ∧ Rw w' w.heap.size v o
    | .bad n => e = .returned (.tuple #[.slice none 0 0, .int .i64 0, .int .i64 n])) :
    ∃ (A : Option Addr) (n c : Nat) (m f : Int), e = .returned (.tuple #[.slice A n c, .int .i64 m, .int .i64 f]) ∧ (N ≤ 65536 → n = N ∧ f = 0) ∧ (65536 < N → n = 0 ∧ f = 93) := by
  by_cases h : 65536 < N
  · rw [hG.2 h] at hp
    exact ⟨none, 0, 0, 0, 93, hp, fun h2 => by omega, fun _ => ⟨rfl, rfl⟩⟩
  · rw [hG.1 (by omega)] at hp
    obtain ⟨v, rfl, hR⟩ := hp
    obtain ⟨A, c, rfl, _, _⟩ := Kd.R_reads hR
    rw [List.length_replicate]
    exact ⟨A, N, c, _, 0, rfl, fun _ => ⟨rfl, rfl⟩, fun h2 => absurd h2 h⟩
set_option maxHeartbeats 4000000 in
set_option maxRecDepth 100000 in
theorem ChunkGreat (W : World) (htz : Tz W) (a0 a1 : Int) (w0 : (Lit.int .i64 a0).wf = true) (w1 : (Lit.int .i64 a1).wf = true) :
    Calls Tryd.prog 5 #[.int .i64 a0, .int .i64 a1] W fun e w' => e = .returned (.bool true) ∧ Below W.heap.size W w' := by
  have HT := Lib.hid htz
  clear htz w0 w1
  go_enter Tryd.func5, Tryd.ntmps5
  go_wp2_with fail
  with_reducible refine (known_calls W HT.out).mono ?_
  rintro e w1 ⟨rfl, hB⟩
  have HB := Aside0.mk hB
  clear hB
  obtain ⟨q, hq, hq0, hq1⟩ := place_okG a0 5 (by decide) (by decide)
  obtain ⟨p, hp, hp0, hp1⟩ := place_okG a1 70000 (by decide) (by decide)
  obtain ⟨p, rfl⟩ := Int.eq_ofNat_of_zero_le hp0
  obtain ⟨N, hNq⟩ : ∃ N : Nat, 65534 + q = (N : Int) := ⟨(65534 + q).toNat, by omega⟩
  obtain ⟨z, hzp⟩ : ∃ z : Nat, 1000 + (p : Int) = (z : Int) := ⟨(1000 + (p : Int)).toNat, by omega⟩
  have HQP := Lib.hid hq
  have HPL := Lib.hid hp
  have HN := Lib.hid (show N ≤ 100000 by omega)
  have HZ := Lib.hid (show max (z : Int) 1 = (z : Int) ∧ 1 ≤ z ∧ (z : Int) ≤ 9223372036854775807 from ⟨by omega, by omega, by omega⟩)
  have hN1 : wrap64 (65534 + q) = (N : Int) := by rw [hNq]; exact w64 _ (by omega) (by omega)
  have hN2 : IntKind.i64.wrap (65534 + q) = (N : Int) := by rw [hNq]; exact w64i _ (by omega) (by omega)
  have hZ1 : wrap64 (1000 + (p : Int)) = (z : Int) := by rw [hzp]; exact w64 _ (by omega) (by omega)
  have hZ2 : IntKind.i64.wrap (1000 + (p : Int)) = (z : Int) := by rw [hzp]; exact w64i _ (by omega) (by omega)
  clear hq hp hq0 hq1 hp0 hp1 hNq hzp
  go_wp2_with fail
  with_reducible refine (ambryhelp_Place.calls a0 5 q _ HQP.out).mono ?_
  rintro e w2 ⟨rfl, hd⟩
  have HB1 := Aside0.mk (HB.out.trans (hd.below.mono HB.out.size))
  clear hd HB
  go_wp2_with fail
  clear hN1 hN2
  refine OrdE.beginS (fun _ => True) (fun _ => true) (by kernel_rfl) ?_
  have HB3 := Aside0.mk HB1.out.drew
  clear HB1
  generalize w2.drew = w3 at HB3 ⊢
  refine OrdE.takeK (i := 0) (oi := { dst := some 14, op := Go.Op.move (Go.Operand.tmp 0), type := 3, pos := "law.go:70", after := #[], guard := none }) (v := .int .i64 (N : Int)) rfl (by kernel_rfl) (by kernel_rfl) (by kernel_rfl) (by kernel_rfl) (fun _ _ _ h => h) (by rfl) ?_ (trivial) ?_
  · intro w hS; skip; go_simp
  try simp only [Act.put, List.setIfInBounds_toArray, List.set_cons_zero, List.set_cons_succ]
  refine OrdE.takeK (i := 2) (oi := { dst := some 16, op := Go.Op.move (Go.Operand.tmp 1), type := 3, pos := "law.go:70", after := #[], guard := none }) (v := .int .i64 a1) rfl (by kernel_rfl) (by kernel_rfl) (by kernel_rfl) (by kernel_rfl) (fun _ _ _ h => h) (by rfl) ?_ (trivial) ?_
  · intro w hS; skip; go_simp
  try simp only [Act.put, List.setIfInBounds_toArray, List.set_cons_zero, List.set_cons_succ]
  refine OrdE.twoE (i := 1) (j := 3) (o := { dst := some 15, op := Go.Op.makeSlice 22 (Go.Operand.tmp 14) (Go.Operand.tmp 14), type := 22, pos := "law.go:70", after := #[{ on := 0, ground := Go.Ground.data }, { on := 0, ground := Go.Ground.data }], guard := none }) (oj := { dst := some 17, op := Go.Op.call { callee := Go.Callee.value (Go.Operand.func 16), args := #[Go.Operand.tmp 16, Go.Operand.const (Go.Value.int Go.IntKind.i64 70000)], argTypes := #[3, 3] }, type := 3, pos := "law.go:70", after := #[{ on := 2, ground := Go.Ground.data }], guard := none }) (by kernel_rfl) rfl rfl (fun K hK => ?_) (fun K hK => ?_)
  · refine Kd.R_make_step (Kd.int .u8) (w0 := w3) w3.heap.size 5 (by rfl) (N := 15) rfl 22 (.tmp 14) (.tmp 14) rfl (N : Int) (by rfl) (by rfl) Tryd.underlying22 (.int .u8 0) 1 info5 rfl (by decide) (by decide) (0 : Int) (ok := fun _ => True) (okp := fun _ => True) rfl (fun _ hk => hk) trivial (by omega) (by have := HN.out; omega) (Below.refl _ _) (Nat.le_refl _) ?_
    intro v4 w4 hR hb _ _
    rw [Int.toNat_natCast] at hR
    obtain ⟨A4, c4, rfl, hcl, hC⟩ := Kd.R_reads hR
    rw [List.length_replicate] at hcl hC ⊢
    have HC4 := Aside0.mk hC
    have HL := Lib.hid hcl
    have HB4 := Aside0.mk (HB3.out.trans (hb.mono HB3.out.size))
    clear hR hcl hC hb
    refine hK.out _ _ (fun _ => trivial) ?_
    clear hK K
    try simp only [Act.put, List.setIfInBounds_toArray, List.set_cons_zero, List.set_cons_succ]
    refine OrdE.oneE (i := 3) (o := { dst := some 17, op := Go.Op.call { callee := Go.Callee.value (Go.Operand.func 16), args := #[Go.Operand.tmp 16, Go.Operand.const (Go.Value.int Go.IntKind.i64 70000)], argTypes := #[3, 3] }, type := 3, pos := "law.go:70", after := #[{ on := 2, ground := Go.Ground.data }], guard := none }) (by kernel_rfl) rfl (fun K hK => ?_)
    go_simp
    with_reducible refine (ambryhelp_Place.calls a1 70000 (p : Int) _ HPL.out).mono ?_
    rintro e w5 ⟨rfl, hd⟩
    have HB5 := Aside0.mk (HB4.out.trans (hd.below.mono HB4.out.size))
    have HC5 := Aside0.mk (Kd.C_below HC4.out hd.below)
    clear hd
    simp only []
    refine hK.out _ _ (fun _ => trivial) ?_
    clear hK K
    try simp only [Act.put, List.setIfInBounds_toArray, List.set_cons_zero, List.set_cons_succ]
    refine OrdE.takeK (i := 4) (oi := { dst := some 18, op := Go.Op.binOp Go.BinOp.add 3 (Go.Operand.const (Go.Value.int Go.IntKind.i64 1000)) (Go.Operand.tmp 17) 3, type := 3, pos := "law.go:70", after := #[{ on := 3, ground := Go.Ground.data }], guard := none }) (v := .int .i64 (z : Int)) rfl (by kernel_rfl) (by kernel_rfl) (by kernel_rfl) (by kernel_rfl) (fun _ _ _ h => h) (by rfl) ?_ (trivial) ?_
    · intro w hS; skip; go_simp
    try simp only [Act.put, List.setIfInBounds_toArray, List.set_cons_zero, List.set_cons_succ]
    refine OrdE.oneE (i := 5) (o := { dst := some 19, op := Go.Op.call { callee := Go.Callee.value (Go.Operand.func 12), args := #[Go.Operand.tmp 15, Go.Operand.tmp 18], argTypes := #[22, 3] }, type := 22, pos := "law.go:70", after := #[{ on := 1, ground := Go.Ground.data }, { on := 4, ground := Go.Ground.data }, { on := 3, ground := Go.Ground.chain }], guard := none }) (by kernel_rfl) rfl (fun K hK => ?_)
    go_simp
    have hrc := ref_calls A4 c4 z (z : Int) (List.replicate N 0) w5 (by rw [List.length_replicate]; exact HC5.out) (by rw [List.length_replicate]; exact HL.out) (by rw [List.length_replicate]; have := HN.out; omega) HZ.out.1 HZ.out.2.2
    rw [List.length_replicate] at hrc
    with_reducible refine hrc.mono ?_
    rintro e w6 ⟨hb6, v6, k, rfl, hm6, hk1, hk2⟩
    rw [List.length_replicate] at hk1 hk2
    have HG := Lib.hid (great_open N z k HZ.out.2.1 HN.out hk1 hk2)
    have HB6 := Aside0.mk (HB5.out.trans (hb6.mono HB5.out.size))
    have HE := Lib.hid (great_len N z k HZ.out.2.1 HN.out hk2)
    obtain ⟨E, hE⟩ : ∃ E, encS (List.replicate N 0) z (starts z k) ++ [48, 13, 10, 13, 10] = E := ⟨_, rfl⟩
    rw [hE] at HG HE hm6
    obtain ⟨A6, c6, rfl, hc6, hC6⟩ := hm6.reads
    have HC6 := Aside0.mk hC6
    have HK6 := Lib.hid hc6
    clear hrc hb6 hm6 hk1 hk2 hC6 hc6 hE
    simp only []
    refine hK.out _ _ (fun _ => trivial) ?_
    clear hK K
    try simp only [Act.put, List.setIfInBounds_toArray, List.set_cons_zero, List.set_cons_succ]
    refine OrdE.oneE (i := 6) (o := { dst := some 20, op := Go.Op.call { callee := Go.Callee.value (Go.Operand.func 10), args := #[Go.Operand.tmp 19], argTypes := #[22] }, type := 26, pos := "law.go:70", after := #[{ on := 5, ground := Go.Ground.data }, { on := 5, ground := Go.Ground.chain }], guard := none }) (by kernel_rfl) rfl (fun K hK => ?_)
    go_simp
    with_reducible refine (open_calls A6 c6 E w6 HC6.out HK6.out (by have := HE.out.1; omega) HE.out.2).mono ?_
    rintro e w7 ⟨hb7, hp⟩
    have hu := great_post HG.out hp
    obtain ⟨A7, n7, c7, m7, f7, rfl, h71, h72⟩ := hu
    have HB7 := Aside0.mk (HB6.out.trans (hb7.mono HB6.out.size))
    have H71 := Lib.hid h71
    have H72 := Lib.hid h72
    clear hb7 hp h71 h72
    simp only []
    refine hK.out _ _ (fun _ => trivial) ?_
    clear hK K
    try simp only [Act.put, List.setIfInBounds_toArray, List.set_cons_zero, List.set_cons_succ]
    refine OrdE.takeK (i := 7) (oi := { dst := some 13, op := Go.Op.move (Go.Operand.tmp 20), type := 26, pos := "law.go:70", after := #[{ on := 6, ground := Go.Ground.data }], guard := none }) (v := .tuple #[.slice A7 n7 c7, .int .i64 m7, .int .i64 f7]) rfl (by kernel_rfl) (by kernel_rfl) (by kernel_rfl) (by kernel_rfl) (fun _ _ _ h => h) (by rfl) ?_ (trivial) ?_
    · intro w hS; skip; go_simp
    try simp only [Act.put, List.setIfInBounds_toArray, List.set_cons_zero, List.set_cons_succ]
    refine OrdE.takeK (i := 8) (oi := { dst := some 21, op := Go.Op.extract (Go.Operand.tmp 13) 0, type := 22, pos := "law.go:70", after := #[{ on := 7, ground := Go.Ground.data }], guard := none }) (v := .slice A7 n7 c7) rfl (by kernel_rfl) (by kernel_rfl) (by kernel_rfl) (by kernel_rfl) (fun _ _ _ h => h) (by rfl) ?_ (trivial) ?_
    · intro w hS; skip; go_simp
    try simp only [Act.put, List.setIfInBounds_toArray, List.set_cons_zero, List.set_cons_succ]
    refine OrdE.takeK (i := 9) (oi := { dst := some 22, op := Go.Op.extract (Go.Operand.tmp 13) 1, type := 3, pos := "law.go:70", after := #[{ on := 7, ground := Go.Ground.data }, { on := 11, ground := Go.Ground.gcOnly Go.Departure.lateStores }], guard := none }) (v := .int .i64 m7) rfl (by kernel_rfl) (by kernel_rfl) (by kernel_rfl) (by kernel_rfl) (fun _ _ _ h => h) (by rfl) ?_ (trivial) ?_
    · intro w hS; skip; go_simp
    try simp only [Act.put, List.setIfInBounds_toArray, List.set_cons_zero, List.set_cons_succ]
    refine OrdE.takeK (i := 10) (oi := { dst := some 23, op := Go.Op.extract (Go.Operand.tmp 13) 2, type := 25, pos := "law.go:70", after := #[{ on := 7, ground := Go.Ground.data }, { on := 12, ground := Go.Ground.gcOnly Go.Departure.lateStores }], guard := none }) (v := .int .i64 f7) rfl (by kernel_rfl) (by kernel_rfl) (by kernel_rfl) (by kernel_rfl) (fun _ _ _ h => h) (by rfl) ?_ (trivial) ?_
    · intro w hS; skip; go_simp
    try simp only [Act.put, List.setIfInBounds_toArray, List.set_cons_zero, List.set_cons_succ]
    refine OrdE.takeK (i := 11) (oi := { dst := some 5, op := Go.Op.assign (Go.Operand.tmp 21), type := 22, pos := "law.go:70", after := #[{ on := 8, ground := Go.Ground.data }, { on := 6, ground := Go.Ground.chain }, { on := 0, ground := Go.Ground.phase }, { on := 1, ground := Go.Ground.phase }, { on := 2, ground := Go.Ground.phase }, { on := 3, ground := Go.Ground.phase }, { on := 4, ground := Go.Ground.phase }, { on := 5, ground := Go.Ground.phase }, { on := 6, ground := Go.Ground.phase }, { on := 7, ground := Go.Ground.phase }, { on := 8, ground := Go.Ground.phase }, { on := 9, ground := Go.Ground.textOnly Go.Departure.lateStores }, { on := 10, ground := Go.Ground.textOnly Go.Departure.lateStores }], guard := none }) (v := .slice A7 n7 c7) rfl (by kernel_rfl) (by kernel_rfl) (by kernel_rfl) (by kernel_rfl) (fun _ _ _ h => h) (by rfl) ?_ (trivial) ?_
    · intro w hS; skip; go_simp
    try simp only [Act.put, List.setIfInBounds_toArray, List.set_cons_zero, List.set_cons_succ]
    refine OrdE.takeK (i := 12) (oi := { dst := some 6, op := Go.Op.assign (Go.Operand.tmp 22), type := 3, pos := "law.go:70", after := #[{ on := 9, ground := Go.Ground.data }, { on := 11, ground := Go.Ground.chain }, { on := 0, ground := Go.Ground.phase }, { on := 1, ground := Go.Ground.phase }, { on := 2, ground := Go.Ground.phase }, { on := 3, ground := Go.Ground.phase }, { on := 4, ground := Go.Ground.phase }, { on := 5, ground := Go.Ground.phase }, { on := 6, ground := Go.Ground.phase }, { on := 7, ground := Go.Ground.phase }, { on := 8, ground := Go.Ground.phase }, { on := 9, ground := Go.Ground.phase }, { on := 10, ground := Go.Ground.textOnly Go.Departure.lateStores }, { on := 11, ground := Go.Ground.phase }], guard := none }) (v := .int .i64 m7) rfl (by kernel_rfl) (by kernel_rfl) (by kernel_rfl) (by kernel_rfl) (fun _ _ _ h => h) (by rfl) ?_ (trivial) ?_
    · intro w hS; skip; go_simp
    try simp only [Act.put, List.setIfInBounds_toArray, List.set_cons_zero, List.set_cons_succ]
    refine OrdE.takeK (i := 13) (oi := { dst := some 7, op := Go.Op.assign (Go.Operand.tmp 23), type := 25, pos := "law.go:70", after := #[{ on := 10, ground := Go.Ground.data }, { on := 12, ground := Go.Ground.chain }, { on := 0, ground := Go.Ground.phase }, { on := 1, ground := Go.Ground.phase }, { on := 2, ground := Go.Ground.phase }, { on := 3, ground := Go.Ground.phase }, { on := 4, ground := Go.Ground.phase }, { on := 5, ground := Go.Ground.phase }, { on := 6, ground := Go.Ground.phase }, { on := 7, ground := Go.Ground.phase }, { on := 8, ground := Go.Ground.phase }, { on := 9, ground := Go.Ground.phase }, { on := 10, ground := Go.Ground.phase }, { on := 11, ground := Go.Ground.phase }, { on := 12, ground := Go.Ground.phase }], guard := none }) (v := .int .i64 f7) rfl (by kernel_rfl) (by kernel_rfl) (by kernel_rfl) (by kernel_rfl) (fun _ _ _ h => h) (by rfl) ?_ (trivial) ?_
    · intro w hS; skip; go_simp
    try simp only [Act.put, List.setIfInBounds_toArray, List.set_cons_zero, List.set_cons_succ]
    refine OrdE.doneE (by kernel_rfl) ?_ _
    by_cases hN : 65536 < N
    · obtain ⟨rfl, rfl⟩ := H72.out hN
      have hNi : (65536 : Int) < (N : Int) := by omega
      clear H71 H72 HN HG HE
      go_wp2_with fail
      go_ret
      exact ⟨rfl, HB7.out⟩
    · have hNi : decide ((65536 : Int) < (N : Int)) = false := decide_eq_false (by omega)
      obtain ⟨rfl, rfl⟩ := H71.out (by omega)
      clear H71 H72 HN HG HE
      go_wp2_with fail
      go_ret
      exact ⟨rfl, HB7.out⟩
  · go_simp
    with_reducible refine (ambryhelp_Place.calls a1 70000 (p : Int) _ HPL.out).mono ?_
    rintro e w4 ⟨rfl, hd⟩
    have HB4 := Aside0.mk (HB3.out.trans (hd.below.mono HB3.out.size))
    clear hd
    simp only []
    refine hK.out _ _ (fun _ => trivial) ?_
    clear hK K
    try simp only [Act.put, List.setIfInBounds_toArray, List.set_cons_zero, List.set_cons_succ]
    refine OrdE.takeK (i := 4) (oi := { dst := some 18, op := Go.Op.binOp Go.BinOp.add 3 (Go.Operand.const (Go.Value.int Go.IntKind.i64 1000)) (Go.Operand.tmp 17) 3, type := 3, pos := "law.go:70", after := #[{ on := 3, ground := Go.Ground.data }], guard := none }) (v := .int .i64 (z : Int)) rfl (by kernel_rfl) (by kernel_rfl) (by kernel_rfl) (by kernel_rfl) (fun _ _ _ h => h) (by rfl) ?_ (trivial) ?_
    · intro w hS; skip; go_simp
    try simp only [Act.put, List.setIfInBounds_toArray, List.set_cons_zero, List.set_cons_succ]
    refine OrdE.oneE (i := 1) (o := { dst := some 15, op := Go.Op.makeSlice 22 (Go.Operand.tmp 14) (Go.Operand.tmp 14), type := 22, pos := "law.go:70", after := #[{ on := 0, ground := Go.Ground.data }, { on := 0, ground := Go.Ground.data }], guard := none }) (by kernel_rfl) rfl (fun K hK => ?_)
    refine Kd.R_make_step (Kd.int .u8) (w0 := w4) w4.heap.size 5 (by rfl) (N := 15) rfl 22 (.tmp 14) (.tmp 14) rfl (N : Int) (by rfl) (by rfl) Tryd.underlying22 (.int .u8 0) 1 info5 rfl (by decide) (by decide) (0 : Int) (ok := fun _ => True) (okp := fun _ => True) rfl (fun _ hk => hk) trivial (by omega) (by have := HN.out; omega) (Below.refl _ _) (Nat.le_refl _) ?_
    intro v5 w5 hR hb _ _
    rw [Int.toNat_natCast] at hR
    obtain ⟨A5, c5, rfl, hcl, hC⟩ := Kd.R_reads hR
    rw [List.length_replicate] at hcl hC ⊢
    have HC5 := Aside0.mk hC
    have HL := Lib.hid hcl
    have HB5 := Aside0.mk (HB4.out.trans (hb.mono HB4.out.size))
    clear hR hcl hC hb
    refine hK.out _ _ (fun _ => trivial) ?_
    clear hK K
    try simp only [Act.put, List.setIfInBounds_toArray, List.set_cons_zero, List.set_cons_succ]
    refine OrdE.oneE (i := 5) (o := { dst := some 19, op := Go.Op.call { callee := Go.Callee.value (Go.Operand.func 12), args := #[Go.Operand.tmp 15, Go.Operand.tmp 18], argTypes := #[22, 3] }, type := 22, pos := "law.go:70", after := #[{ on := 1, ground := Go.Ground.data }, { on := 4, ground := Go.Ground.data }, { on := 3, ground := Go.Ground.chain }], guard := none }) (by kernel_rfl) rfl (fun K hK => ?_)
    go_simp
    have hrc := ref_calls A5 c5 z (z : Int) (List.replicate N 0) w5 (by rw [List.length_replicate]; exact HC5.out) (by rw [List.length_replicate]; exact HL.out) (by rw [List.length_replicate]; have := HN.out; omega) HZ.out.1 HZ.out.2.2
    rw [List.length_replicate] at hrc
    with_reducible refine hrc.mono ?_
    rintro e w6 ⟨hb6, v6, k, rfl, hm6, hk1, hk2⟩
    rw [List.length_replicate] at hk1 hk2
    have HG := Lib.hid (great_open N z k HZ.out.2.1 HN.out hk1 hk2)
    have HB6 := Aside0.mk (HB5.out.trans (hb6.mono HB5.out.size))
    have HE := Lib.hid (great_len N z k HZ.out.2.1 HN.out hk2)
    obtain ⟨E, hE⟩ : ∃ E, encS (List.replicate N 0) z (starts z k) ++ [48, 13, 10, 13, 10] = E := ⟨_, rfl⟩
    rw [hE] at HG HE hm6
    obtain ⟨A6, c6, rfl, hc6, hC6⟩ := hm6.reads
    have HC6 := Aside0.mk hC6
    have HK6 := Lib.hid hc6
    clear hrc hb6 hm6 hk1 hk2 hC6 hc6 hE
    simp only []
    refine hK.out _ _ (fun _ => trivial) ?_
    clear hK K
    try simp only [Act.put, List.setIfInBounds_toArray, List.set_cons_zero, List.set_cons_succ]
    refine OrdE.oneE (i := 6) (o := { dst := some 20, op := Go.Op.call { callee := Go.Callee.value (Go.Operand.func 10), args := #[Go.Operand.tmp 19], argTypes := #[22] }, type := 26, pos := "law.go:70", after := #[{ on := 5, ground := Go.Ground.data }, { on := 5, ground := Go.Ground.chain }], guard := none }) (by kernel_rfl) rfl (fun K hK => ?_)
    go_simp
    with_reducible refine (open_calls A6 c6 E w6 HC6.out HK6.out (by have := HE.out.1; omega) HE.out.2).mono ?_
    rintro e w7 ⟨hb7, hp⟩
    have hu := great_post HG.out hp
    obtain ⟨A7, n7, c7, m7, f7, rfl, h71, h72⟩ := hu
    have HB7 := Aside0.mk (HB6.out.trans (hb7.mono HB6.out.size))
    have H71 := Lib.hid h71
    have H72 := Lib.hid h72
    clear hb7 hp h71 h72
    simp only []
    refine hK.out _ _ (fun _ => trivial) ?_
    clear hK K
    try simp only [Act.put, List.setIfInBounds_toArray, List.set_cons_zero, List.set_cons_succ]
    refine OrdE.takeK (i := 7) (oi := { dst := some 13, op := Go.Op.move (Go.Operand.tmp 20), type := 26, pos := "law.go:70", after := #[{ on := 6, ground := Go.Ground.data }], guard := none }) (v := .tuple #[.slice A7 n7 c7, .int .i64 m7, .int .i64 f7]) rfl (by kernel_rfl) (by kernel_rfl) (by kernel_rfl) (by kernel_rfl) (fun _ _ _ h => h) (by rfl) ?_ (trivial) ?_
    · intro w hS; skip; go_simp
    try simp only [Act.put, List.setIfInBounds_toArray, List.set_cons_zero, List.set_cons_succ]
    refine OrdE.takeK (i := 8) (oi := { dst := some 21, op := Go.Op.extract (Go.Operand.tmp 13) 0, type := 22, pos := "law.go:70", after := #[{ on := 7, ground := Go.Ground.data }], guard := none }) (v := .slice A7 n7 c7) rfl (by kernel_rfl) (by kernel_rfl) (by kernel_rfl) (by kernel_rfl) (fun _ _ _ h => h) (by rfl) ?_ (trivial) ?_
    · intro w hS; skip; go_simp
    try simp only [Act.put, List.setIfInBounds_toArray, List.set_cons_zero, List.set_cons_succ]
    refine OrdE.takeK (i := 9) (oi := { dst := some 22, op := Go.Op.extract (Go.Operand.tmp 13) 1, type := 3, pos := "law.go:70", after := #[{ on := 7, ground := Go.Ground.data }, { on := 11, ground := Go.Ground.gcOnly Go.Departure.lateStores }], guard := none }) (v := .int .i64 m7) rfl (by kernel_rfl) (by kernel_rfl) (by kernel_rfl) (by kernel_rfl) (fun _ _ _ h => h) (by rfl) ?_ (trivial) ?_
    · intro w hS; skip; go_simp
    try simp only [Act.put, List.setIfInBounds_toArray, List.set_cons_zero, List.set_cons_succ]
    refine OrdE.takeK (i := 10) (oi := { dst := some 23, op := Go.Op.extract (Go.Operand.tmp 13) 2, type := 25, pos := "law.go:70", after := #[{ on := 7, ground := Go.Ground.data }, { on := 12, ground := Go.Ground.gcOnly Go.Departure.lateStores }], guard := none }) (v := .int .i64 f7) rfl (by kernel_rfl) (by kernel_rfl) (by kernel_rfl) (by kernel_rfl) (fun _ _ _ h => h) (by rfl) ?_ (trivial) ?_
    · intro w hS; skip; go_simp
    try simp only [Act.put, List.setIfInBounds_toArray, List.set_cons_zero, List.set_cons_succ]
    refine OrdE.takeK (i := 11) (oi := { dst := some 5, op := Go.Op.assign (Go.Operand.tmp 21), type := 22, pos := "law.go:70", after := #[{ on := 8, ground := Go.Ground.data }, { on := 6, ground := Go.Ground.chain }, { on := 0, ground := Go.Ground.phase }, { on := 1, ground := Go.Ground.phase }, { on := 2, ground := Go.Ground.phase }, { on := 3, ground := Go.Ground.phase }, { on := 4, ground := Go.Ground.phase }, { on := 5, ground := Go.Ground.phase }, { on := 6, ground := Go.Ground.phase }, { on := 7, ground := Go.Ground.phase }, { on := 8, ground := Go.Ground.phase }, { on := 9, ground := Go.Ground.textOnly Go.Departure.lateStores }, { on := 10, ground := Go.Ground.textOnly Go.Departure.lateStores }], guard := none }) (v := .slice A7 n7 c7) rfl (by kernel_rfl) (by kernel_rfl) (by kernel_rfl) (by kernel_rfl) (fun _ _ _ h => h) (by rfl) ?_ (trivial) ?_
    · intro w hS; skip; go_simp
    try simp only [Act.put, List.setIfInBounds_toArray, List.set_cons_zero, List.set_cons_succ]
    refine OrdE.takeK (i := 12) (oi := { dst := some 6, op := Go.Op.assign (Go.Operand.tmp 22), type := 3, pos := "law.go:70", after := #[{ on := 9, ground := Go.Ground.data }, { on := 11, ground := Go.Ground.chain }, { on := 0, ground := Go.Ground.phase }, { on := 1, ground := Go.Ground.phase }, { on := 2, ground := Go.Ground.phase }, { on := 3, ground := Go.Ground.phase }, { on := 4, ground := Go.Ground.phase }, { on := 5, ground := Go.Ground.phase }, { on := 6, ground := Go.Ground.phase }, { on := 7, ground := Go.Ground.phase }, { on := 8, ground := Go.Ground.phase }, { on := 9, ground := Go.Ground.phase }, { on := 10, ground := Go.Ground.textOnly Go.Departure.lateStores }, { on := 11, ground := Go.Ground.phase }], guard := none }) (v := .int .i64 m7) rfl (by kernel_rfl) (by kernel_rfl) (by kernel_rfl) (by kernel_rfl) (fun _ _ _ h => h) (by rfl) ?_ (trivial) ?_
    · intro w hS; skip; go_simp
    try simp only [Act.put, List.setIfInBounds_toArray, List.set_cons_zero, List.set_cons_succ]
    refine OrdE.takeK (i := 13) (oi := { dst := some 7, op := Go.Op.assign (Go.Operand.tmp 23), type := 25, pos := "law.go:70", after := #[{ on := 10, ground := Go.Ground.data }, { on := 12, ground := Go.Ground.chain }, { on := 0, ground := Go.Ground.phase }, { on := 1, ground := Go.Ground.phase }, { on := 2, ground := Go.Ground.phase }, { on := 3, ground := Go.Ground.phase }, { on := 4, ground := Go.Ground.phase }, { on := 5, ground := Go.Ground.phase }, { on := 6, ground := Go.Ground.phase }, { on := 7, ground := Go.Ground.phase }, { on := 8, ground := Go.Ground.phase }, { on := 9, ground := Go.Ground.phase }, { on := 10, ground := Go.Ground.phase }, { on := 11, ground := Go.Ground.phase }, { on := 12, ground := Go.Ground.phase }], guard := none }) (v := .int .i64 f7) rfl (by kernel_rfl) (by kernel_rfl) (by kernel_rfl) (by kernel_rfl) (fun _ _ _ h => h) (by rfl) ?_ (trivial) ?_
    · intro w hS; skip; go_simp
    try simp only [Act.put, List.setIfInBounds_toArray, List.set_cons_zero, List.set_cons_succ]
    refine OrdE.doneE (by kernel_rfl) ?_ _
    by_cases hN : 65536 < N
    · obtain ⟨rfl, rfl⟩ := H72.out hN
      have hNi : (65536 : Int) < (N : Int) := by omega
      clear H71 H72 HN HG HE
      go_wp2_with fail
      go_ret
      exact ⟨rfl, HB7.out⟩
    · have hNi : decide ((65536 : Int) < (N : Int)) = false := decide_eq_false (by omega)
      obtain ⟨rfl, rfl⟩ := H71.out (by omega)
      clear H71 H72 HN HG HE
      go_wp2_with fail
      go_ret
      exact ⟨rfl, HB7.out⟩
end Go.Proofs.YtdhajdgcgjbdnaaDoor.Walk
