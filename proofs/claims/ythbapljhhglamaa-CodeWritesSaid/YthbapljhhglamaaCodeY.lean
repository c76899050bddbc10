/- A reader: what is tried, and what its calls tell. -/
import Derived.Test.YthbapljhhglamaaCodeT
set_option linter.unusedVariables false
set_option linter.unusedSimpArgs false
namespace Go.Proofs.Ythbapljhhglamaa.Code
open Go.RowKit Go.Proofs.Ythbapljhhglamaa.G Go.Proofs.YthbapljhhglamaaW.PrintWords Go.Proofs.YthbapljhhglamaaW.PrintMore Go.Proofs.Ythbapljhhglamaa.Foot Go.Proofs.Ythbapljhhglamaa.CodeL Go.Proofs.Ythbapljhhglamaa.Leaf

theorem Rdo.rdr {W : World} {p : Nat} {xs : List Int} {F : Nat → Prop} (h : Rdo W p xs F) : Rdr W p xs false := by
  obtain ⟨A, c, hb, hC, hc, _⟩ := h
  exact ⟨A, c, hb, hC, hc⟩
theorem tryW_size (W : World) (p : Nat) : (tryW W p).heap.size = W.heap.size + 2 := by simp [tryW]
theorem tryW_keeps (G : Nat → Prop) (W : World) (p : Nat) : Keeps G W (tryW W p) := ((Keeps.refl G W).alloc _).alloc _
theorem tryW_below (W : World) (p : Nat) : Below W.heap.size W (tryW W p) := below_alloc (below_alloc (Below.refl _ _) _) _
theorem tryW_ok (W : World) (p : Nat) : (tryW W p).heap[W.heap.size + 1]? = some (.cells #[.bool false] 4 (0, 0)) := by
  have h := blk_new (W.alloc (.cells #[.pointer (some ⟨p, 0, none⟩)] 32)) (.cells #[.bool false] 4)
  have hs : (W.alloc (.cells #[.pointer (some ⟨p, 0, none⟩)] 32)).heap.size = W.heap.size + 1 := by simp
  rw [hs] at h
  exact h
theorem tryW_box (W : World) (p : Nat) : (tryW W p).heap[W.heap.size]? = some (.cells #[.pointer (some ⟨p, 0, none⟩)] 32 (0, 0)) :=
  blk_alloc (blk_new W _) _
theorem Rdo.ok {w w1 : World} {p : Nat} {xs : List Int} {F : Nat → Prop} (h : Rdo w p xs F) {q : Addr} (hq : ∀ k, F k → k ≠ q.block) (hp : F p) (u : Value) : Rdo (w.setCell q u) p xs F := by
  obtain ⟨A, c, hb1, hC, hc, hA, h8⟩ := h
  exact ⟨A, c, blk_far hb1 (hq p hp) u, C_move hC (fun a ha => Below.heap_setCell w q u _ (hq _ (hA a ha).1)), hc, hA, h8⟩
def numS : Option (List Int) → Nat × Option (List Int)
  | none => (0, none)
  | some xs => match numD xs with
    | none => (0, none)
    | some (n, r) => (n, some r)
theorem numS_none {st : Option (List Int)} (h : (numS st).2 = none) : (numS st).1 = 0 := by
  cases st with
  | none => rfl
  | some xs =>
    unfold numS at h ⊢
    cases hn : numD xs with
    | none => simp only [hn]
    | some nr =>
      obtain ⟨n, r⟩ := nr
      simp only [hn] at h
      cases h
/-- What a closure that is tried ends with: D holds, and st's rest is left; or it stops. -/
def ClosP (p b : Nat) (w : World) (F : Nat → Prop) (D : World → Prop) (st : Option (List Int)) (e : Ending) (w' : World) : Prop :=
  Keeps (fun k => k = p ∨ k = b) w w' ∧ ((e = .returned (.tuple #[]) ∧ D w' ∧ ∃ r, st = some r ∧ Rdo w' p r F) ∨ (e = .panicked [stop] ∧ st = none ∧ ∃ r, Rdo w' p r F))
theorem ClosP.ret {p b : Nat} {w w' : World} {F : Nat → Prop} {D : World → Prop} {st : Option (List Int)} {r : List Int} (hk : Keeps (fun k => k = p ∨ k = b) w w') (hD : D w') (hst : st = some r) (hr : Rdo w' p r F) : ClosP p b w F D st (.returned (.tuple #[])) w' := ⟨hk, .inl ⟨rfl, hD, r, hst, hr⟩⟩
theorem ClosP.bad {p b : Nat} {w w' : World} {F : Nat → Prop} {D : World → Prop} {st : Option (List Int)} {r : List Int} (hk : Keeps (fun k => k = p ∨ k = b) w w') (hst : st = none) (hr : Rdo w' p r F) : ClosP p b w F D st (.panicked [stop]) w' := ⟨hk, .inr ⟨rfl, hst, r, hr⟩⟩
/-- What the trying ends with. -/
def TryP (p b : Nat) (w : World) (F : Nat → Prop) (D : World → Prop) (st : Option (List Int)) (e : Ending) (w' : World) : Prop :=
  Keeps (fun k => k = p ∨ k = b) w w' ∧ ((e = .returned (.bool true) ∧ D w' ∧ ∃ r, st = some r ∧ Rdo w' p r F) ∨ (e = .returned (.bool false) ∧ st = none ∧ ∃ v, w'.heap[p]? = some (.cells #[v, .bool true] 63 (0, 0))))
theorem try_gen (p b : Nat) (xs : List Int) (g : Nat) (cb : Array Value) (W : World) (F : Nat → Prop) (D : World → Prop) (st : Option (List Int))
    (eg : ∀ args w, (callFunc g args).run Try.prog w = .ok (.enter g args) w) (hp : F p) (hF : ∀ k, F k → k < W.heap.size) (hR : Rdo W p xs F) (hb : b < W.heap.size)
    (hc : Calls Try.prog g cb (tryW W p) (ClosP p b (tryW W p) F D st))
    (hD : ∀ w1 u, D w1 → D (w1.setCell ⟨W.heap.size + 1, 0, none⟩ u)) :
    Calls Try.prog 32 #[.pointer (some ⟨p, 0, none⟩), .func (.func g) #[] cb] W (TryP p b W F D st) := by
  have hpl := hF p hp
  have hts := tryW_size W p
  have hkt := tryW_keeps (fun k => k = p ∨ k = b) W p
  have hgo : ∀ {w' : World}, Keeps (fun k => k = p ∨ k = b) (tryW W p) w' → w'.heap[W.heap.size + 1]? = some (.cells #[.bool false] 4 (0, 0)) := fun h => h.blk (tryW_ok W p) (by omega)
  refine (try_runs W p xs g cb eg hR.rdr (fun w' => Keeps (fun k => k = p ∨ k = b) (tryW W p) w' ∧ D w' ∧ ∃ r, st = some r ∧ Rdo w' p r F) (fun w' => Keeps (fun k => k = p ∨ k = b) (tryW W p) w' ∧ st = none ∧ ∃ r, Rdo w' p r F) ?_ ?_ ?_).mono ?_
  · refine hc.mono ?_
    rintro e w' ⟨hk, ⟨rfl, h⟩ | ⟨rfl, h⟩⟩
    · exact .inl ⟨rfl, hk, h⟩
    · exact .inr ⟨rfl, hk, h⟩
  · exact fun w' h => hgo h.1
  · exact fun w' h => ⟨hgo h.1, h.1.blk (tryW_box W p) (by omega), by obtain ⟨_, _, r, hr⟩ := h; exact ⟨r, hr.rdr⟩⟩
  · have hnew : ∀ k, F k → k ≠ W.heap.size + 1 := fun k hk => by have := hF k hk; omega
    rintro e w' (⟨rfl, w1, ⟨hk, hd, r, hst, hr⟩, rfl⟩ | ⟨rfl, w1, ⟨hk, hst, r, hr⟩, rfl⟩)
    · exact ⟨(hkt.trans hk (fun k hk => .inl hk)).setCell (.inr (by show W.heap.size ≤ W.heap.size + 1; omega)) _, .inl ⟨rfl, hD _ _ hd, r, hst, hr.ok (w1 := w1) (q := ⟨W.heap.size + 1, 0, none⟩) hnew hp _⟩⟩
    · refine ⟨(((hkt.trans hk (fun k hk => .inl hk)).alloc _).setCell (.inl (.inl rfl)) _).setCell (.inr (by show W.heap.size ≤ W.heap.size + 1; omega)) _, .inr ⟨rfl, hst, ?_⟩⟩
      obtain ⟨A, c, hb1, _⟩ := hr
      exact ⟨.slice A r.length c, blk_far (blk_put (blk_alloc hb1 _) 1 (.bool true) rfl) (by show p ≠ W.heap.size + 1; omega) _⟩
theorem try_no (W : World) (p : Nat) (v f : Value) (hb1 : W.heap[p]? = some (.cells #[v, .bool true] 63 (0, 0))) :
    Calls Try.prog 32 #[.pointer (some ⟨p, 0, none⟩), f] W fun e w' => e = .returned (.bool false) ∧ Below W.heap.size W w' := by
  have hq := blk_cell (blk_alloc (blk_alloc hb1 (.cells #[.pointer (some ⟨p, 0, none⟩)] 32)) (.cells #[.bool false] 4)) 1
  clear hb1
  go_enter_defers Try.func32, Try.ntmps32
  go_wp2
  have hc0 : ((W.alloc (.cells #[.pointer (some ⟨p, 0, none⟩)] 32)).alloc (.cells #[.bool false] 4)).cell? ⟨W.heap.size + 1, 0, none⟩ = some (.bool false) := by simp
  have hB : Below W.heap.size W ((W.alloc (.cells #[.pointer (some ⟨p, 0, none⟩)] 32)).alloc (.cells #[.bool false] 4)) := below_alloc (below_alloc (Below.refl _ _) _) _
  simp [bodyPostD, Leaves, settle, results, Try.results32, go_sem, hc0, hB]
/-- A reader, and what is left for it: none: it has failed. -/
def Rd (p : Nat) (st : Option (List Int)) : HP := fun w F => F p ∧ (∀ k, F k → k < w.heap.size) ∧ match st with
  | some xs => Rdo w p xs F
  | none => ∃ v, w.heap[p]? = some (.cells #[v, .bool true] 63 (0, 0))
instance {p : Nat} {st : Option (List Int)} : Firm (Rd p st) where
  move := by
    rintro w w' F ⟨hp, hl, h⟩ hm
    refine ⟨hp, fun k hk => lt_of_same (hm k hk) (hl k hk), ?_⟩
    cases st with
    | some xs =>
      obtain ⟨A, c, hb1, hC, hc, hA, h8⟩ := h
      exact ⟨A, c, (hm p hp).trans hb1, C_move hC (fun a ha => hm _ (hA a ha).1), hc, hA, h8⟩
    | none =>
      obtain ⟨v, hv⟩ := h
      exact ⟨v, (hm p hp).trans hv⟩
  lt := fun h => h.2.1
def RdF (p : Nat) (st : Option (List Int)) (w : World) (F : Nat → Prop) (w' : World) : Prop := Rd p st w' F ∧ Keeps (fun k => k = p) w w'
theorem RdF.of_some {p : Nat} {r : List Int} {w w' : World} {F : Nat → Prop} (hp : F p) (hF : ∀ k, F k → k < w.heap.size) (h : Rdo w' p r F) (hk : Keeps (fun k => k = p) w w') : RdF p (some r) w F w' :=
  ⟨⟨hp, fun k h => Nat.lt_of_lt_of_le (hF k h) hk.size, h⟩, hk⟩
theorem RdF.of_none {p : Nat} {v : Value} {w w' : World} {F : Nat → Prop} (hp : F p) (hF : ∀ k, F k → k < w.heap.size) (h : w'.heap[p]? = some (.cells #[v, .bool true] 63 (0, 0))) (hk : Keeps (fun k => k = p) w w') : RdF p none w F w' :=
  ⟨⟨hp, fun k h => Nat.lt_of_lt_of_le (hF k h) hk.size, v, h⟩, hk⟩
theorem RdF.frame {p : Nat} {st : Option (List Int)} {w w' : World} {F : Nat → Prop} (hp : F p) (h : RdF p st w F w') : ∃ F', Rd p st w' F' ∧ (∀ k, F' k → F k ∨ w.heap.size ≤ k) ∧ Keeps F w w' :=
  ⟨F, h.1, fun k hk => .inl hk, h.2.mono (fun k hk => .inl (hk ▸ hp))⟩
set_option maxRecDepth 100000 in
theorem num1_calls (p a b : Nat) (z : Value) (xs : List Int) (w : World) (F : Nat → Prop) (hp : F p) (hF : ∀ k, F k → k < w.heap.size) (hnb : ¬ F b) (ha : w.heap[a]? = some (.cells #[.pointer (some ⟨p, 0, none⟩)] 32 (0, 0))) (hb : w.heap[b]? = some (.cells #[z] 27 (0, 0))) (hR : Rdo w p xs F) :
    Calls Try.prog 33 #[.pointer (some ⟨a, 0, none⟩), .pointer (some ⟨b, 0, none⟩)] w (ClosP p b w F (fun w' => w'.heap[b]? = some (.cells #[.int .u64 (((numS (some xs)).1 : Nat) : Int)] 27 (0, 0))) (numS (some xs)).2) := by
  have ha0 := blk_cell ha 0
  have hbp : b ≠ p := fun e => hnb (e ▸ hp)
  have HR := Lib.hid hR
  have HB := Lib.hid hb
  have HN := Lib.hid hnb
  have HFF := Lib.hid (show ∀ k, F k → k ≠ b from fun k hk e => hnb (e ▸ hk))
  clear ha hb hR hnb hF
  go_enter Try.func33, Try.ntmps33
  go_wp2_with fail
  refine (num_calls p xs w F HR.out).mono ?_
  rintro e w1 ⟨hk, hpost⟩
  have HK := Aside0.mk (hk.mono (G := fun k => k = p ∨ k = b) (fun k h => .inl (.inl h)))
  have hb1 := hk.blk HB.out hbp
  cases hn : numD xs with
  | none =>
    rw [hn] at hpost
    have HT := Lib.hid (by unfold numS; simp only [hn] : numS (some xs) = (0, none))
    obtain ⟨rfl, r, hr⟩ := hpost
    have HR1 := Lib.hid hr
    clear hk hn hr hb1
    go_wp2
    simp only [bodyPost]
    exact ⟨trivial, .bad HK.out (by rw [HT.out]) HR1.out⟩
  | some nr =>
    obtain ⟨n, r⟩ := nr
    rw [hn] at hpost
    obtain ⟨rfl, hr⟩ := hpost
    have HT := Lib.hid (by unfold numS; simp only [hn] : numS (some xs) = (n, some r))
    have HR1 := Lib.hid hr
    have hc0 := blk_cell hb1 0
    have hz0 := blk_frozen hb1 0
    have HB1 := Lib.hid hb1
    clear hk hn hr hb1
    go_wp2
    go_end0
    rw [HT.out]
    exact .ret (HK.out.setCell (.inl (.inr rfl)) _) (blk_put HB1.out 0 _ rfl) rfl (HR1.out.ok (w1 := w1) (q := ⟨b, 0, none⟩) HFF.out hp _)
/-- What a reading call lays: the reader's box, and what is to be told. -/
def boxW (w : World) (p : Nat) (z : Value) (t : Nat) : World := (w.alloc (.cells #[.pointer (some ⟨p, 0, none⟩)] 32)).alloc (.cells #[z] t)
section
variable (w : World) (p : Nat) (z : Value) (t : Nat)
theorem boxW_size : (boxW w p z t).heap.size = w.heap.size + 2 := by simp [boxW]
theorem boxW_below : Below w.heap.size w (boxW w p z t) := below_alloc (below_alloc (Below.refl _ _) _) _
theorem boxW_box : (boxW w p z t).heap[w.heap.size]? = some (.cells #[.pointer (some ⟨p, 0, none⟩)] 32 (0, 0)) := blk_alloc (blk_new w _) _
theorem boxW_var : (boxW w p z t).heap[w.heap.size + 1]? = some (.cells #[z] t (0, 0)) := by
  have h := blk_new (w.alloc (.cells #[.pointer (some ⟨p, 0, none⟩)] 32)) (.cells #[z] t)
  have hs : (w.alloc (.cells #[.pointer (some ⟨p, 0, none⟩)] 32)).heap.size = w.heap.size + 1 := by simp
  rw [hs] at h
  exact h
end
theorem boxed {p b : Nat} {w W w1 : World} (hW : Below w.heap.size w W) (hb : w.heap.size ≤ b) (h : Keeps (fun k => k = p ∨ k = b) W w1) : Keeps (fun k => k = p) w w1 :=
  (Keeps.of_below hW).trans h (fun k hk => hk.elim .inl (fun h => .inr (h ▸ hb)))
set_option maxHeartbeats 1000000 in
set_option maxRecDepth 100000 in
theorem Num_calls (p : Nat) (st : Option (List Int)) (w : World) (F : Nat → Prop) (h : Rd p st w F) :
    Calls Try.prog 15 #[.pointer (some ⟨p, 0, none⟩)] w fun e w' => e = .returned (.int .u64 (((numS st).1 : Nat) : Int)) ∧ RdF p (numS st).2 w F w' := by
  obtain ⟨hp, hF, h⟩ := h
  have hmf : ∀ (fn : Fn) (first cap : Array Value) (w : World), (Instr.makeFunc fn first cap).run Try.prog w = .ok (.func fn first cap) w := fun _ _ _ _ => rfl
  have HF := Lib.hid hF
  have HP := Lib.hid hp
  have HFW := Lib.hid (show ∀ k, F k → k < (boxW w p (.int .u64 0) 27).heap.size from fun k hk => by rw [boxW_size]; have := hF k hk; omega)
  cases st with
  | none =>
    obtain ⟨v, hv⟩ := h
    have HV := Lib.hid (blk_below hv (boxW_below w p (.int .u64 0) 27))
    clear hF hv
    go_enter Try.func15, Try.ntmps15
    go_wp2_with fail
    refine (try_no (boxW w p (.int .u64 0) 27) p v (.func (.func 33) #[] #[.pointer (some ⟨w.heap.size, 0, none⟩), .pointer (some ⟨w.heap.size + 1, 0, none⟩)]) HV.out).mono ?_
    rintro e w1 ⟨rfl, hB⟩
    have HB := Lib.hid hB
    clear hB
    go_wp2
    go_ret
    exact ⟨rfl, .of_none HP.out HF.out (blk_below HV.out HB.out) ((Keeps.of_below (boxW_below _ _ _ _)).then_below HB.out)⟩
  | some xs =>
    have HR := Lib.hid (Rdo.below h hF (boxW_below w p (.int .u64 0) 27))
    clear hF h
    go_enter Try.func15, Try.ntmps15
    go_wp2_with fail
    refine (try_gen p (w.heap.size + 1) xs 33 #[.pointer (some ⟨w.heap.size, 0, none⟩), .pointer (some ⟨w.heap.size + 1, 0, none⟩)] (boxW w p (.int .u64 0) 27) F (fun w' => w'.heap[w.heap.size + 1]? = some (.cells #[.int .u64 (((numS (some xs)).1 : Nat) : Int)] 27 (0, 0))) (numS (some xs)).2 (fun args w => by simp [go_sem]) HP.out HFW.out HR.out (by rw [boxW_size]; omega) ?_ ?_).mono ?_
    · refine num1_calls p w.heap.size (w.heap.size + 1) (.int .u64 0) xs _ F HP.out (fun k hk => by rw [tryW_size]; have := HFW.out k hk; omega) (fun hk => by have := HF.out _ hk; omega) (blk_below (boxW_box _ _ _ _) (tryW_below _ _)) (blk_below (boxW_var _ _ _ _) (tryW_below _ _)) (HR.out.below HFW.out (tryW_below _ _))
    · exact fun w1 u h => blk_far h (by rw [boxW_size]; show w.heap.size + 1 ≠ w.heap.size + 2 + 1; omega) u
    · rintro e w1 ⟨hk, ⟨rfl, hd, r, hst, hr⟩ | ⟨rfl, hst, v, hv⟩⟩
      · have HK := Lib.hid (boxed (boxW_below _ _ _ _) (by omega) hk)
        have HST := Lib.hid hst
        have HR1 := Lib.hid hr
        have hc0 := blk_cell hd 0
        clear hk hst hr hd
        go_wp2
        go_ret
        rw [HST.out]
        exact ⟨rfl, .of_some HP.out HF.out HR1.out HK.out⟩
      · have HK := Lib.hid (boxed (boxW_below _ _ _ _) (by omega) hk)
        have HST := Lib.hid hst
        have HV := Lib.hid hv
        have H0 := Lib.hid (numS_none hst)
        clear hk hst hv
        go_wp2
        go_ret
        rw [HST.out, H0.out]
        exact ⟨rfl, .of_none HP.out HF.out HV.out HK.out⟩
/-! Texts. -/
def textS : Option (List Int) → List Int × Option (List Int)
  | none => ([], none)
  | some xs => match textD xs with
    | none => ([], none)
    | some (b, r) => (b, some r)
theorem textS_none {st : Option (List Int)} (h : (textS st).2 = none) : (textS st).1 = [] := by
  cases st with
  | none => rfl
  | some xs =>
    unfold textS at h ⊢
    cases hn : textD xs with
    | none => simp only [hn]
    | some nr =>
      obtain ⟨n, r⟩ := nr
      simp only [hn] at h
      cases h
/-- A box that holds a row of the call's own, made from block B on. -/
def InBox {α : Type} (d : Kd α) (e t b B : Nat) (l : List α) (w : World) : Prop := ∃ v, w.heap[b]? = some (.cells #[v] t (0, 0)) ∧ d.R e w 0 (fun k => B ≤ k) v l
theorem InBox.set {α : Type} {d : Kd α} {e t b B : Nat} {l : List α} {w : World} (h : InBox d e t b B l w) {q : Addr} (hb : b ≠ q.block) (hB : q.block < B) (u : Value) : InBox d e t b B l (w.setCell q u) := by
  obtain ⟨v, hv, hR⟩ := h
  exact ⟨v, blk_far hv hb u, Kd.R_far hR (fun k hk => by omega) u⟩
set_option maxRecDepth 100000 in
theorem text1_calls (p a b B : Nat) (z : Value) (xs : List Int) (w : World) (F : Nat → Prop) (hp : F p) (hF : ∀ k, F k → k < w.heap.size) (hnb : ¬ F b) (hB : B ≤ w.heap.size) (hbB : b < B) (ha : w.heap[a]? = some (.cells #[.pointer (some ⟨p, 0, none⟩)] 32 (0, 0))) (hb : w.heap[b]? = some (.cells #[z] 22 (0, 0))) (hR : Rdo w p xs F) (hl : xs.length ≤ 1000000000) :
    Calls Try.prog 35 #[.pointer (some ⟨a, 0, none⟩), .pointer (some ⟨b, 0, none⟩)] w (ClosP p b w F (InBox (Kd.int .u8) 5 22 b B (textS (some xs)).1) (textS (some xs)).2) := by
  have ha0 := blk_cell ha 0
  have hbp : b ≠ p := fun e => hnb (e ▸ hp)
  have HR := Lib.hid hR
  have HB := Lib.hid hb
  have HN := Lib.hid hnb
  have HFF := Lib.hid (show ∀ k, F k → k ≠ b from fun k hk e => hnb (e ▸ hk))
  have HFl := Lib.hid hF
  clear ha hb hR hnb hF
  go_enter Try.func35, Try.ntmps35
  go_wp2_with fail
  refine (text_calls p xs w F hp HFl.out HR.out hl).mono ?_
  rintro e w1 ⟨hk, hpost⟩
  have HK := Aside0.mk (hk.mono (G := fun k => k = p ∨ k = b) (fun k h => .inl (.inl h)))
  have hb1 := hk.blk HB.out hbp
  cases hn : textD xs with
  | none =>
    rw [hn] at hpost
    have HT := Lib.hid (by unfold textS; simp only [hn] : textS (some xs) = ([], none))
    obtain ⟨rfl, r, hr⟩ := hpost
    have HR1 := Lib.hid hr
    clear hk hn hr hb1
    go_wp2
    simp only [bodyPost]
    exact ⟨trivial, .bad HK.out (by rw [HT.out]) HR1.out⟩
  | some nr =>
    obtain ⟨n, r⟩ := nr
    rw [hn] at hpost
    obtain ⟨v, rfl, hv, hr⟩ := hpost
    have HT := Lib.hid (by unfold textS; simp only [hn] : textS (some xs) = (n, some r))
    have HR1 := Lib.hid hr
    have HV := Lib.hid hv
    have hc0 := blk_cell hb1 0
    have hz0 := blk_frozen hb1 0
    have HB1 := Lib.hid hb1
    obtain ⟨A9, c9, rfl⟩ := Kd.R_slice hv
    clear hk hn hr hb1 hv
    go_wp2
    go_end0
    rw [HT.out]
    refine .ret (HK.out.setCell (.inl (.inr rfl)) _) ⟨_, blk_put HB1.out 0 _ rfl, Kd.R_far (p := ⟨b, 0, none⟩) (Kd.R_lower (Kd.R_mono (Kd.R_bound HV.out) (fun k hk => Nat.le_trans hB hk.2.1)) (Nat.zero_le _)) (fun k hk => by show k ≠ b; omega) _⟩ rfl (HR1.out.ok (w1 := w1) (q := ⟨b, 0, none⟩) HFF.out hp _)
theorem row_out {α : Type} {d : Kd α} {e B : Nat} {w w' : World} {v : Value} {l : List α} (h : d.R e w' 0 (fun k => B ≤ k) v l) (hB : w.heap.size ≤ B) : d.R e w' 0 (fun k => w.heap.size ≤ k) v l := Kd.R_mono h (fun k hk => Nat.le_trans hB hk)
set_option maxHeartbeats 1000000 in
set_option maxRecDepth 100000 in
theorem Text_calls (p : Nat) (st : Option (List Int)) (w : World) (F : Nat → Prop) (h : Rd p st w F) (hl : ∀ xs, st = some xs → xs.length ≤ 1000000000) :
    Calls Try.prog 19 #[.pointer (some ⟨p, 0, none⟩)] w fun e w' => ∃ v, e = .returned v ∧ Kd.R (Kd.int .u8) 5 w' 0 (fun k => w.heap.size ≤ k) v (textS st).1 ∧ RdF p (textS st).2 w F w' := by
  obtain ⟨hp, hF, h⟩ := h
  have hmf : ∀ (fn : Fn) (first cap : Array Value) (w : World), (Instr.makeFunc fn first cap).run Try.prog w = .ok (.func fn first cap) w := fun _ _ _ _ => rfl
  have HF := Lib.hid hF
  have HP := Lib.hid hp
  have HFW := Lib.hid (show ∀ k, F k → k < (boxW w p (.slice none 0 0) 22).heap.size from fun k hk => by rw [boxW_size]; have := hF k hk; omega)
  cases st with
  | none =>
    obtain ⟨v, hv⟩ := h
    have HV := Lib.hid (blk_below hv (boxW_below w p (.slice none 0 0) 22))
    clear hF hv hl
    go_enter Try.func19, Try.ntmps19
    go_wp2_with fail
    refine (try_no (boxW w p (.slice none 0 0) 22) p v (.func (.func 35) #[] #[.pointer (some ⟨w.heap.size, 0, none⟩), .pointer (some ⟨w.heap.size + 1, 0, none⟩)]) HV.out).mono ?_
    rintro e w1 ⟨rfl, hB⟩
    have HB := Lib.hid hB
    clear hB
    go_wp2
    go_ret
    exact ⟨_, rfl, Kd.R_nil _ _ _ _ _, .of_none HP.out HF.out (blk_below HV.out HB.out) ((Keeps.of_below (boxW_below _ _ _ _)).then_below HB.out)⟩
  | some xs =>
    have HR := Lib.hid (Rdo.below h hF (boxW_below w p (.slice none 0 0) 22))
    have HL := Lib.hid (hl xs rfl)
    clear hF h hl
    go_enter Try.func19, Try.ntmps19
    go_wp2_with fail
    refine (try_gen p (w.heap.size + 1) xs 35 #[.pointer (some ⟨w.heap.size, 0, none⟩), .pointer (some ⟨w.heap.size + 1, 0, none⟩)] (boxW w p (.slice none 0 0) 22) F (InBox (Kd.int .u8) 5 22 (w.heap.size + 1) (w.heap.size + 4) (textS (some xs)).1) (textS (some xs)).2 (fun args w => by simp [go_sem]) HP.out HFW.out HR.out (by rw [boxW_size]; omega) ?_ ?_).mono ?_
    · refine text1_calls p w.heap.size (w.heap.size + 1) (w.heap.size + 4) (.slice none 0 0) xs _ F HP.out (fun k hk => by rw [tryW_size]; have := HFW.out k hk; omega) (fun hk => by have := HF.out _ hk; omega) (by rw [tryW_size, boxW_size]; omega) (by omega) (blk_below (boxW_box _ _ _ _) (tryW_below _ _)) (blk_below (boxW_var _ _ _ _) (tryW_below _ _)) (HR.out.below HFW.out (tryW_below _ _)) HL.out
    · exact fun w1 u h => h.set (by rw [boxW_size]; show w.heap.size + 1 ≠ w.heap.size + 2 + 1; omega) (by rw [boxW_size]; show w.heap.size + 2 + 1 < w.heap.size + 4; omega) u
    · rintro e w1 ⟨hk, ⟨rfl, ⟨v, hv, hRv⟩, r, hst, hr⟩ | ⟨rfl, hst, v, hv⟩⟩
      · have HK := Lib.hid (boxed (boxW_below _ _ _ _) (by omega) hk)
        have HST := Lib.hid hst
        have HR1 := Lib.hid hr
        have hc0 := blk_cell hv 0
        have HRV := Lib.hid hRv
        clear hk hst hr hv hRv
        go_wp2
        go_ret
        rw [HST.out]
        exact ⟨_, rfl, row_out HRV.out (by omega), .of_some HP.out HF.out HR1.out HK.out⟩
      · have HK := Lib.hid (boxed (boxW_below _ _ _ _) (by omega) hk)
        have HST := Lib.hid hst
        have HV := Lib.hid hv
        have H0 := Lib.hid (textS_none hst)
        clear hk hst hv
        go_wp2
        go_ret
        rw [HST.out, H0.out]
        exact ⟨_, rfl, Kd.R_nil _ _ _ _ _, .of_none HP.out HF.out HV.out HK.out⟩
end Go.Proofs.Ythbapljhhglamaa.Code
