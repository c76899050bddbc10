/- What ctrl.Text tells. -/
import Derived.Test.YtdgimhaghhjdcaaDoorCtrlW
import Derived.Test.YtdgimhaghhjdcaaDoorGx4
import Derived.Laws.EntriesVeiled
set_option linter.unusedVariables false
set_option linter.unusedSimpArgs false
namespace Go.Proofs.YtdgimhaghhjdcaaDoor.Ctrl
open Go.RowKit Go.Proofs.YtdgimhaghhjdcaaDoor.G Go.Proofs.YtdgimhaghhjdcaaDoorW.PrintWords Go.Proofs.YtdgimhaghhjdcaaDoorW.PrintMore Go.Proofs.YtdgimhaghhjdcaaDoor.Foot

abbrev Fn_ (g : Nat) : Obj := .cells #[.func (.func 16) #[] #[.pointer (some ⟨g, 0, none⟩)]] 43 (0, 0)
section
variable {W w : World} {R : HP} {g h : Nat} {l : List ByteArray}
theorem word_own [Firm R] (is : Bool) (s : ByteArray) (hO : Own W w (star (Ls g l) R)) (hl : l.length ≤ 1000) :
    Calls Tryd.prog 16 #[.bool is, .string s, .pointer (some ⟨g, 0, none⟩)] w fun e w' => e = .returned (.tuple #[]) ∧ Own W w' (star (Ls g (addW is s l)) R) :=
  hO.frame fun F hp hF => word g l is s w F hp hl
theorem number_own [Firm R] (n : Int) (s : ByteArray) (hn0 : -9223372036854775808 ≤ n) (hn1 : n ≤ 9223372036854775807) (hs : s.size ≤ 1000) (htab : Lib.TabIs Tryd.prog W "internal/strconv.uint64pow10" .u64 Lib.pow10Tab)
    (hO : Own W w (star (Ls g l) (star (Ob h (Fn_ g)) R))) (hl : l.length ≤ 1000) :
    Calls Tryd.prog 17 #[.int .i64 n, .string s, .pointer (some ⟨h, 0, none⟩)] w fun e w' => e = .returned (.tuple #[]) ∧ Own W w' (star (Ls g (addN n s l)) (star (Ob h (Fn_ g)) R)) :=
  have hB := hO.below
  (hO.assoc'.frame (Post := star (Ls g (addN n s l)) (Ob h (Fn_ g))) fun F hp hF => by
    obtain ⟨F1, F2, rfl, h1, ⟨rfl, h2⟩, hd⟩ := hp
    have hh : ¬ F1 h := fun a => hd h a rfl
    refine (number g h l n s w F1 hn0 hn1 hs (tab_below htab hB) h1 h2 hh hl).mono ?_
    rintro e w' ⟨rfl, F', hx, hF', hk⟩
    refine ⟨rfl, _, ⟨F', _, rfl, hx, ⟨rfl, hk.blk h2 hh⟩, fun k a b => ?_⟩, ?_, hk.mono (fun k a => .inl (.inl a))⟩
    · subst b
      exact (hF' k a).elim hh (fun a => by have := blk_lt h2; omega)
    · rintro k (a | a)
      · exact (hF' k a).imp .inl id
      · exact .inl (.inr a)).mono fun e w' ⟨he, ho⟩ => ⟨he, ho.assoc⟩
end
abbrev fnOf (g : Nat) : Value := .func (.func 16) #[] #[.pointer (some ⟨g, 0, none⟩)]
abbrev begun (W : World) (cs : Array Value) : World := ((W.alloc (.cells cs 23)).alloc (.cells #[.slice none 0 0] 33)).alloc (Fn_ (W.heap.size + 1))
theorem begun_own (W : World) (cs : Array Value) : Own W (begun W cs) (star (Ls (W.heap.size + 1) []) (star (Ob (W.heap.size + 1 + 1) (Fn_ (W.heap.size + 1))) (star (Ob W.heap.size (.cells cs 23 (0, 0))) emp))) := by
  have h0 := (Own.start W).new_ob (.cells cs 23)
  have h1 := h0.new_bx Kd.string 33 9
  have h2 := h1.new_ob (Fn_ (W.heap.size + 1))
  simp only [World.size_alloc] at h1 h2
  exact h2.swap
def textL (c : ctrl_Parse.Ct) : List ByteArray :=
  addN c.n11 ⟨#[109, 97, 120, 45, 115, 116, 97, 108, 101, 61]⟩ (addW c.b7 ⟨#[109, 97, 120, 45, 115, 116, 97, 108, 101]⟩ (addN c.n10 ⟨#[109, 105, 110, 45, 102, 114, 101, 115, 104, 61]⟩ (addN c.n9 ⟨#[115, 45, 109, 97, 120, 97, 103, 101, 61]⟩ (addN c.n8 ⟨#[109, 97, 120, 45, 97, 103, 101, 61]⟩
    (addW c.b6 ⟨#[111, 110, 108, 121, 45, 105, 102, 45, 99, 97, 99, 104, 101, 100]⟩ (addW c.b5 ⟨#[112, 114, 111, 120, 121, 45, 114, 101, 118, 97, 108, 105, 100, 97, 116, 101]⟩ (addW c.b4 ⟨#[109, 117, 115, 116, 45, 114, 101, 118, 97, 108, 105, 100, 97, 116, 101]⟩ (addW c.b3 ⟨#[112, 117, 98, 108, 105, 99]⟩ (addW c.b2 ⟨#[112, 114, 105, 118, 97, 116, 101]⟩ (addW c.b1 ⟨#[110, 111, 45, 99, 97, 99, 104, 101]⟩ (addW c.b0 ⟨#[110, 111, 45, 115, 116, 111, 114, 101]⟩ [])))))))))))
def textOf (c : ctrl_Parse.Ct) : ByteArray := ⟨(strings_Join.text [44, 32] (textL c)).toArray⟩
theorem addW_len (b : Bool) (s : ByteArray) (l : List ByteArray) (n : Nat) (h : l.length ≤ n) : (addW b s l).length ≤ n + 1 := by
  unfold addW
  split
  · rw [List.length_append]; exact Nat.add_le_add_right h 1
  · omega
theorem addN_len (m : Int) (s : ByteArray) (l : List ByteArray) (n : Nat) (h : l.length ≤ n) : (addN m s l).length ≤ n + 1 := by rw [addN_eq]; exact addW_len _ _ _ _ h
def Short (l : List ByteArray) (n : Nat) : Prop := l.length ≤ n ∧ ∀ x ∈ l, x.size ≤ 100
theorem Short.nil : Short [] 0 := ⟨Nat.le_refl _, fun x h => by cases h⟩
theorem Short.addW {l : List ByteArray} {n : Nat} (h : Short l n) (b : Bool) (s : ByteArray) (hs : s.size ≤ 100) : Short (addW b s l) (n + 1) := by
  refine ⟨addW_len _ _ _ _ h.1, fun x hx => ?_⟩
  unfold Ctrl.addW at hx
  split at hx
  · rcases List.mem_append.1 hx with hx | hx
    · exact h.2 x hx
    · rw [List.mem_singleton.1 hx]; exact hs
  · exact h.2 x hx
theorem Short.addN {l : List ByteArray} {n : Nat} (h : Short l n) (m : Int) (s : ByteArray) (hs : s.size ≤ 50) (h0 : -9223372036854775808 ≤ m) (h1 : m ≤ 9223372036854775807) : Short (addN m s l) (n + 1) := by
  rw [addN_eq]
  refine h.addW _ _ ?_
  have : (⟨(Lib.itoa (min m 2147483647)).toArray⟩ : ByteArray).size ≤ 21 := Lib.itoa_length_le _ (by omega) (by omega)
  rw [ByteArray.size_append]
  omega
theorem sum_le : ∀ (l : List ByteArray), (∀ x ∈ l, x.size ≤ 100) → strings_Join.sum l ≤ 100 * l.length
  | [], _ => Nat.le_refl _
  | x :: l, h => by
    have h1 := h x List.mem_cons_self
    have h2 := sum_le l (fun y hy => h y (List.mem_cons_of_mem _ hy))
    show x.size + strings_Join.sum l ≤ _
    rw [List.length_cons]
    omega
theorem join_ok {l : List ByteArray} {n : Nat} (h : Short l n) (hn : n ≤ 12) : strings_Join.f l ⟨#[44, 32]⟩ = some ⟨(strings_Join.text [44, 32] l).toArray⟩ := by
  unfold strings_Join.f
  have hs : (⟨#[44, 32]⟩ : ByteArray).size = 2 := rfl
  have hd : (⟨#[44, 32]⟩ : ByteArray).data.toList = [44, 32] := rfl
  have h1 := h.1
  have h2 := sum_le l h.2
  rw [if_pos]
  refine ⟨by omega, by omega, by omega, ?_⟩
  rcases Nat.eq_zero_or_pos l.length with h0 | h0
  · rw [List.length_eq_zero_iff.1 h0]
    exact Nat.zero_le _
  · rw [strings_Join.text_len _ _ h0, hs]
    omega
theorem Ls.read {W w : World} {R : HP} {g : Nat} {l : List ByteArray} (hO : Own W w (star (Ls g l) R)) : ∃ A c, w.heap[g]? = some (.cells #[.slice A l.length c] 33 (0, 0)) ∧ l.length ≤ c ∧ Kd.C Kd.string w A l.length l :=
  hO.look fun F hp hF => by
    obtain ⟨_, _, v, hb, hR⟩ := hp
    obtain ⟨A, c, rfl, hl, hC⟩ := Kd.R_reads hR
    exact ⟨A, c, hb, hl, hC⟩
set_option maxHeartbeats 4000000 in
set_option maxRecDepth 100000 in
theorem text_calls (c : ctrl_Parse.Ct) (W : World) (htab : Lib.TabIs Tryd.prog W "internal/strconv.uint64pow10" .u64 Lib.pow10Tab)
    (h8 : -9223372036854775808 ≤ c.n8 ∧ c.n8 ≤ 9223372036854775807) (h9 : -9223372036854775808 ≤ c.n9 ∧ c.n9 ≤ 9223372036854775807) (h10 : -9223372036854775808 ≤ c.n10 ∧ c.n10 ≤ 9223372036854775807) (h11 : -9223372036854775808 ≤ c.n11 ∧ c.n11 ≤ 9223372036854775807) :
    Calls Tryd.prog 7 #[.agg (ctrl_Parse.cells c)] W fun e w' => e = .returned (.string (textOf c)) ∧ Below W.heap.size W w' := by
  have HT := Lib.hid htab
  have H8 := Lib.hid h8
  have H9 := Lib.hid h9
  have H10 := Lib.hid h10
  have H11 := Lib.hid h11
  clear htab h8 h9 h10 h11
  obtain ⟨b0, b1, b2, b3, b4, b5, b6, b7, n8, n9, n10, n11⟩ := c
  go_enter Tryd.func7, Tryd.ntmps7
  unfold ctrl_Parse.cells
  have HO := Lib.hid (begun_own W #[.bool b0, .bool b1, .bool b2, .bool b3, .bool b4, .bool b5, .bool b6, .bool b7, .int .i64 n8, .int .i64 n9, .int .i64 n10, .int .i64 n11])
  have HS := Lib.hid Short.nil
  have hf := blk_cell HO.out.rest.ob 0
  have hc := blk_cell HO.out.rest.rest.ob 0
  unfold begun Fn_ at hf hc
  go_wp2_with fail
  refine (word_own b0 ⟨#[110, 111, 45, 115, 116, 111, 114, 101]⟩ HO.out (by have := HS.out.1; omega)).mono ?_
  rintro e w1 ⟨rfl, ho⟩
  have HS := Lib.hid (HS.out.addW b0 ⟨#[110, 111, 45, 115, 116, 111, 114, 101]⟩ (by decide))
  obtain ⟨l1, e1⟩ : ∃ l1, addW b0 ⟨#[110, 111, 45, 115, 116, 111, 114, 101]⟩ [] = l1 := ⟨_, rfl⟩
  rw [e1] at ho HS
  have HE1 := Lib.hid e1
  have HO := Lib.hid ho
  clear ho e1 hf hc
  have hf := blk_cell HO.out.rest.ob 0
  have hc := blk_cell HO.out.rest.rest.ob 1
  go_wp2_with fail
  refine (word_own b1 ⟨#[110, 111, 45, 99, 97, 99, 104, 101]⟩ HO.out (by have := HS.out.1; omega)).mono ?_
  rintro e w2 ⟨rfl, ho⟩
  have HS := Lib.hid (HS.out.addW b1 ⟨#[110, 111, 45, 99, 97, 99, 104, 101]⟩ (by decide))
  obtain ⟨l2, e2⟩ : ∃ l2, addW b1 ⟨#[110, 111, 45, 99, 97, 99, 104, 101]⟩ l1 = l2 := ⟨_, rfl⟩
  rw [e2] at ho HS
  have HE2 := Lib.hid e2
  have HO := Lib.hid ho
  clear ho e2 hf hc
  have hf := blk_cell HO.out.rest.ob 0
  have hc := blk_cell HO.out.rest.rest.ob 2
  go_wp2_with fail
  refine (word_own b2 ⟨#[112, 114, 105, 118, 97, 116, 101]⟩ HO.out (by have := HS.out.1; omega)).mono ?_
  rintro e w3 ⟨rfl, ho⟩
  have HS := Lib.hid (HS.out.addW b2 ⟨#[112, 114, 105, 118, 97, 116, 101]⟩ (by decide))
  obtain ⟨l3, e3⟩ : ∃ l3, addW b2 ⟨#[112, 114, 105, 118, 97, 116, 101]⟩ l2 = l3 := ⟨_, rfl⟩
  rw [e3] at ho HS
  have HE3 := Lib.hid e3
  have HO := Lib.hid ho
  clear ho e3 hf hc
  have hf := blk_cell HO.out.rest.ob 0
  have hc := blk_cell HO.out.rest.rest.ob 3
  go_wp2_with fail
  refine (word_own b3 ⟨#[112, 117, 98, 108, 105, 99]⟩ HO.out (by have := HS.out.1; omega)).mono ?_
  rintro e w4 ⟨rfl, ho⟩
  have HS := Lib.hid (HS.out.addW b3 ⟨#[112, 117, 98, 108, 105, 99]⟩ (by decide))
  obtain ⟨l4, e4⟩ : ∃ l4, addW b3 ⟨#[112, 117, 98, 108, 105, 99]⟩ l3 = l4 := ⟨_, rfl⟩
  rw [e4] at ho HS
  have HE4 := Lib.hid e4
  have HO := Lib.hid ho
  clear ho e4 hf hc
  have hf := blk_cell HO.out.rest.ob 0
  have hc := blk_cell HO.out.rest.rest.ob 4
  go_wp2_with fail
  refine (word_own b4 ⟨#[109, 117, 115, 116, 45, 114, 101, 118, 97, 108, 105, 100, 97, 116, 101]⟩ HO.out (by have := HS.out.1; omega)).mono ?_
  rintro e w5 ⟨rfl, ho⟩
  have HS := Lib.hid (HS.out.addW b4 ⟨#[109, 117, 115, 116, 45, 114, 101, 118, 97, 108, 105, 100, 97, 116, 101]⟩ (by decide))
  obtain ⟨l5, e5⟩ : ∃ l5, addW b4 ⟨#[109, 117, 115, 116, 45, 114, 101, 118, 97, 108, 105, 100, 97, 116, 101]⟩ l4 = l5 := ⟨_, rfl⟩
  rw [e5] at ho HS
  have HE5 := Lib.hid e5
  have HO := Lib.hid ho
  clear ho e5 hf hc
  have hf := blk_cell HO.out.rest.ob 0
  have hc := blk_cell HO.out.rest.rest.ob 5
  go_wp2_with fail
  refine (word_own b5 ⟨#[112, 114, 111, 120, 121, 45, 114, 101, 118, 97, 108, 105, 100, 97, 116, 101]⟩ HO.out (by have := HS.out.1; omega)).mono ?_
  rintro e w6 ⟨rfl, ho⟩
  have HS := Lib.hid (HS.out.addW b5 ⟨#[112, 114, 111, 120, 121, 45, 114, 101, 118, 97, 108, 105, 100, 97, 116, 101]⟩ (by decide))
  obtain ⟨l6, e6⟩ : ∃ l6, addW b5 ⟨#[112, 114, 111, 120, 121, 45, 114, 101, 118, 97, 108, 105, 100, 97, 116, 101]⟩ l5 = l6 := ⟨_, rfl⟩
  rw [e6] at ho HS
  have HE6 := Lib.hid e6
  have HO := Lib.hid ho
  clear ho e6 hf hc
  have hf := blk_cell HO.out.rest.ob 0
  have hc := blk_cell HO.out.rest.rest.ob 6
  go_wp2_with fail
  refine (word_own b6 ⟨#[111, 110, 108, 121, 45, 105, 102, 45, 99, 97, 99, 104, 101, 100]⟩ HO.out (by have := HS.out.1; omega)).mono ?_
  rintro e w7 ⟨rfl, ho⟩
  have HS := Lib.hid (HS.out.addW b6 ⟨#[111, 110, 108, 121, 45, 105, 102, 45, 99, 97, 99, 104, 101, 100]⟩ (by decide))
  obtain ⟨l7, e7⟩ : ∃ l7, addW b6 ⟨#[111, 110, 108, 121, 45, 105, 102, 45, 99, 97, 99, 104, 101, 100]⟩ l6 = l7 := ⟨_, rfl⟩
  rw [e7] at ho HS
  have HE7 := Lib.hid e7
  have HO := Lib.hid ho
  clear ho e7 hf hc
  have hf := blk_cell HO.out.rest.ob 0
  have hc := blk_cell HO.out.rest.rest.ob 8
  go_wp2_with fail
  refine (number_own n8 ⟨#[109, 97, 120, 45, 97, 103, 101, 61]⟩ H8.out.1 H8.out.2 (by decide) HT.out HO.out (by have := HS.out.1; omega)).mono ?_
  rintro e w8 ⟨rfl, ho⟩
  have HS := Lib.hid (HS.out.addN n8 ⟨#[109, 97, 120, 45, 97, 103, 101, 61]⟩ (by decide) H8.out.1 H8.out.2)
  obtain ⟨l8, e8⟩ : ∃ l8, addN n8 ⟨#[109, 97, 120, 45, 97, 103, 101, 61]⟩ l7 = l8 := ⟨_, rfl⟩
  rw [e8] at ho HS
  have HE8 := Lib.hid e8
  have HO := Lib.hid ho
  clear ho e8 hf hc
  have hf := blk_cell HO.out.rest.ob 0
  have hc := blk_cell HO.out.rest.rest.ob 9
  go_wp2_with fail
  refine (number_own n9 ⟨#[115, 45, 109, 97, 120, 97, 103, 101, 61]⟩ H9.out.1 H9.out.2 (by decide) HT.out HO.out (by have := HS.out.1; omega)).mono ?_
  rintro e w9 ⟨rfl, ho⟩
  have HS := Lib.hid (HS.out.addN n9 ⟨#[115, 45, 109, 97, 120, 97, 103, 101, 61]⟩ (by decide) H9.out.1 H9.out.2)
  obtain ⟨l9, e9⟩ : ∃ l9, addN n9 ⟨#[115, 45, 109, 97, 120, 97, 103, 101, 61]⟩ l8 = l9 := ⟨_, rfl⟩
  rw [e9] at ho HS
  have HE9 := Lib.hid e9
  have HO := Lib.hid ho
  clear ho e9 hf hc
  have hf := blk_cell HO.out.rest.ob 0
  have hc := blk_cell HO.out.rest.rest.ob 10
  go_wp2_with fail
  refine (number_own n10 ⟨#[109, 105, 110, 45, 102, 114, 101, 115, 104, 61]⟩ H10.out.1 H10.out.2 (by decide) HT.out HO.out (by have := HS.out.1; omega)).mono ?_
  rintro e w10 ⟨rfl, ho⟩
  have HS := Lib.hid (HS.out.addN n10 ⟨#[109, 105, 110, 45, 102, 114, 101, 115, 104, 61]⟩ (by decide) H10.out.1 H10.out.2)
  obtain ⟨l10, e10⟩ : ∃ l10, addN n10 ⟨#[109, 105, 110, 45, 102, 114, 101, 115, 104, 61]⟩ l9 = l10 := ⟨_, rfl⟩
  rw [e10] at ho HS
  have HE10 := Lib.hid e10
  have HO := Lib.hid ho
  clear ho e10 hf hc
  have hf := blk_cell HO.out.rest.ob 0
  have hc := blk_cell HO.out.rest.rest.ob 7
  go_wp2_with fail
  refine (word_own b7 ⟨#[109, 97, 120, 45, 115, 116, 97, 108, 101]⟩ HO.out (by have := HS.out.1; omega)).mono ?_
  rintro e w11 ⟨rfl, ho⟩
  have HS := Lib.hid (HS.out.addW b7 ⟨#[109, 97, 120, 45, 115, 116, 97, 108, 101]⟩ (by decide))
  obtain ⟨l11, e11⟩ : ∃ l11, addW b7 ⟨#[109, 97, 120, 45, 115, 116, 97, 108, 101]⟩ l10 = l11 := ⟨_, rfl⟩
  rw [e11] at ho HS
  have HE11 := Lib.hid e11
  have HO := Lib.hid ho
  clear ho e11 hf hc
  have hf := blk_cell HO.out.rest.ob 0
  have hc := blk_cell HO.out.rest.rest.ob 11
  go_wp2_with fail
  refine (number_own n11 ⟨#[109, 97, 120, 45, 115, 116, 97, 108, 101, 61]⟩ H11.out.1 H11.out.2 (by decide) HT.out HO.out (by have := HS.out.1; omega)).mono ?_
  rintro e w12 ⟨rfl, ho⟩
  have HS := Lib.hid (HS.out.addN n11 ⟨#[109, 97, 120, 45, 115, 116, 97, 108, 101, 61]⟩ (by decide) H11.out.1 H11.out.2)
  obtain ⟨l12, e12⟩ : ∃ l12, addN n11 ⟨#[109, 97, 120, 45, 115, 116, 97, 108, 101, 61]⟩ l11 = l12 := ⟨_, rfl⟩
  rw [e12] at ho HS
  have HE12 := Lib.hid e12
  have HO := Lib.hid ho
  clear ho e12 hf hc
  obtain ⟨A, c, hb, hlc, hC⟩ := Ls.read HO.out
  have hl := blk_cell hb 0
  have HC := Lib.hid hC
  have HE := Lib.hid (show textL ⟨b0, b1, b2, b3, b4, b5, b6, b7, n8, n9, n10, n11⟩ = l12 by
    unfold textL
    rw [HE1.out, HE2.out, HE3.out, HE4.out, HE5.out, HE6.out, HE7.out, HE8.out, HE9.out, HE10.out, HE11.out, HE12.out])
  clear hb hC
  go_wp2_with fail
  refine (strings_Join.calls A c l12 ⟨#[44, 32]⟩ _ _ HC.out hlc (join_ok HS.out (by decide))).mono ?_
  rintro e w13 ⟨rfl, hB⟩
  have HB := Lib.hid hB
  clear hB
  go_wp2
  go_ret
  exact ⟨(by rw [show textOf ⟨b0, b1, b2, b3, b4, b5, b6, b7, n8, n9, n10, n11⟩ = ⟨(strings_Join.text [44, 32] l12).toArray⟩ from by unfold textOf; rw [HE.out]]; rfl), HO.out.below.trans (HB.out.mono HO.out.below.size)⟩
end Go.Proofs.YtdgimhaghhjdcaaDoor.Ctrl
