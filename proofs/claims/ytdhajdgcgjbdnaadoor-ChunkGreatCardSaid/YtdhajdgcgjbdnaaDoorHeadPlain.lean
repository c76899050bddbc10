/- Fields: tokens, values, blanks, small letters: what the program's functions and the document's tell, in plain words. -/
import Derived.Test.YtdhajdgcgjbdnaaDoorGx1
import Derived.Test.YtdhajdgcgjbdnaaDoorGx2
import Derived.Test.YtdhajdgcgjbdnaaDoorGx3
import Derived.Test.YtdhajdgcgjbdnaaDoorGx4
import Derived.Test.YtdhajdgcgjbdnaaDoorGx5
import Derived.Test.YtdhajdgcgjbdnaaDoorPlainA
import Derived.Test.YtdhajdgcgjbdnaaDoorDrawn
set_option linter.unusedVariables false
set_option linter.unusedSimpArgs false
namespace Go.Proofs.YtdhajdgcgjbdnaaDoor.Plain
open Go.RowKit Go.Proofs.YtdhajdgcgjbdnaaDoor.G Go.Proofs.YtdhajdgcgjbdnaaDoorW.PrintWords

theorem up {P : Nat → Prop} (n : Nat) (h : ∀ j, j ≤ n → (j < n → P (j + 1)) → P j) : ∀ j, j ≤ n → P j := by
  have : ∀ m j, n - j = m → j ≤ n → P j := by
    intro m
    induction m with
    | zero => intro j h1 h2; exact h j h2 (fun h3 => by omega)
    | succ m ih => intro j h1 h2; exact h j h2 (fun h3 => ih (j + 1) (by omega) (by omega))
  exact fun j hj => this _ j rfl hj
theorem getD_range (s : ByteArray) (j : Nat) : 0 ≤ (bytesOf s).getD j 0 ∧ (bytesOf s).getD j 0 ≤ 255 := by
  rw [List.getD_eq_getElem?_getD]
  by_cases h : j < (bytesOf s).length
  · rw [List.getElem?_eq_getElem h]
    exact bytes_range s _ (List.getElem_mem h)
  · rw [List.getElem?_eq_none (by omega)]; simp
/-! Tokens -/
def tokC (c : Int) : Bool := ambryref10_sign.f 30 c == some true
theorem sign_tab : ∀ n : Fin 256, ambryref10_sign.f 30 (n.val : Int) = some (tokC n.val) := by decide +kernel
def signs : List UInt8 := [33, 35, 36, 37, 38, 39, 42, 43, 45, 46, 94, 95, 96, 124, 126]
theorem tok_tab : ∀ n : Fin 256, (tokC n.val = true) ↔ ((97 ≤ (n.val : Int) ∧ (n.val : Int) ≤ 122) ∨ (65 ≤ (n.val : Int) ∧ (n.val : Int) ≤ 90) ∨ (48 ≤ (n.val : Int) ∧ (n.val : Int) ≤ 57) ∨ 0 ≤ Lib.indexByte signs (n.val : Int).toNat.toUInt8) := by decide +kernel
theorem fin_of {c : Int} (h0 : 0 ≤ c) (h1 : c ≤ 255) : ∃ n : Fin 256, c = (n.val : Int) := ⟨⟨c.toNat, by omega⟩, by simp; omega⟩
theorem sign_ev {c : Int} (h : 0 ≤ c ∧ c ≤ 255) : Ev (fun k => ambryref10_sign.f k c) (tokC c) := by
  obtain ⟨n, rfl⟩ := fin_of h.1 h.2
  exact Ev.of (fun k => ambryref10_sign.mono _ k) (sign_tab n)
theorem tok_iff {c : Int} (h : 0 ≤ c ∧ c ≤ 255) : tokC c = true ↔ ((97 ≤ c ∧ c ≤ 122) ∨ (65 ≤ c ∧ c ≤ 90) ∨ (48 ≤ c ∧ c ≤ 57) ∨ 0 ≤ Lib.indexByte signs c.toNat.toUInt8) := by
  obtain ⟨n, rfl⟩ := fin_of h.1 h.2
  exact tok_tab n
def tokenL (l : List Int) : Bool := l.all tokC && !l.isEmpty
theorem emp_bool (s : ByteArray) : (s.toList != ([] : List UInt8)) = !(bytesOf s).isEmpty := by
  have e : s.toList = s.data.toList := ByteArray.toList_eq s
  rw [e]
  unfold bytesOf
  cases s.data.toList <;> rfl
theorem emp_iff (s : ByteArray) : s.toList = ([] : List UInt8) ↔ bytesOf s = [] := by
  rw [ByteArray.toList_eq]
  unfold bytesOf
  simp
theorem token_ref (s : ByteArray) (hs : s.size ≤ 4611686018427387904) : Ev (fun k => ambryref10_Token.f k s) (tokenL (bytesOf s)) := by
  have hsz := size_bytes s
  have key : ∀ j, j ≤ s.size → Ev (fun k => ambryref10_Token.l0 k s (j : Int)) (((bytesOf s).drop j).all tokC && !(bytesOf s).isEmpty) := by
    refine up _ fun j hj ih => ?_
    refine Ev.step (fun k => ambryref10_Token.l0.eq_2 s (j : Int) k) ?_
    by_cases hlt : j < s.size
    · refine ev_pos (by omega) (ev_pos (by omega) ?_)
      rw [bt_nat, drop_cons (bytesOf s) 0 (by omega), wrap_succ (by omega), List.all_cons]
      refine ev_bind (sign_ev (getD_range s j)) ?_
      by_cases ht : tokC ((bytesOf s).getD j 0) = true
      · rw [ht, Bool.true_and]; exact ev_pos rfl (ih hlt)
      · rw [Bool.not_eq_true] at ht
        rw [ht]; exact ev_neg (by simp) (ev_ret (by simp))
    · refine ev_neg (by omega) (ev_ret ?_)
      rw [emp_bool, List.drop_of_length_le (by omega)]; rfl
  exact Ev.congr (fun k => ambryref10_Token.f.eq_1 k s) (key 0 (Nat.zero_le _))
theorem token_head (s : ByteArray) (hs : s.size ≤ 4611686018427387904) : Ev (fun k => head_Token.f k s) (tokenL (bytesOf s)) := by
  have hsz := size_bytes s
  have key : ∀ j, j ≤ s.size → Ev (fun k => head_Token.l0 k s (s.size : Int) (j : Int)) (((bytesOf s).drop j).all tokC && !(bytesOf s).isEmpty) := by
    refine up _ fun j hj ih => ?_
    refine Ev.step (fun k => head_Token.l0.eq_2 s (s.size : Int) (j : Int) k) ?_
    by_cases hlt : j < s.size
    · refine ev_pos (by omega) (ev_pos (by omega) (ev_pos (by omega) ?_))
      rw [bt_nat, drop_cons (bytesOf s) 0 (by omega), wrap_succ (by omega), List.all_cons]
      have hr := getD_range s j
      have ih := ih hlt
      generalize (bytesOf s).getD j 0 = c at hr ⊢
      have ht := tok_iff hr
      have hi : strings_IndexByte.f (⟨#[33, 35, 36, 37, 38, 39, 42, 43, 45, 46, 94, 95, 96, 124, 126]⟩ : ByteArray) c = some (Lib.indexByte signs c.toNat.toUInt8) := rfl
      simp only [hi, Option.bind_some]
      generalize Lib.indexByte signs c.toNat.toUInt8 = i at ht ⊢
      by_cases h : tokC c = true
      · rw [h, Bool.true_and]
        have h2 := ht.1 h
        refine Ev.congr (fun k => ?_) ih
        repeat' split
        all_goals first | rfl | (exfalso; omega)
      · have h2 := mt ht.2 h
        rw [Bool.not_eq_true] at h
        rw [h, Bool.false_and, Bool.false_and]
        refine Ev.congr (fun k => ?_) (Ev.now false)
        repeat' split
        all_goals first | rfl | (exfalso; omega)
    · refine ev_neg (by omega) (ev_ret ?_)
      rw [emp_bool, List.drop_of_length_le (by omega)]; rfl
  exact Ev.congr (fun k => head_Token.f.eq_1 k s) (key 0 (Nat.zero_le _))
/-! Blanks -/
def blankC (c : Int) : Bool := decide (c = 32) || decide (c = 9)
theorem blank_head (c : Int) : head_blank.f c = some (blankC c) := by
  unfold head_blank.f blankC
  by_cases h : c = 32
  · simp [h]
  · rw [if_neg h]; simp [h]; rfl
theorem blank_ref (c : Int) : ambryref10_blank.f c = some (blankC c) := blank_head c
def backL (l : List Int) : List Int := (l.reverse.dropWhile blankC).reverse
def trimL (l : List Int) : List Int := backL (l.dropWhile blankC)
def trimB (s : ByteArray) : ByteArray := strOfNums (trimL (bytesOf s))
theorem back_range {l : List Int} (h : ∀ c ∈ l, 0 ≤ c ∧ c ≤ 255) : ∀ c ∈ backL l, 0 ≤ c ∧ c ≤ 255 := fun c hc => h c (by
  have := (List.dropWhile_sublist blankC).subset (List.mem_reverse.1 hc)
  exact List.mem_reverse.1 this)
theorem trim_range {l : List Int} (h : ∀ c ∈ l, 0 ≤ c ∧ c ≤ 255) : ∀ c ∈ trimL l, 0 ≤ c ∧ c ≤ 255 := back_range fun c hc => h c ((List.dropWhile_sublist blankC).subset hc)
theorem bytes_trim (s : ByteArray) : bytesOf (trimB s) = trimL (bytesOf s) := bytes_of_nums (trim_range (bytes_range s))
theorem trim_length (l : List Int) : (trimL l).length ≤ l.length := by
  unfold trimL backL
  rw [List.length_reverse]
  have h1 := (List.dropWhile_sublist blankC (l := l)).length_le
  have h2 := (List.dropWhile_sublist blankC (l := (l.dropWhile blankC).reverse)).length_le
  rw [List.length_reverse] at h2
  omega
theorem trim_size (s : ByteArray) : (trimB s).size ≤ s.size := by
  rw [size_bytes, bytes_trim, size_bytes s]; exact trim_length _
theorem back_concat (l : List Int) (c : Int) : backL (l ++ [c]) = if blankC c = true then backL l else l ++ [c] := by
  unfold backL
  rw [List.reverse_append, List.reverse_cons, List.reverse_nil, List.nil_append, List.singleton_append, List.dropWhile_cons]
  split
  · rfl
  · simp
theorem front_cons (l : List Int) (c : Int) : trimL (c :: l) = if blankC c = true then trimL l else backL (c :: l) := by
  unfold trimL
  rw [List.dropWhile_cons]
  split <;> rfl
theorem cons_of {s : ByteArray} (h : bytesOf s ≠ []) : ∃ c, bytesOf s = c :: bytesOf (s.extract 1 s.size) ∧ bt s 0 = c ∧ 0 < s.size := by
  have hsz := size_bytes s
  cases e : bytesOf s with
  | nil => exact absurd e h
  | cons c l =>
    rw [e, List.length_cons] at hsz
    refine ⟨c, ?_, ?_, by omega⟩
    · rw [bytes_extract, e, List.take_of_length_le (by rw [List.length_cons]; omega)]; rfl
    · have := bt_nat s 0
      rw [e] at this
      exact this
theorem concat_of {s : ByteArray} (h : bytesOf s ≠ []) : ∃ c, bytesOf s = bytesOf (s.extract 0 (s.size - 1)) ++ [c] ∧ bt s ((s.size - 1 : Nat) : Int) = c ∧ 0 < s.size := by
  have hsz := size_bytes s
  have hp : 0 < s.size := by
    rw [hsz]; exact List.length_pos_iff.2 h
  refine ⟨(bytesOf s).getD (s.size - 1) 0, ?_, bt_nat s _, hp⟩
  rw [bytes_extract, List.drop_zero]
  have := List.take_append_drop (s.size - 1) (bytesOf s)
  rw [drop_cons _ 0 (by omega), List.drop_of_length_le (by omega)] at this
  exact this.symm
theorem back_ev_head : ∀ (n : Nat) (s : ByteArray), s.size = n → s.size ≤ 4611686018427387904 → Ev (fun k => head_trim.l1 k s) (strOfNums (backL (bytesOf s))) := by
  intro n
  induction n with
  | zero =>
    intro s hn _
    have e : bytesOf s = [] := List.length_eq_zero_iff.1 (by rw [← size_bytes]; exact hn)
    refine Ev.step (fun k => head_trim.l1.eq_2 s k) (ev_pos ((emp_iff s).2 e) (ev_ret (bytes_inj ?_)))
    rw [bytes_of_nums (back_range (bytes_range s)), e]; rfl
  | succ n ih =>
    intro s hn hs
    have hne : bytesOf s ≠ [] := fun e => by rw [size_bytes, e] at hn; simp at hn
    obtain ⟨c, e, hc, hp⟩ := concat_of hne
    have hw : wrap64 ((s.size : Int) - 1) = ((s.size - 1 : Nat) : Int) := by unfold wrap64; omega
    refine Ev.step (fun k => head_trim.l1.eq_2 s k) (ev_neg (fun h => hne ((emp_iff s).1 h)) ?_)
    rw [hw, hc]
    refine ev_pos (by omega) (ev_pos (by omega) (ev_some (blank_head c) ?_))
    rw [e, back_concat]
    by_cases hb : blankC c = true
    · rw [if_pos hb]
      refine ev_pos hb (ev_pos (by omega) ?_)
      rw [Int.toNat_natCast]
      have := size_bytes (s.extract 0 (s.size - 1))
      have h2 := size_bytes s
      rw [e, List.length_append, List.length_singleton] at h2
      exact ih _ (by omega) (by omega)
    · rw [if_neg hb]
      refine ev_neg hb (ev_ret (bytes_inj ?_))
      rw [← e, bytes_of_nums (bytes_range s)]
theorem trim_head (s : ByteArray) (hs : s.size ≤ 4611686018427387904) : Ev (fun k => head_trim.f k s) (trimB s) := by
  refine Ev.congr (fun k => head_trim.f.eq_1 k s) ?_
  have : ∀ (n : Nat) (s : ByteArray), s.size = n → s.size ≤ 4611686018427387904 → Ev (fun k => head_trim.l0 k s) (strOfNums (trimL (bytesOf s))) := by
    intro n
    induction n with
    | zero =>
      intro s hn hs
      have e : bytesOf s = [] := List.length_eq_zero_iff.1 (by rw [← size_bytes]; exact hn)
      refine Ev.step (fun k => head_trim.l0.eq_2 s k) (ev_pos ((emp_iff s).2 e) (Ev.step (fun k => head_trim.j1.eq_2 s k) ?_))
      rw [e]
      have := back_ev_head 0 s hn hs
      rw [e] at this
      exact this
    | succ n ih =>
      intro s hn hs
      have hne : bytesOf s ≠ [] := fun e => by rw [size_bytes, e] at hn; simp at hn
      obtain ⟨c, e, hc, hp⟩ := cons_of hne
      refine Ev.step (fun k => head_trim.l0.eq_2 s k) (ev_neg (fun h => hne ((emp_iff s).1 h)) (ev_pos (by omega) ?_))
      rw [hc]
      refine ev_some (blank_head c) ?_
      rw [e, front_cons]
      by_cases hb : blankC c = true
      · rw [if_pos hb]
        refine ev_pos hb (ev_pos (by omega) ?_)
        have := size_bytes (s.extract 1 s.size)
        have h2 := size_bytes s
        rw [e, List.length_cons] at h2
        exact ih _ (by omega) (by omega)
      · rw [if_neg hb]
        refine ev_neg hb (Ev.step (fun k => head_trim.j1.eq_2 s k) ?_)
        rw [← e]
        exact back_ev_head _ s rfl hs
  exact this _ s rfl hs
theorem back_ev_ref : ∀ (n : Nat) (s : ByteArray), s.size = n → s.size ≤ 4611686018427387904 → Ev (fun k => ambryref10_Trim.l1 k s) (strOfNums (backL (bytesOf s))) := by
  intro n
  induction n with
  | zero =>
    intro s hn _
    have e : bytesOf s = [] := List.length_eq_zero_iff.1 (by rw [← size_bytes]; exact hn)
    refine Ev.step (fun k => ambryref10_Trim.l1.eq_2 s k) (ev_neg (by omega) (ev_ret (bytes_inj ?_)))
    rw [bytes_of_nums (back_range (bytes_range s)), e]; rfl
  | succ n ih =>
    intro s hn hs
    have hne : bytesOf s ≠ [] := fun e => by rw [size_bytes, e] at hn; simp at hn
    obtain ⟨c, e, hc, hp⟩ := concat_of hne
    have hw : wrap64 ((s.size : Int) - 1) = ((s.size - 1 : Nat) : Int) := by unfold wrap64; omega
    refine Ev.step (fun k => ambryref10_Trim.l1.eq_2 s k) (ev_pos (by omega) ?_)
    rw [hw, hc]
    refine ev_pos (by omega) (ev_pos (by omega) (ev_some (blank_ref c) ?_))
    rw [e, back_concat]
    by_cases hb : blankC c = true
    · rw [if_pos hb]
      refine ev_pos hb (ev_pos (by omega) ?_)
      rw [Int.toNat_natCast]
      have := size_bytes (s.extract 0 (s.size - 1))
      have h2 := size_bytes s
      rw [e, List.length_append, List.length_singleton] at h2
      exact ih _ (by omega) (by omega)
    · rw [if_neg hb]
      refine ev_neg hb (ev_ret (bytes_inj ?_))
      rw [← e, bytes_of_nums (bytes_range s)]
theorem trim_ref (s : ByteArray) (hs : s.size ≤ 4611686018427387904) : Ev (fun k => ambryref10_Trim.f k s) (trimB s) := by
  refine Ev.congr (fun k => ambryref10_Trim.f.eq_1 k s) ?_
  have : ∀ (n : Nat) (s : ByteArray), s.size = n → s.size ≤ 4611686018427387904 → Ev (fun k => ambryref10_Trim.l0 k s) (strOfNums (trimL (bytesOf s))) := by
    intro n
    induction n with
    | zero =>
      intro s hn hs
      have e : bytesOf s = [] := List.length_eq_zero_iff.1 (by rw [← size_bytes]; exact hn)
      refine Ev.step (fun k => ambryref10_Trim.l0.eq_2 s k) (ev_neg (by omega) (Ev.step (fun k => ambryref10_Trim.j1.eq_2 s k) ?_))
      rw [e]
      have := back_ev_ref 0 s hn hs
      rw [e] at this
      exact this
    | succ n ih =>
      intro s hn hs
      have hne : bytesOf s ≠ [] := fun e => by rw [size_bytes, e] at hn; simp at hn
      obtain ⟨c, e, hc, hp⟩ := cons_of hne
      refine Ev.step (fun k => ambryref10_Trim.l0.eq_2 s k) (ev_pos (by omega) (ev_pos (by omega) ?_))
      rw [hc]
      refine ev_some (blank_ref c) ?_
      rw [e, front_cons]
      by_cases hb : blankC c = true
      · rw [if_pos hb]
        refine ev_pos hb (ev_pos (by omega) ?_)
        have := size_bytes (s.extract 1 s.size)
        have h2 := size_bytes s
        rw [e, List.length_cons] at h2
        exact ih _ (by omega) (by omega)
      · rw [if_neg hb]
        refine ev_neg hb (Ev.step (fun k => ambryref10_Trim.j1.eq_2 s k) ?_)
        rw [← e]
        exact back_ev_ref _ s rfl hs
  exact this _ s rfl hs
/-! Values -/
def textC (c : Int) : Bool := !(decide (c < 32) && !decide (c = 9) || decide (c = 127))
def textL (l : List Int) : Bool := l.all textC
def valueL (l : List Int) : Bool := textL l && (trimL l == l)
theorem text_ref (s : ByteArray) (hs : s.size ≤ 4611686018427387904) : Ev (fun k => ambryref10_Text.f k s) (textL (bytesOf s)) := by
  have hsz := size_bytes s
  have key : ∀ j, j ≤ s.size → Ev (fun k => ambryref10_Text.l0 k s (j : Int)) (((bytesOf s).drop j).all textC) := by
    refine up _ fun j hj ih => ?_
    refine Ev.step (fun k => ambryref10_Text.l0.eq_2 s (j : Int) k) ?_
    by_cases hlt : j < s.size
    · refine ev_pos (by omega) (ev_pos (by omega) ?_)
      rw [bt_nat, drop_cons (bytesOf s) 0 (by omega), wrap_succ (by omega), List.all_cons]
      have ih := ih hlt
      generalize (bytesOf s).getD j 0 = c
      by_cases h : textC c = true
      · rw [h, Bool.true_and]
        simp [textC] at h
        refine Ev.congr (fun k => ?_) ih
        repeat' split
        all_goals first | rfl | (exfalso; omega)
      · rw [Bool.not_eq_true] at h
        rw [h, Bool.false_and]
        simp [textC] at h
        refine Ev.congr (fun k => ?_) (Ev.now false)
        repeat' split
        all_goals first | rfl | (exfalso; omega)
    · refine ev_neg (by omega) (ev_ret ?_)
      rw [List.drop_of_length_le (by omega)]; rfl
  exact Ev.congr (fun k => ambryref10_Text.f.eq_1 k s) (key 0 (Nat.zero_le _))
theorem value_head (s : ByteArray) (hs : s.size ≤ 4611686018427387904) : Ev (fun k => head_Value.f k s) (valueL (bytesOf s)) := by
  have hsz := size_bytes s
  have key : ∀ j, j ≤ s.size → Ev (fun k => head_Value.l0 k s (s.size : Int) (j : Int)) (((bytesOf s).drop j).all textC && (trimL (bytesOf s) == bytesOf s)) := by
    refine up _ fun j hj ih => ?_
    refine Ev.step (fun k => head_Value.l0.eq_2 s (s.size : Int) (j : Int) k) ?_
    by_cases hlt : j < s.size
    · refine ev_pos (by omega) (ev_pos (by omega) (ev_pos (by omega) ?_))
      rw [bt_nat, drop_cons (bytesOf s) 0 (by omega), wrap_succ (by omega), List.all_cons]
      have ih := ih hlt
      generalize (bytesOf s).getD j 0 = c
      by_cases h : textC c = true
      · rw [h, Bool.true_and]
        simp [textC] at h
        refine Ev.congr (fun k => ?_) ih
        repeat' split
        all_goals first | rfl | (exfalso; omega)
      · rw [Bool.not_eq_true] at h
        rw [h, Bool.false_and, Bool.false_and]
        simp [textC] at h
        refine Ev.congr (fun k => ?_) (Ev.now false)
        repeat' split
        all_goals first | rfl | (exfalso; omega)
    · refine ev_neg (by omega) (ev_bind (trim_head s hs) (ev_ret ?_))
      rw [List.drop_of_length_le (by omega), list_beq, bytes_trim]; rfl
  exact Ev.congr (fun k => head_Value.f.eq_1 k s) (key 0 (Nat.zero_le _))
theorem trim_own (l : List Int) (c : Int) (m : List Int) (d : Int) (h : c :: l = m ++ [d]) : (trimL (c :: l) == c :: l) = (!blankC c && !blankC d) := by
  rw [front_cons]
  by_cases hc : blankC c = true
  · rw [if_pos hc, hc]
    have := trim_length l
    have : trimL l ≠ c :: l := fun e => by rw [e, List.length_cons] at this; omega
    rw [beq_false_of_ne this]; rfl
  · rw [if_neg hc, h, back_concat]
    rw [Bool.not_eq_true] at hc
    by_cases hd : blankC d = true
    · rw [if_pos hd, hd, hc]
      have h1 : (backL m).length ≤ m.length := by
        unfold backL
        rw [List.length_reverse]
        have h2 := (List.dropWhile_sublist blankC (l := m.reverse)).length_le
        rw [List.length_reverse] at h2
        exact h2
      have : backL m ≠ m ++ [d] := fun e => by rw [e, List.length_append, List.length_singleton] at h1; omega
      rw [beq_false_of_ne this]; rfl
    · rw [if_neg hd, beq_self_eq_true, hc]
      rw [Bool.not_eq_true] at hd
      rw [hd]; rfl
theorem value_ref (s : ByteArray) (hs : s.size ≤ 4611686018427387904) : Ev (fun k => ambryref10_Value.f k s) (valueL (bytesOf s)) := by
  refine Ev.congr (fun k => ambryref10_Value.f.eq_1 k s) (ev_bind (text_ref s hs) ?_)
  unfold valueL
  by_cases ht : textL (bytesOf s) = true
  · rw [ht, Bool.true_and]
    refine ev_pos rfl ?_
    by_cases he : bytesOf s = []
    · refine ev_pos ((emp_iff s).2 he) (ev_ret ?_)
      rw [he]; rfl
    · refine ev_neg (fun h => he ((emp_iff s).1 h)) ?_
      obtain ⟨c, e, hc, hp⟩ := cons_of he
      obtain ⟨d, e2, hd, _⟩ := concat_of he
      have hw : wrap64 ((s.size : Int) - 1) = ((s.size - 1 : Nat) : Int) := by unfold wrap64; omega
      rw [hc, hw, hd]
      refine ev_pos (by omega) (ev_some (blank_ref c) ?_)
      have := trim_own _ c _ d (e.symm.trans e2)
      rw [← e] at this
      rw [this]
      by_cases hb : blankC c = true
      · rw [hb]; exact ev_pos rfl (ev_ret rfl)
      · refine ev_neg hb (ev_pos (by omega) (ev_pos (by omega) (ev_some (blank_ref d) (ev_ret ?_))))
        rw [Bool.not_eq_true] at hb
        rw [hb]; rfl
  · refine ev_neg ht (ev_ret ?_)
    rw [Bool.not_eq_true] at ht
    rw [ht]; rfl
/-! Small letters -/
theorem low_range {c : Int} (h : 0 ≤ c ∧ c ≤ 255) : 0 ≤ Leaf.lowC c ∧ Leaf.lowC c ≤ 255 := by
  unfold Leaf.lowC; split <;> omega
def lowB (s : ByteArray) : ByteArray := strOfNums ((bytesOf s).map Leaf.lowC)
theorem bytes_low (s : ByteArray) : bytesOf (lowB s) = (bytesOf s).map Leaf.lowC := bytes_of_nums (by
  intro c hc
  obtain ⟨d, hd, rfl⟩ := List.mem_map.1 hc
  exact low_range (bytes_range s d hd))
theorem low_low (c : Int) : Leaf.lowC (Leaf.lowC c) = Leaf.lowC c := by
  unfold Leaf.lowC
  by_cases h : 65 ≤ c ∧ c ≤ 90
  · rw [if_pos h, if_neg (by omega)]
  · rw [if_neg h, if_neg h]
theorem same_low (s : ByteArray) : Leaf.sameB s (lowB s) = true := by
  unfold Leaf.sameB
  rw [bytes_low, List.map_map, beq_iff_eq]
  exact List.map_congr_left fun c _ => (low_low c).symm
end Go.Proofs.YtdhajdgcgjbdnaaDoor.Plain
