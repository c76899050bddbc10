/- The document's reading of a body in chunks, in plain words. -/
import Derived.Test.YtdhajdgcgjbdnaaDoorChunkRd
import Derived.Test.YtdhajdgcgjbdnaaDoorGx4
import Derived.Test.YtdhajdgcgjbdnaaDoorGx5
import Derived.Test.YtdhajdgcgjbdnaaDoorGx7
import Derived.Test.YtdhajdgcgjbdnaaDoorHeadLists
set_option linter.unusedVariables false
set_option linter.unusedSimpArgs false
namespace Go.Proofs.YtdhajdgcgjbdnaaDoor.Chunk
open Go.RowKit Go.Proofs.YtdhajdgcgjbdnaaDoor.G Go.Proofs.YtdhajdgcgjbdnaaDoorW.PrintWords Go.Proofs.YtdhajdgcgjbdnaaDoorW.PrintMore Go.Proofs.YtdhajdgcgjbdnaaDoor.Plain

def lnR (m : Nat) : Got (List Int × List Int) → ByteArray × Int × Int
  | .ok (s, r) => (strOfNums s, ((m - r.length : Nat) : Int), 0)
  | .bad e => (⟨#[]⟩, 0, e)
theorem line_ev (xs : List Int) (hl : xs.length ≤ 1000000000) (i : Nat) (hi : i ≤ xs.length) : Ev (fun k => ambryref10_line.f k xs (i : Int)) (lnR xs.length (lineG (xs.drop i) 0)) := by
  have key : ∀ j, j ≤ xs.length → i ≤ j → Ev (fun k => ambryref10_line.l0 k xs (i : Int) (j : Int)) (lnR xs.length (front ((xs.drop i).take (j - i)) (lineG (xs.drop j) (j - i)))) := by
    refine up _ fun j hj ih hij => ?_
    refine Ev.step (fun k => ambryref10_line.l0.eq_2 xs (i : Int) (j : Int) k) ?_
    by_cases hlt : j < xs.length
    · refine ev_pos (by omega) (ev_pos (by omega) ?_)
      have hd := rd_drop xs j hlt
      by_cases h13 : rd xs (j : Int) = 13
      · refine ev_pos h13 ?_
        rw [wrap_succ (by omega)]
        by_cases h2 : j + 1 < xs.length
        · refine ev_neg (by omega) (ev_pos (by omega) (ev_pos (by omega) ?_))
          have hd2 := rd_drop xs (j + 1) h2
          by_cases h10 : rd xs ((j + 1 : Nat) : Int) = 10
          · refine ev_pos h10 (ev_pos (by omega) (ev_pos (by omega) (ev_pos (by omega) (ev_ret ?_))))
            rw [hd, h13, lineG, if_pos rfl, hd2, h10, crG, if_pos rfl, none1, front, List.append_nil]
            have e1 : List.drop (i : Int).toNat (List.take (j : Int).toNat xs) = (xs.drop i).take (j - i) := by rw [Int.toNat_natCast, Int.toNat_natCast, List.drop_take]
            rw [e1, wrap_nat (by omega) (by omega)]
            simp only [lnR, List.length_drop]
            rw [show xs.length - (xs.length - (j + 1 + 1)) = j + 2 by omega]
            simp
          · refine ev_neg h10 (ev_ret ?_)
            rw [hd, h13, lineG, if_pos rfl, hd2, crG, if_neg h10, none1, front]
            rfl
        · refine ev_pos (by omega) (ev_ret ?_)
          rw [hd, h13, lineG, if_pos rfl, show xs.drop (j + 1) = [] from List.drop_eq_nil_of_le (by omega), crG, none1, front]
          rfl
      · refine ev_neg h13 ?_
        rw [wrap_nat (n := (j : Int) - (i : Int)) (by omega) (by omega)]
        by_cases hk : j - i < 1024
        · refine ev_neg (by omega) ?_
          by_cases h10 : rd xs (j : Int) = 10
          · refine ev_pos h10 (ev_ret ?_)
            rw [hd, lineG, if_neg h13, if_pos (.inl h10), front]
            rfl
          · refine ev_neg h10 ?_
            rw [wrap_succ (by omega)]
            have := ih hlt (by omega)
            rwa [show j + 1 - i = j - i + 1 by omega, take_rd xs i (j - i) (by omega), show i + (j - i) = j by omega, ← front_step _ _ _ _ h13 h10 hk, ← hd] at this
        · refine ev_pos (by omega) (ev_ret ?_)
          rw [hd, lineG, if_neg h13, if_pos (.inr (by omega)), front]
          rfl
    · refine ev_neg (by omega) (ev_ret ?_)
      rw [show xs.drop j = [] from List.drop_eq_nil_of_le (by omega), lineG, front]
      rfl
  have := key i hi (Nat.le_refl _)
  rw [Nat.sub_self, List.take_zero, front_nil] at this
  exact Ev.congr (fun k => ambryref10_line.f.eq_1 k xs (i : Int)) this
theorem hex_tab : ∀ n : Fin 256, ambryref10_hex.f 30 (n.val : Int) = some (hexV n.val) := by decide +kernel
theorem hex_ev {c : Int} (h : 0 ≤ c ∧ c ≤ 255) : Ev (fun k => ambryref10_hex.f k c) (hexV c) := by
  obtain ⟨n, rfl⟩ := fin_of h.1 h.2
  exact Ev.of (fun k => ambryref10_hex.mono _ k) (hex_tab n)
def leR : Option Nat → Int × Bool
  | some n => ((n : Int), true)
  | none => (0, false)
theorem hex_59 : hexV 59 = -1 := by decide
theorem length_ev (s : ByteArray) (hs : s.size ≤ 1000000000) : Ev (fun k => ambryref10_length.f k s) (leR (lenG textL (bytesOf s) 0 0)) := by
  have hsz := size_bytes s
  have fin : ∀ (j n : Nat), j ≤ s.size → Ev (fun k => (ambryref10_Text.f k (s.extract (j : Int).toNat s.size)).bind fun t => (if t = true then some ((n : Int), true) else some (0, false))) (if textL ((bytesOf s).drop j) = true then ((n : Int), true) else (0, false)) := by
    intro j n hj
    have h := text_ref (s.extract (j : Int).toNat s.size) (by rw [ByteArray.size_extract]; omega)
    rw [bytes_extract, Int.toNat_natCast, List.take_of_length_le (by omega)] at h
    refine ev_bind h ?_
    cases textL ((bytesOf s).drop j) with
    | true => exact ev_pos rfl (ev_ret rfl)
    | false => exact ev_neg (by simp) (ev_ret rfl)
  have key : ∀ j, j ≤ s.size → ∀ n : Nat, j ≤ 8 → n < 16 ^ j → Ev (fun k => ambryref10_length.l0 k s (n : Int) (j : Int)) (leR (lenG textL ((bytesOf s).drop j) j n)) := by
    refine up _ fun j hj ih n hj8 hn => ?_
    refine Ev.step (fun k => ambryref10_length.l0.eq_2 s (n : Int) (j : Int) k) ?_
    have hn36 := pow_le hn hj8
    by_cases hlt : j < s.size
    · refine ev_pos (by omega) ?_
      have hd := bt_drop s j hlt
      have hr := bt_range s (j : Int)
      obtain ⟨c, hc⟩ : ∃ c, bt s (j : Int) = c := ⟨_, rfl⟩
      rw [hc] at hd hr ⊢
      by_cases hv : hexV c < 0
      · -- no digit
        have h59 : c = 59 ∨ c ≠ 59 := by omega
        have hg : leR (lenG textL ((bytesOf s).drop j) j n) = if j = 0 then (0, false) else if c = 59 then (if textL ((bytesOf s).drop j) = true then ((n : Int), true) else (0, false)) else (0, false) := by
          rw [hd, lenG, if_pos hv]
          by_cases h0 : j = 0
          · rw [if_pos h0, if_neg (by omega)]; rfl
          · rw [if_neg h0]
            by_cases hq : c = 59
            · rw [if_pos hq]
              have ht : textL (c :: (bytesOf s).drop (j + 1)) = textL ((bytesOf s).drop (j + 1)) := by
                subst hq
                unfold textL
                rw [List.all_cons, show textC 59 = true by decide, Bool.true_and]
              rw [ht]
              cases htt : textL ((bytesOf s).drop (j + 1)) with
              | true => rw [if_pos ⟨by omega, hq, rfl⟩, if_pos rfl]; rfl
              | false => rw [if_neg (by simp), if_neg (by simp)]; rfl
            · rw [if_neg hq, if_neg (fun h => hq h.2.1)]; rfl
        rw [hg]
        by_cases h8 : j < 8
        · refine ev_pos (by omega) (ev_pos (by omega) (ev_bind (hex_ev hr) (ev_neg (by omega) ?_)))
          by_cases h0 : j = 0
          · rw [if_pos h0]; exact ev_pos (by omega) (ev_ret rfl)
          · rw [if_neg h0]
            refine ev_neg (by omega) ?_
            by_cases hq : c = 59
            · rw [if_pos hq]; exact ev_pos hq (ev_pos (by omega) (fin j n hj))
            · rw [if_neg hq]; exact ev_neg hq (ev_ret rfl)
        · refine ev_neg (by omega) ?_
          rw [if_neg (show ¬ j = 0 by omega)]
          refine ev_neg (by omega) (ev_pos (by omega) ?_)
          by_cases hq : c = 59
          · rw [if_pos hq]; exact ev_pos hq (ev_pos (by omega) (fin j n hj))
          · rw [if_neg hq]; exact ev_neg hq (ev_ret rfl)
      · have hv15 := hexV_le (c := c)
        by_cases h8 : j < 8
        · refine ev_pos (by omega) (ev_pos (by omega) (ev_bind (hex_ev hr) (ev_pos (by omega) (ev_bind (hex_ev hr) ?_))))
          rw [hd, lenG, if_neg hv, if_neg (by omega)]
          have e1 : wrap64 (wrap64 (16 * (n : Int)) + hexV c) = ((n * 16 + (hexV c).toNat : Nat) : Int) := by
            rw [wrap_nat (n := 16 * (n : Int)) (by omega) (by omega), wrap_nat (by omega) (by omega)]
            omega
          rw [e1, wrap_succ (by omega)]
          exact ih hlt _ (by omega) (pow_step hn (by omega) hv15)
        · refine ev_neg (by omega) (ev_neg (by omega) (ev_pos (by omega) (ev_neg (fun h => by rw [h, hex_59] at hv; omega) (ev_ret ?_))))
          rw [hd, lenG, if_neg hv, if_pos (by omega)]
          rfl
    · refine ev_neg (by omega) ?_
      have hj2 : (bytesOf s).drop j = [] := List.drop_eq_nil_of_le (by omega)
      rw [hj2, lenG]
      by_cases h0 : j = 0
      · rw [if_neg (show ¬ 0 < j by omega)]; exact ev_pos (by omega) (ev_ret rfl)
      · rw [if_pos (show 0 < j by omega)]
        refine ev_neg (by omega) (ev_pos (by omega) (ev_pos (by omega) ?_))
        have := fin j n hj
        rw [hj2] at this
        exact this
  exact Ev.congr (fun k => ambryref10_length.f.eq_1 k s) (key 0 (Nat.zero_le _) 0 (by decide) (by decide))
def csR (m : Nat) : Got (List Int × List Int) → List Int × Int × Int
  | .ok (o, r) => (o, ((m - r.length : Nat) : Int), 0)
  | .bad e => ([], 0, e)
theorem crG_bad {l : List Int} {e : Int} (h : crG l = .bad e) : e ≠ 0 := by
  cases l with
  | nil => cases h; decide
  | cons c t =>
    rw [crG] at h
    split at h
    · cases h
    · cases h; decide
theorem lineG_bad : ∀ (l : List Int) (k : Nat) (e : Int), lineG l k = .bad e → e ≠ 0 := by
  intro l
  induction l with
  | nil => intro k e h; rw [lineG] at h; cases h; decide
  | cons c t ih =>
    intro k e h
    rw [lineG] at h
    split at h
    · cases hc : crG t with
      | ok u => rw [hc] at h; cases h
      | bad e2 => rw [hc] at h; cases h; exact crG_bad hc
    · split at h
      · cases h; decide
      · cases hc : lineG t (k + 1) with
        | ok a => obtain ⟨s, r⟩ := a; rw [hc] at h; cases h
        | bad e2 => rw [hc] at h; cases h; exact ih _ _ hc
theorem parseA_ok : ∀ (l : List ByteArray) (acc : List S68), (parseA acc l).2 = 0 ↔ ∀ x ∈ l, (lineP x).isSome = true := by
  intro l
  induction l with
  | nil => intro acc; simp [parseA]
  | cons x l ih =>
    intro acc
    rw [parseA]
    cases e : lineP x with
    | none => simp [e]
    | some f =>
      simp only [List.mem_cons, forall_eq_or_imp, e, Option.isSome_some, true_and]
      exact ih _
theorem field_iff (s : List Int) : fieldL s = true ↔ (lineP (strOfNums s)).isSome = true := by
  unfold fieldL parseL
  rw [if_neg (by simp), beq_iff_eq, parseA_ok]
  simp
theorem trail_ev (xs o : List Int) (hl : xs.length ≤ 1000000000) (hr : ∀ c ∈ xs, 0 ≤ c ∧ c ≤ 255) : ∀ (f i : Nat) (L : List ByteArray), xs.length - i < f → i ≤ xs.length → (∀ x ∈ L, (lineP x).isSome = true ∧ x.size ≤ 1000000000) → L.length ≤ 100 →
    Ev (fun k => ambryref10_Chunks.l2 k xs o (i : Int) L) (csR xs.length (match trailG fieldL f (xs.drop i) L.length with | .bad e => .bad e | .ok r => .ok (o, r))) := by
  intro f
  induction f with
  | zero => intro i L h; omega
  | succ f ih =>
    intro i L hf hi hL hc
    refine Ev.step (fun k => ambryref10_Chunks.l2.eq_2 xs o (i : Int) L k) ?_
    refine ev_bind (line_ev xs hl i hi) ?_
    cases hg : lineG (xs.drop i) 0 with
    | bad e =>
      refine ev_neg (lineG_bad _ _ _ hg) (ev_ret ?_)
      rw [trailG, hg]
      rfl
    | ok a =>
      obtain ⟨s, r⟩ := a
      obtain ⟨h1, h2, h3⟩ := lineG_length _ _ _ _ hg
      rw [List.length_drop] at h1
      have hrx : xs.drop (xs.length - r.length) = r := by rw [h2, List.drop_drop]; congr 1; rw [List.length_drop]; omega
      have hsr := line_rng (drop_rng hr i) hg
      have hsz := str_size s hsr
      refine ev_pos rfl ?_
      rw [trailG, hg]
      dsimp only
      by_cases hs : s = []
      · rw [if_pos hs]
        refine ev_pos ?_ (ev_ret rfl)
        subst hs
        exact (emp_iff _).2 rfl
      · rw [if_neg hs]
        refine ev_neg (fun h => hs ?_) (ev_pos (by omega) (ev_some rfl ?_))
        · have : bytesOf (strOfNums s) = [] := (emp_iff _).1 h
          rwa [bytes_of_nums hsr] at this
        · refine ev_bind (parse_ref (L ++ [strOfNums s]) (fun x hx => ?_)) ?_
          · rw [List.mem_append, List.mem_singleton] at hx
            rcases hx with hx | rfl
            · have := (hL x hx).2; omega
            · rw [hsz]; omega
          by_cases hq : fieldL s = true ∧ L.length < 100
          · have hp : (parseL (L ++ [strOfNums s])).2 = 0 := by
              unfold parseL
              rw [if_neg (by rw [List.length_append, List.length_singleton]; omega), parseA_ok]
              intro x hx
              rw [List.mem_append, List.mem_singleton] at hx
              rcases hx with hx | rfl
              · exact (hL x hx).1
              · exact (field_iff s).1 hq.1
            refine ev_pos hp ?_
            rw [if_pos hq]
            have := ih (xs.length - r.length) (L ++ [strOfNums s]) (by omega) (by omega) (fun x hx => by
              rw [List.mem_append, List.mem_singleton] at hx
              rcases hx with hx | rfl
              · exact hL x hx
              · exact ⟨(field_iff s).1 hq.1, by rw [hsz]; omega⟩) (by rw [List.length_append, List.length_singleton]; omega)
            rw [hrx, List.length_append, List.length_singleton] at this
            exact this
          · refine ev_neg ?_ (ev_ret ?_)
            · intro hp
              apply hq
              unfold parseL at hp
              split at hp
              · cases hp
              · rename_i hlen
                rw [List.length_append, List.length_singleton] at hlen
                rw [parseA_ok] at hp
                exact ⟨(field_iff s).2 (hp _ (by simp)), by omega⟩
            · rw [if_neg hq]
              rfl
theorem end_ev (xs o : List Int) (hl : xs.length ≤ 1000000000) (i : Nat) (hi : i ≤ xs.length) (G : List Int → Got (List Int × List Int)) (hG : ∀ j, i ≤ j → j ≤ xs.length → Ev (fun k => ambryref10_Chunks.l0 k xs o (j : Int)) (csR xs.length (G (xs.drop j)))) :
    ∀ m : Nat, m ≤ 2 → ∀ j : Nat, i ≤ j → j ≤ xs.length → Ev (fun k => ambryref10_Chunks.l1 k xs o (j : Int) (m : Int)) (csR xs.length (match endK (xs.drop j) m with | .bad e => .bad e | .ok r => G r)) := by
  refine up _ fun m hm ih j hij hj => ?_
  refine Ev.step (fun k => ambryref10_Chunks.l1.eq_2 xs o (j : Int) (m : Int) k) ?_
  by_cases h2 : m < 2
  · refine ev_pos (by omega) ?_
    by_cases hjl : j < xs.length
    · refine ev_neg (by omega) (ev_pos (by omega) (ev_pos (by omega) (ev_pos (by omega) ?_)))
      rw [endK_step xs j m h2 hjl]
      have hcr : bt (⟨#[13, 10]⟩ : ByteArray) (m : Int) = crlf m := by
        rcases (show m = 0 ∨ m = 1 by omega) with rfl | rfl <;> rfl
      rw [hcr]
      by_cases hx : rd xs (j : Int) = crlf m
      · rw [if_pos hx]
        refine ev_pos hx ?_
        rw [wrap_succ (by omega), wrap_succ (by omega)]
        exact ih h2 (j + 1) (by omega) (by omega)
      · rw [if_neg hx]
        exact ev_neg hx (ev_ret rfl)
    · refine ev_pos (by omega) (ev_ret ?_)
      rw [show xs.drop j = [] from List.drop_eq_nil_of_le (by omega), endK_nil m h2]
      rfl
  · refine ev_neg (by omega) ?_
    obtain rfl : m = 2 := by omega
    exact hG j hij hj
theorem lenG_lt (T : List Int → Bool) : ∀ (l : List Int) (i n m : Nat), n < 16 ^ i → i ≤ 8 → lenG T l i n = some m → m < 4294967296 := by
  intro l
  induction l with
  | nil =>
    intro i n m hn hi h
    rw [lenG] at h
    split at h
    · cases h; exact pow_le hn hi
    · cases h
  | cons c t ih =>
    intro i n m hn hi h
    rw [lenG] at h
    split at h
    · split at h
      · cases h; exact pow_le hn hi
      · cases h
    · rename_i hv
      split at h
      · cases h
      · exact ih (i + 1) _ m (pow_step hn (by omega) hexV_le) (by omega) h
set_option maxRecDepth 100000 in
theorem body_ev (xs : List Int) (hl : xs.length ≤ 1000000000) (hr : ∀ c ∈ xs, 0 ≤ c ∧ c ≤ 255) : ∀ (f i : Nat) (o : List Int), xs.length - i < f → i ≤ xs.length → o.length ≤ 65536 →
    Ev (fun k => ambryref10_Chunks.l0 k xs o (i : Int)) (csR xs.length (bodyG textL fieldL f (xs.drop i) o)) := by
  intro f
  induction f with
  | zero => intro i o h; omega
  | succ f ih =>
    intro i o hf hi ho
    refine Ev.step (fun k => ambryref10_Chunks.l0.eq_2 xs o (i : Int) k) ?_
    have hline := line_ev xs hl i hi
    cases hg : lineG (xs.drop i) 0 with
    | bad e =>
      rw [hg] at hline
      refine ev_bind hline (ev_neg (lineG_bad _ _ _ hg) (ev_ret ?_))
      rw [bodyG, hg]
      rfl
    | ok a =>
      obtain ⟨s, r⟩ := a
      obtain ⟨h1, h2, h3⟩ := lineG_length _ _ _ _ hg
      rw [List.length_drop] at h1
      have hrx : xs.drop (xs.length - r.length) = r := by rw [h2, List.drop_drop]; congr 1; rw [List.length_drop]; omega
      have hsr := line_rng (drop_rng hr i) hg
      have hsz := str_size s hsr
      have hle := length_ev (strOfNums s) (by rw [hsz]; omega)
      rw [bytes_of_nums hsr] at hle
      obtain ⟨q, hq⟩ : ∃ q, xs.length - r.length = q := ⟨_, rfl⟩
      have hrl : r.length = xs.length - q := by omega
      have hline : Ev (fun k => ambryref10_line.f k xs (i : Int)) (strOfNums s, (q : Int), 0) := by
        rw [hg] at hline
        rw [← hq]
        exact hline
      rw [hq] at hrx
      refine ev_bind hline (ev_pos rfl (ev_bind hle ?_))
      rw [bodyG, hg]
      dsimp only
      cases hn : lenG textL s 0 0 with
      | none => exact ev_neg (by simp [leR]) (ev_ret rfl)
      | some n =>
        have hnl := lenG_lt textL s 0 0 n (by decide) (by decide) hn
        refine ev_pos rfl ?_
        dsimp only [leR]
        by_cases h0 : n = 0
        · rw [if_pos h0]
          refine ev_pos (by omega) ?_
          have := trail_ev xs o hl hr (r.length + 1) q [] (by omega) (by omega) (fun x hx => by cases hx) (by simp)
          rw [hrx] at this
          exact this
        · rw [if_neg h0]
          refine ev_neg (by omega) ?_
          have hb1 : (0 : Int) ≤ 65536 - (o.length : Int) ∧ 65536 - (o.length : Int) ≤ 9000000000000000000 := by clear hf hg hn hnl ih; omega
          have hb2 : (0 : Int) ≤ (xs.length : Int) - (q : Int) ∧ (xs.length : Int) - (q : Int) ≤ 9000000000000000000 := by clear hf hg hn hnl ih; omega
          have hb3 : (0 : Int) ≤ (q : Int) + (n : Int) ∧ (q : Int) + (n : Int) ≤ 9000000000000000000 := by clear hf hg hn ih; omega
          have w1 := w64 _ hb1.1 hb1.2
          have w2 := w64 _ hb2.1 hb2.2
          have w3 : wrap64 ((q : Int) + (n : Int)) = ((q + n : Nat) : Int) := (w64 _ hb3.1 hb3.2).trans (by omega)
          have W1 := Lib.hid w1
          have W2 := Lib.hid w2
          have W3 := Lib.hid w3
          clear w1 w2 w3 hb1 hb2 hb3
          by_cases hlong : 65536 < n + o.length
          · rw [if_pos hlong]
            exact ev_pos (by rw [W1.out]; omega) (ev_ret rfl)
          · rw [if_neg hlong]
            refine ev_neg (by rw [W1.out]; omega) ?_
            by_cases hsh : r.length < n
            · rw [if_pos hsh]
              exact ev_pos (by rw [W2.out]; omega) (ev_ret rfl)
            · rw [if_neg hsh]
              have hcut : List.drop (q : Int).toNat (List.take (wrap64 ((q : Int) + (n : Int))).toNat xs) = r.take n := by
                rw [W3.out, Int.toNat_natCast, Int.toNat_natCast, List.drop_take, hrx, show q + n - q = n by omega]
              refine ev_neg (by rw [W2.out]; omega) (ev_pos (by omega) (ev_pos (by rw [W3.out]; omega) (ev_pos (by rw [W3.out]; omega) (ev_pos ?_ ?_))))
              · rw [hcut, List.length_take]; omega
              · rewrite [hcut, W3.out]
                have := end_ev xs (o ++ r.take n) hl (q + n) (by omega) (fun l => bodyG textL fieldL f l (o ++ r.take n)) (fun j hj1 hj2 => ih j (o ++ r.take n) (by omega) hj2 (by rw [List.length_append, List.length_take]; omega)) 0 (by decide) (q + n) (Nat.le_refl _) (by omega)
                rw [show xs.drop (q + n) = r.drop n by rw [← hrx, List.drop_drop]] at this
                exact this
theorem chunks_ev (xs : List Int) (hl : xs.length ≤ 1000000000) (hr : ∀ c ∈ xs, 0 ≤ c ∧ c ≤ 255) : Ev (fun k => ambryref10_Chunks.f k xs) (csR xs.length (openG xs)) := by
  have := body_ev xs hl hr (xs.length + 1) 0 [] (by omega) (Nat.zero_le _) (by simp)
  rw [List.drop_zero] at this
  exact Ev.congr (fun k => ambryref10_Chunks.f.eq_1 k xs) this
end Go.Proofs.YtdhajdgcgjbdnaaDoor.Chunk
