/- A text of a log's line and k rules: its lines, and what they come to. -/
import Derived.Test.YtlpfineihjefcaaDoorConfL
import Derived.Test.YtlpfineihjefcaaDoorGx5
set_option linter.unusedVariables false
set_option linter.unusedSimpArgs false
namespace Go.Proofs.YtlpfineihjefcaaDoor.Conf
open Go.RowKit Go.Proofs.YtlpfineihjefcaaDoor.G Go.Proofs.YtlpfineihjefcaaDoorW.PrintWords Go.Proofs.YtlpfineihjefcaaDoorW.PrintMore Go.Proofs.YtlpfineihjefcaaDoor.Plain

theorem idx_app (c : UInt8) : ∀ (l r : List UInt8), c ∉ l → Lib.indexByte (l ++ c :: r) c = (l.length : Int)
  | [], r, _ => by rw [List.nil_append, Lib.indexByte]; simp
  | x :: l, r, h => by
    have hx : (x == c) = false := beq_eq_false_iff_ne.2 fun e => h (by rw [e]; exact List.mem_cons_self)
    have ih := idx_app c l r (fun hm => h (List.mem_cons_of_mem _ hm))
    rw [List.cons_append, Lib.indexByte]
    simp only [hx, ih]
    simp
def NL : ByteArray := ⟨#[10]⟩
theorem data_app (a b : ByteArray) : (a ++ b).data.toList = a.data.toList ++ b.data.toList := by
  rw [ByteArray.data_append, Array.toList_append]
theorem line_data (a b : ByteArray) : (a ++ (NL ++ b)).data.toList = a.data.toList ++ 10 :: b.data.toList := by
  rw [data_app, data_app]; rfl
theorem line_size (a b : ByteArray) : (a ++ (NL ++ b)).size = a.size + (1 + b.size) := by
  rw [size_bytes, bytes_append, bytes_append, List.length_append, List.length_append, ← size_bytes, ← size_bytes, ← size_bytes]; rfl
theorem line_rest (a b : ByteArray) : (a ++ (NL ++ b)).extract (a.size + 1) (a ++ (NL ++ b)).size = b := by
  apply bytes_inj
  rw [bytes_extract, bytes_append, bytes_append]
  have h : (bytesOf a ++ (bytesOf NL ++ bytesOf b)).length = (a ++ (NL ++ b)).size := by rw [size_bytes, bytes_append, bytes_append]
  rw [← h, List.take_length, size_bytes a, show bytesOf NL = [10] from rfl, ← List.append_assoc, show (bytesOf a).length + 1 = (bytesOf a ++ [10]).length by simp, List.drop_left]
theorem line_first (a b : ByteArray) : (a ++ (NL ++ b)).extract 0 (a.size + 0) = a := by
  apply bytes_inj
  rw [bytes_extract, bytes_append, Nat.add_zero, size_bytes, List.take_left, List.drop_zero]
theorem lines_cons (a b : ByteArray) (h : (10 : UInt8) ∉ a.data.toList) : linesOf (a ++ (NL ++ b)) = a :: linesOf b := by
  have hix : Lib.indexB (a ++ (NL ++ b)) ⟨#[10]⟩ = (a.size : Int) := by
    have h1 : Lib.indexB (a ++ (NL ++ b)) ⟨#[10]⟩ = Lib.indexByte (a ++ (NL ++ b)).data.toList 10 := Lib.index_one _ 10
    rw [h1, line_data, idx_app _ _ _ h]; rfl
  have hc : Lib.countB (a ++ (NL ++ b)) ⟨#[10]⟩ = Lib.countB b ⟨#[10]⟩ + 1 := by
    rw [Lib.countB_hit _ _ _ (by decide) hix, show (⟨#[10]⟩ : ByteArray).size = 1 from rfl, line_rest, Nat.add_comm]
  rw [linesOf, hc, Lib.splitB_hit _ _ _ _ _ hix, show (⟨#[10]⟩ : ByteArray).size = 1 from rfl, line_rest, line_first]; rfl
def joinB : List ByteArray → ByteArray
  | [] => ⟨#[]⟩
  | x :: r => x ++ (NL ++ joinB r)
theorem join_snoc (x : ByteArray) : ∀ ls : List ByteArray, joinB (ls ++ [x]) = joinB ls ++ (x ++ NL)
  | [] => by apply bytes_inj; simp only [List.nil_append, joinB, bytes_append]; rfl
  | y :: r => by rw [List.cons_append, joinB, joinB, join_snoc x r, ByteArray.append_assoc, ByteArray.append_assoc]
theorem lines_join : ∀ ls : List ByteArray, (∀ x ∈ ls, (10 : UInt8) ∉ x.data.toList) → linesOf (joinB ls) = ls ++ [⟨#[]⟩]
  | [], _ => by show linesOf ⟨#[]⟩ = _; decide +kernel
  | x :: r, h => by
    rw [joinB, lines_cons _ _ (h x List.mem_cons_self), lines_join r (fun y hy => h y (List.mem_cons_of_mem _ hy))]; rfl
theorem join_size (m : Nat) : ∀ ls : List ByteArray, (∀ x ∈ ls, x.size ≤ m) → (joinB ls).size ≤ (m + 1) * ls.length
  | [], _ => Nat.zero_le _
  | x :: r, h => by
    have h1 := h x List.mem_cons_self
    have h2 := join_size m r (fun y hy => h y (List.mem_cons_of_mem _ hy))
    rw [joinB, line_size, List.length_cons, Nat.mul_add]
    omega
def dg (n : Nat) : ByteArray := (ambrylaw29_digits.f 9 (n : Int)).getD ⟨#[]⟩
theorem dg_f {n : Nat} (h : n < 300) : ambrylaw29_digits.f 9 (n : Int) = some (dg n) :=
  (by decide +kernel : ∀ n : Nat, n < 300 → ambrylaw29_digits.f 9 (n : Int) = some (dg n)) n h
def rA : ByteArray := ⟨#[97, 108, 108, 111, 119, 32, 42, 32, 104]⟩
def rB : ByteArray := ⟨#[32, 47, 42]⟩
def rC (b : Bool) : ByteArray := if b then ⟨#[13]⟩ else ⟨#[]⟩
def rl (b : Bool) (i : Nat) : ByteArray := rA ++ dg i ++ rB ++ rC b
def lg (n : Nat) : ByteArray := ⟨#[108, 111, 103, 32]⟩ ++ dg n
def txtL (b : Bool) (n k : Nat) : List ByteArray := lg n :: (List.range' 0 k).map (rl b)
def txt (b : Bool) (n k : Nat) : ByteArray := joinB (txtL b n k)
theorem txt_zero (b : Bool) (n : Nat) : txt b n 0 = lg n ++ NL := by
  apply bytes_inj
  show bytesOf (lg n ++ (NL ++ ⟨#[]⟩)) = _
  simp only [bytes_append]; rfl
theorem txt_succ (b : Bool) (n k : Nat) : txt b n (k + 1) = txt b n k ++ (rl b k ++ NL) := by
  unfold txt txtL
  rw [List.range'_concat, List.map_append, ← List.cons_append, List.map_singleton, join_snoc, Nat.zero_add, Nat.one_mul]
theorem rl_none : ∀ b i, i < 60 → (10 : UInt8) ∉ (rl b i).data.toList := by decide +kernel
theorem rl_size : ∀ b i, i < 60 → (rl b i).size ≤ 20 := by decide +kernel
theorem lg_none : ∀ n, n < 300 → (10 : UInt8) ∉ (lg n).data.toList := by decide +kernel
theorem lg_size : ∀ n, n < 300 → (lg n).size ≤ 20 := by decide +kernel
theorem rl_trim : ∀ b i, i < 60 → strings_TrimSuffix.f (rl b i) ⟨#[13]⟩ = some (rl false i) := by decide +kernel
theorem lg_trim : ∀ n, n < 300 → strings_TrimSuffix.f (lg n) ⟨#[13]⟩ = some (lg n) := by decide +kernel
def hd (i : Nat) : ByteArray := ⟨#[104]⟩ ++ dg i
theorem rl_wordsL : ∀ i, i < 60 → wordsL [] (bytesOf (rl false i)) = [allowW, ⟨#[42]⟩, hd i, ⟨#[47, 42]⟩].map bytesOf := by decide +kernel
theorem lg_wordsL : ∀ n, n < 300 → wordsL [] (bytesOf (lg n)) = [⟨#[108, 111, 103]⟩, dg n].map bytesOf := by decide +kernel
theorem rl_rule : ∀ i, i < 60 → ruleW [allowW, ⟨#[42]⟩, hd i, ⟨#[47, 42]⟩] = (true, ⟨#[42]⟩, hd i, ⟨#[47, 42]⟩, 0) := by decide +kernel
theorem lg_num : ∀ n, n < 300 → (conf_Number.f 9 (dg n) 200).map Prod.snd = some (decide (n ≤ 200)) ∧ (n ≤ 200 → conf_Number.f 9 (dg n) 200 = some ((n : Int), true)) := by decide +kernel
theorem dg_size : ∀ n : Nat, n < 300 → (dg n).size ≤ 5 := by decide +kernel
theorem txt_in (b : Bool) (n k : Nat) (hn : n < 300) (hk : k < 60) : ∀ x ∈ txtL b n k, (10 : UInt8) ∉ x.data.toList ∧ x.size ≤ 20 := by
  intro x hx
  rcases List.mem_cons.1 hx with rfl | hx
  · exact ⟨lg_none n hn, lg_size n hn⟩
  · obtain ⟨i, hi, rfl⟩ := List.mem_map.1 hx
    have := List.mem_range'_1.1 hi
    exact ⟨rl_none b i (by omega), rl_size b i (by omega)⟩
theorem txt_lines (b : Bool) (n k : Nat) (hn : n < 300) (hk : k < 60) : linesOf (txt b n k) = txtL b n k ++ [⟨#[]⟩] := lines_join _ fun x hx => (txt_in b n k hn hk x hx).1
theorem txt_size (b : Bool) (n k : Nat) (hn : n < 300) (hk : k < 60) : (txt b n k).size ≤ 2000 := by
  have h := join_size 20 (txtL b n k) fun x hx => (txt_in b n k hn hk x hx).2
  have hl : (txtL b n k).length = k + 1 := by simp [txtL]
  rw [hl] at h
  unfold txt
  omega
theorem run_rules (b : Bool) : ∀ (j i : Nat) (c : Cf), i + j < 60 → c.rules.length = i → i ≤ 50 →
    (i + j ≤ 50 → ∃ c', c'.rules.length = i + j ∧ c'.log = c.log ∧ Run ((List.range' i j).map (rl b) ++ [⟨#[]⟩]) (i + 1) c (some c') 0) ∧
    (50 < i + j → Run ((List.range' i j).map (rl b) ++ [⟨#[]⟩]) (i + 1) c none 52)
  | 0, i, c, h60, hc, hi => by
    refine ⟨fun _ => ⟨c, hc, rfl, ?_⟩, fun h => by omega⟩
    exact .good (t := ⟨#[]⟩) trim_0 (good_none _ _ (words_f _ [] (by decide) (by decide))) (.done _ _)
  | j + 1, i, c, h60, hc, hi => by
    have hi6 : i < 60 := by omega
    have hs : (rl false i).size ≤ 1000 := by have := rl_size false i hi6; omega
    have hw := words_is _ _ hs (rl_wordsL i hi6)
    obtain ⟨k, hk⟩ := (parse_acl (rl false i) hs).rounds
    rw [hw, rl_rule i hi6] at hk
    have hwf : acl_Words.f (rl false i) = some (allowW :: [⟨#[42]⟩, hd i, ⟨#[47, 42]⟩]) := by rw [words_acl _ hs, hw]
    rw [List.range'_succ, List.map_cons, List.cons_append]
    rcases Nat.lt_or_ge i 50 with h50 | h50
    · obtain ⟨h1, h2⟩ := run_rules b j (i + 1) { c with rules := c.rules ++ [⟨true, ⟨#[42]⟩, hd i, ⟨#[47, 42]⟩⟩] } (by omega) (by simp [hc]) (by omega)
      have hg := good_rule (rl false i) allowW [⟨#[42]⟩, hd i, ⟨#[47, 42]⟩] c k true ⟨#[42]⟩ (hd i) ⟨#[47, 42]⟩ hwf (by decide) (by decide) rfl hk (by rw [hc]; exact h50)
      refine ⟨fun h => ?_, fun h => ?_⟩
      · obtain ⟨c', e1, e2, e3⟩ := h1 (by omega)
        exact ⟨c', by rw [e1]; omega, e2, .good (rl_trim b i hi6) hg e3⟩
      · exact .good (rl_trim b i hi6) hg (h2 (by omega))
    · have hi5 : i = 50 := by omega
      refine ⟨fun h => by omega, fun h => ?_⟩
      have hb := bad_rule (rl false i) allowW [⟨#[42]⟩, hd i, ⟨#[47, 42]⟩] c k true ⟨#[42]⟩ (hd i) ⟨#[47, 42]⟩ 0 hwf (by decide) (by decide) (by simp) (by simp) hk (.inr (by rw [hc]; exact h50)) (by rw [hc]; omega)
      have := Run.bad (r := (List.range' (i + 1) j).map (rl b) ++ [⟨#[]⟩]) (i := i + 1) (rl_trim b i hi6) hb
      rw [show i + 1 + 1 = 52 by omega] at this
      exact this
theorem txt_run (b : Bool) (n k : Nat) (hn : n < 300) (hk : k < 60) :
    (200 < n → Run (linesOf (txt b n k)) 0 cfD none 1) ∧ (n ≤ 200 → 50 < k → Run (linesOf (txt b n k)) 0 cfD none 52) ∧ (n ≤ 200 → k ≤ 50 → ∃ c', c'.rules.length = k ∧ c'.log = (n : Int) ∧ Run (linesOf (txt b n k)) 0 cfD (some c') 0) := by
  have hs : (lg n).size ≤ 1000 := by have := lg_size n hn; omega
  have hw := words_f _ _ hs (lg_wordsL n hn)
  have ht := lg_trim n hn
  obtain ⟨h1, h2⟩ := lg_num n hn
  rw [txt_lines b n k hn hk]
  show (200 < n → Run (lg n :: ((List.range' 0 k).map (rl b) ++ [⟨#[]⟩])) 0 cfD none 1) ∧ (n ≤ 200 → 50 < k → Run (lg n :: ((List.range' 0 k).map (rl b) ++ [⟨#[]⟩])) 0 cfD none 52) ∧ (n ≤ 200 → k ≤ 50 → ∃ c', c'.rules.length = k ∧ c'.log = (n : Int) ∧ Run (lg n :: ((List.range' 0 k).map (rl b) ++ [⟨#[]⟩])) 0 cfD (some c') 0)
  obtain ⟨r1, r2⟩ := run_rules b k 0 { cfD with log := n } (by omega) rfl (by omega)
  have hg : n ≤ 200 → Good (lg n) cfD { cfD with log := n } := fun hle p q w F h => (log_any _ (dg n) _ 9 n true hw (h2 hle) p q w F h).mono fun e w' h => by rw [if_pos rfl] at h; exact h
  refine ⟨fun h => ?_, fun h hk5 => .good ht (hg h) (r2 (by omega)), fun h hk5 => ?_⟩
  · rw [decide_eq_false (by omega : ¬ n ≤ 200)] at h1
    cases hN : conf_Number.f 9 (dg n) 200 with
    | none => rw [hN] at h1; simp at h1
    | some x =>
      obtain ⟨m, ok⟩ := x
      rw [hN] at h1
      have hok : ok = false := by simpa using h1
      subst hok
      exact .bad ht fun p q w F h => (log_any _ (dg n) _ 9 m false hw hN p q w F h).mono fun e w' h => by rw [if_neg (by decide)] at h; exact h
  · obtain ⟨c', e1, e2, e3⟩ := r1 (by omega)
    exact ⟨c', by omega, e2, .good ht (hg h) e3⟩
end Go.Proofs.YtlpfineihjefcaaDoor.Conf
