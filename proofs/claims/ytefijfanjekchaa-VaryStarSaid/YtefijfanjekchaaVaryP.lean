/- The names that count, values as they count, requests held against one another: what the program and the document tell, in plain words. -/
import Derived.Test.YtefijfanjekchaaGx0
import Derived.Test.YtefijfanjekchaaGx2
import Derived.Test.YtefijfanjekchaaGx3
import Derived.Test.YtefijfanjekchaaGx5
import Derived.Test.YtefijfanjekchaaGx6
import Derived.Test.YtefijfanjekchaaHeadParts
import Derived.Test.YtefijfanjekchaaVaryL
set_option linter.unusedVariables false
set_option linter.unusedSimpArgs false
namespace Go.Proofs.Ytefijfanjekchaa.Plain
open Go.RowKit Go.Proofs.Ytefijfanjekchaa.G Go.Proofs.YtefijfanjekchaaW.PrintWords

def tl (s : ByteArray) : W8 := s.data.toList
theorem tl_inj {a b : ByteArray} (h : tl a = tl b) : a = b := by
  cases a; cases b
  exact congrArg ByteArray.mk (Array.toList_inj.1 h)
theorem tl_eq (s : ByteArray) : s.toList = tl s := ByteArray.toList_eq s
theorem map_tl_inj : ∀ a b : List ByteArray, a.map tl = b.map tl → a = b
  | [], [], _ => rfl
  | [], _ :: _, h => by simp at h
  | _ :: _, [], h => by simp at h
  | x :: a, y :: b, h => by
    rw [List.map_cons, List.map_cons, List.cons.injEq] at h
    rw [tl_inj h.1, map_tl_inj a b h.2]
def starB (s : ByteArray) : Bool := s.toList == ([42] : List UInt8)
def namesP (L : List ByteArray) : List ByteArray × Bool := if L.any starB = true then ([], true) else ((Lib.compact (Srt.inOrder ((L.map lowB).map tl))).map (fun x => ⟨x.toArray⟩), false)
def varyN : ByteArray := ⟨#[86, 97, 114, 121]⟩
def Lt (n : Nat) (l : List S38) : Prop := l.length ≤ n ∧ ∀ x ∈ l, x.f0.size ≤ 300 ∧ x.f1.size ≤ 300
theorem Lt.small {n : Nat} {l : List S38} (h : Lt n l) (hn : n ≤ 1000000) : Small l := ⟨Nat.le_trans h.1 hn, fun x hx => by have := h.2 x hx; omega⟩
theorem parts_sizes (C : Nat) (vs : List ByteArray) (hv : ∀ v ∈ vs, v.size ≤ C) : ∀ s ∈ partsL vs, s.size ≤ C := by
  intro s hs
  obtain ⟨v, hv1, hs⟩ := List.mem_flatMap.1 hs
  obtain ⟨hs, _⟩ := List.mem_filter.1 hs
  obtain ⟨x, hx, rfl⟩ := List.mem_map.1 hs
  have h1 := cuts_size v v.size 0 false 0 (by omega) x hx
  have h2 := trim_size x
  have h3 := hv v hv1
  omega
theorem list_bound {n : Nat} {l : List S38} (h : Lt n l) (hn : n ≤ 20) (m : ByteArray) : (listL l m).length ≤ 6020 ∧ ∀ s ∈ listL l m, s.size ≤ 300 := by
  have hv : ∀ v ∈ allL l m, v.size ≤ 300 := by
    intro v hv
    obtain ⟨x, hx, rfl⟩ := List.mem_map.1 hv
    exact (h.2 x (List.mem_filter.1 hx).1).2
  have hl : (allL l m).length ≤ 20 := by
    unfold allL
    rw [List.length_map]
    exact Nat.le_trans (List.length_filter_le _ _) (Nat.le_trans h.1 hn)
  refine ⟨?_, parts_sizes 300 _ hv⟩
  have h1 := parts_length 301 (allL l m) (fun v hv1 => by have := hv v hv1; omega)
  show (partsL (allL l m)).length ≤ _
  have h2 : (allL l m).length * 301 ≤ 20 * 301 := Nat.mul_le_mul_right 301 hl
  omega
theorem names_vary {n : Nat} {l : List S38} (h : Lt n l) (hn : n ≤ 20) (a : Int) (b : ByteArray) (c : List Int) : Ev (fun k => vary_Names.f k a b l c) (namesP (listL l varyN)) := by
  obtain ⟨h1, h2⟩ := list_bound h hn varyN
  refine Ev.congr (fun k => vary_Names.f.eq_1 k a b l c) (ev_bind (list_head l varyN (h.small (by omega))) (ev_pos ⟨by omega, fun s hs => by have := h2 s hs; omega⟩ (Ev.now _)))
theorem ins_map (n : ByteArray) : ∀ l : List ByteArray, (ambryref13_Names.ins n l).map tl = insL (tl n) (l.map tl)
  | [] => rfl
  | x :: r => by
    rw [ambryref13_Names.ins, List.map_cons, insL, tl_eq, tl_eq, bytesLess_eq]
    by_cases h1 : tl x < tl n
    · rw [if_pos (decide_eq_true h1), if_pos h1, List.map_cons, ins_map n r]
    · rw [if_neg (by rw [decide_eq_false h1]; decide), if_neg h1]
      by_cases h2 : tl x = tl n
      · rw [if_pos h2, if_pos h2, List.map_cons]
      · rw [if_neg h2, if_neg h2, List.map_cons, List.map_cons]
theorem fold_map : ∀ (L acc : List ByteArray), (L.foldl (fun out s => ambryref13_Names.ins (lowB s) out) acc).map tl = ((L.map lowB).map tl).foldl (fun o n => insL n o) (acc.map tl)
  | [], acc => rfl
  | s :: L, acc => by
    rw [List.foldl_cons, fold_map L, ins_map, List.map_cons, List.map_cons, List.foldl_cons]
theorem back_tl (l : List W8) : (l.map fun x => (⟨x.toArray⟩ : ByteArray)).map tl = l := by
  rw [List.map_map]
  conv => rhs; rw [← List.map_id l]
  exact List.map_congr_left fun x _ => rfl
theorem names_tell (L : List ByteArray) : ambryref13_Names.tell L = namesP L := by
  unfold ambryref13_Names.tell namesP
  by_cases h : L.any starB = true
  · rw [if_pos h]; exact if_pos h
  · rw [if_neg h]
    refine (if_neg h).trans ?_
    refine congrArg (fun x => (x, false)) (map_tl_inj _ _ ?_)
    rw [back_tl, sorted_ins]
    exact fold_map L []
theorem names_ref {n : Nat} {l : List S38} (h : Lt n l) (hn : n ≤ 20) (a : Int) (b : ByteArray) (c : List Int) : Ev (fun k => ambryref13_Names.f k a b l c) (namesP (listL l varyN)) := by
  obtain ⟨h1, h2⟩ := list_bound h hn varyN
  refine Ev.congr (fun k => ambryref13_Names.f.eq_1 k a b l c) (ev_bind (list_ref l varyN (h.small (by omega)) (by decide)) (ev_pos ⟨by omega, fun s hs => by have := h2 s hs; omega⟩ (ev_ret (names_tell _))))
/-! Values as they count -/
def joinL (vs : List ByteArray) : W8 := strings_Join.text [44, 32] vs
def normL (l : List S38) (n : ByteArray) : ByteArray × Bool := (⟨(vary_plain.go false (joinL (allL l n))).toArray⟩, decide (((allL l n).length : Int) > 0))
theorem tl_length (s : ByteArray) : (tl s).length = s.size := data_length s
theorem flat_len (M : Nat) : ∀ vs : List ByteArray, (∀ v ∈ vs, v.size ≤ M) → (vs.flatMap fun y => ([44, 32] : W8) ++ y.data.toList).length ≤ vs.length * (M + 2)
  | [], _ => by simp
  | x :: r, h => by
    have h1 := flat_len M r (fun v hv => h v (List.mem_cons_of_mem _ hv))
    have h2 := h x List.mem_cons_self
    have h3 := tl_length x
    unfold tl at h3
    have e : (x :: r).length * (M + 2) = r.length * (M + 2) + (M + 2) := by rw [List.length_cons, Nat.succ_mul]
    have e2 : ([44, 32] : W8).length = 2 := rfl
    rw [e, List.flatMap_cons, List.length_append, List.length_append, h3, e2]
    omega
theorem join_len (M : Nat) (vs : List ByteArray) (h : ∀ v ∈ vs, v.size ≤ M) : (joinL vs).length ≤ vs.length * (M + 2) := by
  cases vs with
  | nil => simp [joinL, strings_Join.text]
  | cons x r =>
    have h1 := flat_len M r (fun v hv => h v (List.mem_cons_of_mem _ hv))
    have h2 := h x List.mem_cons_self
    have h3 := tl_length x
    unfold tl at h3
    have e : (x :: r).length * (M + 2) = r.length * (M + 2) + (M + 2) := by rw [List.length_cons, Nat.succ_mul]
    show (x.data.toList ++ r.flatMap (fun y => ([44, 32] : W8) ++ y.data.toList)).length ≤ _
    rw [e, List.length_append, h3]
    omega
theorem join_small {l : List S38} (hl : Small l) (n : ByteArray) : (joinL (allL l n)).length ≤ 1000002000000 := by
  obtain ⟨h1, h2⟩ := all_small l n hl
  have h3 := join_len 1000000 _ h2
  have h4 : (allL l n).length * (1000000 + 2) ≤ 1000000 * (1000000 + 2) := Nat.mul_le_mul_right _ h1
  omega
theorem norm_vary (l : List S38) (n : ByteArray) (hl : Small l) : Ev (fun k => vary_Normal.f k l n) (normL l n) := by
  have h1 := (all_small l n hl).1
  have h2 := join_small hl n
  have hj : strings_Join.f (allL l n) (⟨#[44, 32]⟩ : ByteArray) = some ⟨(joinL (allL l n)).toArray⟩ := if_pos ⟨h1, by decide, by decide, by show (joinL _).length ≤ _; omega⟩
  have hp : vary_plain.f ⟨(joinL (allL l n)).toArray⟩ = some ⟨(vary_plain.go false (joinL (allL l n))).toArray⟩ := if_pos (by show (joinL (allL l n)).toArray.size ≤ _; rw [List.size_toArray]; omega)
  exact Ev.congr (fun k => vary_Normal.f.eq_1 k l n) (ev_bind (all_head l n hl) (ev_some hj (ev_some hp (Ev.now _))))
def goI : Bool → List Int → List Int
  | _, [] => []
  | run, c :: r => if c = 32 ∨ c = 9 then (if run = true then goI true r else 32 :: goI true r) else c :: goI false r
def n8 (b : UInt8) : Int := (b.toNat : Int)
theorem go_int : ∀ (l : W8) (run : Bool), goI run (l.map n8) = (vary_plain.go run l).map n8
  | [], run => by cases run <;> rfl
  | c :: l, run => by
    have hc : (n8 c = 32 ∨ n8 c = 9) ↔ (c = 32 ∨ c = 9) := by
      unfold n8
      constructor
      · rintro (h | h)
        · exact .inl (UInt8.toNat_inj.1 (by show c.toNat = 32; omega))
        · exact .inr (UInt8.toNat_inj.1 (by show c.toNat = 9; omega))
      · rintro (rfl | rfl)
        · exact .inl rfl
        · exact .inr rfl
    rw [List.map_cons, goI, vary_plain.go]
    by_cases h : c = 32 ∨ c = 9
    · rw [if_pos (hc.2 h), if_pos h]
      cases run with
      | true => rw [if_pos rfl, if_pos rfl, go_int l true]
      | false => rw [if_neg (by decide), if_neg (by decide), List.map_cons, go_int l true]; rfl
    · rw [if_neg (fun x => h (hc.1 x)), if_neg h, List.map_cons, go_int l false]
theorem nums_back (l : W8) : strOfNums (l.map n8) = ⟨l.toArray⟩ := by
  apply tl_inj
  show (strOfNums (l.map n8)).data.toList = l
  rw [strOfNums_data, List.map_map]
  conv => rhs; rw [← List.map_id l]
  refine List.map_congr_left fun b _ => ?_
  show UInt8.ofNat (n8 b).toNat = b
  unfold n8
  rw [Int.toNat_natCast]
  exact UInt8.ofNat_toNat
theorem ref_l1 (vs : List ByteArray) (s : ByteArray) (hs : s.size ≤ 4611686018427387) : ∀ (d i : Nat) (out : List Int) (run : Bool), s.size - i = d → i ≤ s.size → out.length ≤ i → s.size ≤ 140737488355327 → Ev (fun k => ambryref13_Normal.l1 k vs s out run (i : Int)) (strOfNums (out ++ goI run ((bytesOf s).drop i)), decide ((vs.length : Int) > 0)) := by
  have hz := size_bytes s
  intro d
  induction d with
  | zero =>
    intro i out run hd hi ho hm
    refine Ev.step (fun k => ambryref13_Normal.l1.eq_2 vs s out run (i : Int) k) (ev_neg (by omega) (ev_ret ?_))
    rw [List.drop_eq_nil_of_le (by omega)]
    cases run <;> simp [goI]
  | succ d ih =>
    intro i out run hd hi ho hm
    have hlt : i < (bytesOf s).length := by omega
    refine Ev.step (fun k => ambryref13_Normal.l1.eq_2 vs s out run (i : Int) k) (ev_pos (by omega) (ev_pos (by omega) ?_))
    rw [drop_cons (bytesOf s) 0 hlt, bt_nat, goI]
    generalize (bytesOf s).getD i 0 = c
    have hj : ∀ (b : Bool) (r : ByteArray × Bool), Ev (fun k => if b = true then (if run = true then ambryref13_Normal.l1 k vs s out true ((i + 1 : Nat) : Int) else (if out.length < 140737488355328 then ambryref13_Normal.l1 k vs s (out ++ [32]) true ((i + 1 : Nat) : Int) else none)) else (if out.length < 140737488355328 then ambryref13_Normal.l1 k vs s (out ++ [c]) false ((i + 1 : Nat) : Int) else none)) r → Ev (fun k => ambryref13_Normal.j2 k vs s out run (i : Int) c b) r := by
      intro b r h
      refine Ev.step (fun k => ambryref13_Normal.j2.eq_2 vs s out run (i : Int) c b k) ?_
      rw [wrap_succ (by omega)]
      exact h
    by_cases h : c = 32 ∨ c = 9
    · rw [if_pos h]
      have hb : Ev (fun k => ambryref13_Normal.j2 k vs s out run (i : Int) c true) (strOfNums (out ++ (if run = true then goI true ((bytesOf s).drop (i + 1)) else 32 :: goI true ((bytesOf s).drop (i + 1)))), decide ((vs.length : Int) > 0)) := by
        refine hj true _ (ev_pos rfl ?_)
        cases run with
        | true =>
          refine ev_pos rfl (ev_eq (ih (i + 1) out true (by omega) (by omega) (by omega) hm) ?_)
          rw [if_pos rfl]
        | false =>
          refine ev_neg (by decide) (ev_pos (by omega) (ev_eq (ih (i + 1) (out ++ [32]) true (by omega) (by omega) (by rw [List.length_append, List.length_singleton]; omega) hm) ?_))
          rw [if_neg (by decide), List.append_assoc, List.singleton_append]
      by_cases h32 : c = 32
      · exact ev_pos h32 hb
      · refine ev_neg h32 ?_
        have h9 : c = 9 := h.resolve_left h32
        rw [show (c == 9) = true from beq_iff_eq.mpr h9]
        exact hb
    · rw [if_neg h]
      refine ev_neg (fun e => h (.inl e)) ?_
      rw [show (c == 9) = false from beq_false_of_ne fun e => h (.inr e)]
      refine hj false _ (ev_neg (by decide) (ev_pos (by omega) (ev_eq (ih (i + 1) (out ++ [c]) false (by omega) (by omega) (by rw [List.length_append, List.length_singleton]; omega) hm) ?_)))
      rw [List.append_assoc, List.singleton_append]
theorem ref_plain (vs : List ByteArray) (l : W8) (hm : l.length ≤ 140737488355327) : Ev (fun k => ambryref13_Normal.l1 k vs ⟨l.toArray⟩ ([] : List Int) false 0) (⟨(vary_plain.go false l).toArray⟩, decide ((vs.length : Int) > 0)) := by
  have hsz : (⟨l.toArray⟩ : ByteArray).size = l.length := by show l.toArray.size = _; rw [List.size_toArray]
  refine ev_eq (ref_l1 vs ⟨l.toArray⟩ (by omega) _ 0 [] false rfl (by omega) (by simp) (by omega)) ?_
  rw [List.nil_append, List.drop_zero]
  have : bytesOf ⟨l.toArray⟩ = l.map n8 := rfl
  rw [this, go_int, nums_back]
theorem cat_data (a b : W8) (s : ByteArray) : ((⟨a.toArray⟩ : ByteArray) ++ (⟨b.toArray⟩ : ByteArray)) ++ s = ⟨(a ++ b ++ s.data.toList).toArray⟩ := by
  apply tl_inj
  unfold tl
  simp [ByteArray.data_append]
theorem cat_one (a : W8) (s : ByteArray) : (⟨a.toArray⟩ : ByteArray) ++ s = ⟨(a ++ s.data.toList).toArray⟩ := by
  apply tl_inj
  unfold tl
  simp [ByteArray.data_append]
theorem ref_join (vs : List ByteArray) (hm : (joinL vs).length ≤ 140737488355327) (hl : vs.length ≤ 1000000) : ∀ (d i : Nat), vs.length - i = d → i ≤ vs.length → Ev (fun k => ambryref13_Normal.l0 k vs ⟨(joinL (vs.take i)).toArray⟩ (i : Int)) (⟨(vary_plain.go false (joinL vs)).toArray⟩, decide ((vs.length : Int) > 0)) := by
  have sz : ∀ l : W8, (⟨l.toArray⟩ : ByteArray).size = l.length := fun l => by show l.toArray.size = _; rw [List.size_toArray]
  intro d
  induction d with
  | zero =>
    intro i hd hi
    have : i = vs.length := by omega
    subst this
    rw [List.take_length]
    exact Ev.step (fun k => ambryref13_Normal.l0.eq_2 vs _ _ k) (ev_neg (by omega) (ref_plain vs (joinL vs) hm))
  | succ d ih =>
    intro i hd hi
    have hlt : i < vs.length := by omega
    have hrec := ih (i + 1) (by omega) (by omega)
    refine Ev.step (fun k => ambryref13_Normal.l0.eq_2 vs _ _ k) (ev_pos (by omega) ?_)
    rcases Nat.eq_zero_or_pos i with h0 | h0
    · subst h0
      have he : joinL (vs.take (0 + 1)) = (rdOf ByteArray.empty vs (0 : Nat)).data.toList := by
        cases vs with
        | nil => simp at hlt
        | cons x r => show x.data.toList ++ [] = _; rw [List.append_nil]; rfl
      have hsz : (rdOf ByteArray.empty vs (0 : Nat)).size ≤ 140737488355327 := by
        have h1 : (joinL vs).length = (joinL (vs.take 1)).length + ((vs.drop 1).flatMap fun y => ([44, 32] : W8) ++ y.data.toList).length := by
          cases vs with
          | nil => simp at hlt
          | cons x r => show (x.data.toList ++ _).length = (x.data.toList ++ []).length + _; rw [List.length_append, List.append_nil]; rfl
        have h2 := tl_length (rdOf ByteArray.empty vs (0 : Nat))
        unfold tl at h2
        rw [he, h2] at h1
        omega
      refine ev_neg (by omega) (ev_pos (by omega) (ev_pos ?_ ?_))
      · have : (⟨(joinL (vs.take 0)).toArray⟩ : ByteArray).size = 0 := by rw [sz]; rfl
        omega
      · rw [cat_one, wrap_succ (by omega)]
        have e0 : joinL (vs.take 0) = [] := rfl
        rw [e0, List.nil_append]
        rw [he] at hrec
        exact hrec
    · obtain ⟨e1, e2⟩ := strings_Join.text_next [44, 32] vs i h0 hlt
      have e1 : joinL (vs.take (i + 1)) = joinL (vs.take i) ++ [44, 32] ++ (rdOf ByteArray.empty vs (i : Int)).data.toList := e1
      have e2 : (joinL (vs.take (i + 1))).length ≤ (joinL vs).length := e2
      have h2 := tl_length (rdOf ByteArray.empty vs (i : Int))
      unfold tl at h2
      have e3 := e2
      rw [e1, List.length_append, List.length_append, h2] at e3
      have e4 : ([44, 32] : W8).length = 2 := rfl
      have e5 : ((⟨(joinL (vs.take i)).toArray⟩ : ByteArray) ++ (⟨#[44, 32]⟩ : ByteArray)).size = (joinL (vs.take i)).length + 2 := by rw [size_append, sz]; rfl
      refine ev_pos (by omega) (ev_pos (by rw [sz]; omega) (ev_pos (by omega) (ev_pos (by rw [e5]; omega) ?_)))
      rw [show (⟨#[44, 32]⟩ : ByteArray) = ⟨([44, 32] : W8).toArray⟩ from rfl, cat_data, wrap_succ (by omega), ← e1]
      exact hrec
theorem norm_ref (l : List S38) (n : ByteArray) (hl : Small l) (hn : n.size ≤ 140737488355328) : Ev (fun k => ambryref13_Normal.f k l n) (normL l n) := by
  have h1 := (all_small l n hl).1
  have h2 := join_small hl n
  refine Ev.congr (fun k => ambryref13_Normal.f.eq_1 k l n) (ev_bind (all_ref l n hl hn) ?_)
  exact ref_join (allL l n) (by omega) h1 _ 0 rfl (Nat.zero_le _)
end Go.Proofs.Ytefijfanjekchaa.Plain
