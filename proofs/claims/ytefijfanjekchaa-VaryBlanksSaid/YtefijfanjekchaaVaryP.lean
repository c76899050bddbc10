/- The names that count, values as they count, requests held against one another: what the program and the document tell, in plain words. -/
import Derived.Test.YtefijfanjekchaaGx0
import Derived.Test.YtefijfanjekchaaGx2
import Derived.Test.YtefijfanjekchaaGx3
import Derived.Test.YtefijfanjekchaaHeadParts
import Derived.Test.YtefijfanjekchaaVaryL
set_option linter.unusedVariables false
set_option linter.unusedSimpArgs false
namespace Go.Proofs.Ytefijfanjekchaa.Plain
open Go.RowKit Go.Proofs.Ytefijfanjekchaa.G Go.Proofs.YtefijfanjekchaaW.PrintWords

def tl (s : ByteArray) : W8 := s.data.toList
theorem tl_inj {a b : ByteArray} (h : tl a = tl b) : a = b := by
  cases a; cases b
  exact congrArg ByteArray.mk (Array.toList_inj.1 h)
theorem tl_eq (s : ByteArray) : s.toList = tl s := ByteArray.toList_eq s
theorem map_tl_inj : ∀ a b : List ByteArray, a.map tl = b.map tl → a = b
  | [], [], _ => rfl
  | [], _ :: _, h => by simp at h
  | _ :: _, [], h => by simp at h
  | x :: a, y :: b, h => by
    rw [List.map_cons, List.map_cons, List.cons.injEq] at h
    rw [tl_inj h.1, map_tl_inj a b h.2]
def starB (s : ByteArray) : Bool := s.toList == ([42] : List UInt8)
def namesP (L : List ByteArray) : List ByteArray × Bool := if L.any starB = true then ([], true) else ((Lib.compact (Srt.inOrder ((L.map lowB).map tl))).map (fun x => ⟨x.toArray⟩), false)
def varyN : ByteArray := ⟨#[86, 97, 114, 121]⟩
def Lt (n : Nat) (l : List S38) : Prop := l.length ≤ n ∧ ∀ x ∈ l, x.f0.size ≤ 300 ∧ x.f1.size ≤ 300
theorem Lt.small {n : Nat} {l : List S38} (h : Lt n l) (hn : n ≤ 1000000) : Small l := ⟨Nat.le_trans h.1 hn, fun x hx => by have := h.2 x hx; omega⟩
theorem parts_sizes (C : Nat) (vs : List ByteArray) (hv : ∀ v ∈ vs, v.size ≤ C) : ∀ s ∈ partsL vs, s.size ≤ C := by
  intro s hs
  obtain ⟨v, hv1, hs⟩ := List.mem_flatMap.1 hs
  obtain ⟨hs, _⟩ := List.mem_filter.1 hs
  obtain ⟨x, hx, rfl⟩ := List.mem_map.1 hs
  have h1 := cuts_size v v.size 0 false 0 (by omega) x hx
  have h2 := trim_size x
  have h3 := hv v hv1
  omega
theorem list_bound {n : Nat} {l : List S38} (h : Lt n l) (hn : n ≤ 20) (m : ByteArray) : (listL l m).length ≤ 6020 ∧ ∀ s ∈ listL l m, s.size ≤ 300 := by
  have hv : ∀ v ∈ allL l m, v.size ≤ 300 := by
    intro v hv
    obtain ⟨x, hx, rfl⟩ := List.mem_map.1 hv
    exact (h.2 x (List.mem_filter.1 hx).1).2
  have hl : (allL l m).length ≤ 20 := by
    unfold allL
    rw [List.length_map]
    exact Nat.le_trans (List.length_filter_le _ _) (Nat.le_trans h.1 hn)
  refine ⟨?_, parts_sizes 300 _ hv⟩
  have h1 := parts_length 301 (allL l m) (fun v hv1 => by have := hv v hv1; omega)
  show (partsL (allL l m)).length ≤ _
  have h2 : (allL l m).length * 301 ≤ 20 * 301 := Nat.mul_le_mul_right 301 hl
  omega
theorem names_vary {n : Nat} {l : List S38} (h : Lt n l) (hn : n ≤ 20) (a : Int) (b : ByteArray) (c : List Int) : Ev (fun k => vary_Names.f k a b l c) (namesP (listL l varyN)) := by
  obtain ⟨h1, h2⟩ := list_bound h hn varyN
  refine Ev.congr (fun k => vary_Names.f.eq_1 k a b l c) (ev_bind (list_head l varyN (h.small (by omega))) (ev_pos ⟨by omega, fun s hs => by have := h2 s hs; omega⟩ (Ev.now _)))
theorem back_tl (l : List W8) : (l.map fun x => (⟨x.toArray⟩ : ByteArray)).map tl = l := by
  rw [List.map_map]
  conv => rhs; rw [← List.map_id l]
  exact List.map_congr_left fun x _ => rfl
/-! Values as they count -/
def joinL (vs : List ByteArray) : W8 := strings_Join.text [44, 32] vs
def normL (l : List S38) (n : ByteArray) : ByteArray × Bool := (⟨(vary_plain.go false (joinL (allL l n))).toArray⟩, decide (((allL l n).length : Int) > 0))
theorem tl_length (s : ByteArray) : (tl s).length = s.size := data_length s
theorem flat_len (M : Nat) : ∀ vs : List ByteArray, (∀ v ∈ vs, v.size ≤ M) → (vs.flatMap fun y => ([44, 32] : W8) ++ y.data.toList).length ≤ vs.length * (M + 2)
  | [], _ => by simp
  | x :: r, h => by
    have h1 := flat_len M r (fun v hv => h v (List.mem_cons_of_mem _ hv))
    have h2 := h x List.mem_cons_self
    have h3 := tl_length x
    unfold tl at h3
    have e : (x :: r).length * (M + 2) = r.length * (M + 2) + (M + 2) := by rw [List.length_cons, Nat.succ_mul]
    have e2 : ([44, 32] : W8).length = 2 := rfl
    rw [e, List.flatMap_cons, List.length_append, List.length_append, h3, e2]
    omega
theorem join_len (M : Nat) (vs : List ByteArray) (h : ∀ v ∈ vs, v.size ≤ M) : (joinL vs).length ≤ vs.length * (M + 2) := by
  cases vs with
  | nil => simp [joinL, strings_Join.text]
  | cons x r =>
    have h1 := flat_len M r (fun v hv => h v (List.mem_cons_of_mem _ hv))
    have h2 := h x List.mem_cons_self
    have h3 := tl_length x
    unfold tl at h3
    have e : (x :: r).length * (M + 2) = r.length * (M + 2) + (M + 2) := by rw [List.length_cons, Nat.succ_mul]
    show (x.data.toList ++ r.flatMap (fun y => ([44, 32] : W8) ++ y.data.toList)).length ≤ _
    rw [e, List.length_append, h3]
    omega
theorem join_small {l : List S38} (hl : Small l) (n : ByteArray) : (joinL (allL l n)).length ≤ 1000002000000 := by
  obtain ⟨h1, h2⟩ := all_small l n hl
  have h3 := join_len 1000000 _ h2
  have h4 : (allL l n).length * (1000000 + 2) ≤ 1000000 * (1000000 + 2) := Nat.mul_le_mul_right _ h1
  omega
theorem norm_vary (l : List S38) (n : ByteArray) (hl : Small l) : Ev (fun k => vary_Normal.f k l n) (normL l n) := by
  have h1 := (all_small l n hl).1
  have h2 := join_small hl n
  have hj : strings_Join.f (allL l n) (⟨#[44, 32]⟩ : ByteArray) = some ⟨(joinL (allL l n)).toArray⟩ := if_pos ⟨h1, by decide, by decide, by show (joinL _).length ≤ _; omega⟩
  have hp : vary_plain.f ⟨(joinL (allL l n)).toArray⟩ = some ⟨(vary_plain.go false (joinL (allL l n))).toArray⟩ := if_pos (by show (joinL (allL l n)).toArray.size ≤ _; rw [List.size_toArray]; omega)
  exact Ev.congr (fun k => vary_Normal.f.eq_1 k l n) (ev_bind (all_head l n hl) (ev_some hj (ev_some hp (Ev.now _))))
def goI : Bool → List Int → List Int
  | _, [] => []
  | run, c :: r => if c = 32 ∨ c = 9 then (if run = true then goI true r else 32 :: goI true r) else c :: goI false r
def n8 (b : UInt8) : Int := (b.toNat : Int)
theorem go_int : ∀ (l : W8) (run : Bool), goI run (l.map n8) = (vary_plain.go run l).map n8
  | [], run => by cases run <;> rfl
  | c :: l, run => by
    have hc : (n8 c = 32 ∨ n8 c = 9) ↔ (c = 32 ∨ c = 9) := by
      unfold n8
      constructor
      · rintro (h | h)
        · exact .inl (UInt8.toNat_inj.1 (by show c.toNat = 32; omega))
        · exact .inr (UInt8.toNat_inj.1 (by show c.toNat = 9; omega))
      · rintro (rfl | rfl)
        · exact .inl rfl
        · exact .inr rfl
    rw [List.map_cons, goI, vary_plain.go]
    by_cases h : c = 32 ∨ c = 9
    · rw [if_pos (hc.2 h), if_pos h]
      cases run with
      | true => rw [if_pos rfl, if_pos rfl, go_int l true]
      | false => rw [if_neg (by decide), if_neg (by decide), List.map_cons, go_int l true]; rfl
    · rw [if_neg (fun x => h (hc.1 x)), if_neg h, List.map_cons, go_int l false]
theorem nums_back (l : W8) : strOfNums (l.map n8) = ⟨l.toArray⟩ := by
  apply tl_inj
  show (strOfNums (l.map n8)).data.toList = l
  rw [strOfNums_data, List.map_map]
  conv => rhs; rw [← List.map_id l]
  refine List.map_congr_left fun b _ => ?_
  show UInt8.ofNat (n8 b).toNat = b
  unfold n8
  rw [Int.toNat_natCast]
  exact UInt8.ofNat_toNat
theorem cat_data (a b : W8) (s : ByteArray) : ((⟨a.toArray⟩ : ByteArray) ++ (⟨b.toArray⟩ : ByteArray)) ++ s = ⟨(a ++ b ++ s.data.toList).toArray⟩ := by
  apply tl_inj
  unfold tl
  simp [ByteArray.data_append]
theorem cat_one (a : W8) (s : ByteArray) : (⟨a.toArray⟩ : ByteArray) ++ s = ⟨(a ++ s.data.toList).toArray⟩ := by
  apply tl_inj
  unfold tl
  simp [ByteArray.data_append]
end Go.Proofs.Ytefijfanjekchaa.Plain
