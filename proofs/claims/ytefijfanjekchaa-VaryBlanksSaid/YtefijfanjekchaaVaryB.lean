/- Blanks ahead of blanks say nothing; how values are spread over fields says nothing. -/
import Derived.Test.YtefijfanjekchaaGx0
import Derived.Test.YtefijfanjekchaaGx2
import Derived.Test.YtefijfanjekchaaGx3
import Derived.Test.YtefijfanjekchaaVaryM
set_option linter.unusedVariables false
set_option linter.unusedSimpArgs false
namespace Go.Proofs.Ytefijfanjekchaa.Plain
open Go.RowKit Go.Proofs.Ytefijfanjekchaa.G Go.Proofs.YtefijfanjekchaaW.PrintWords
/-- Two texts that read alike, whatever stands behind them. -/
def Eq2 (s v : W8) : Prop := ∀ (r : Bool) (z : W8), vary_plain.go r (s ++ z) = vary_plain.go r (v ++ z)
theorem Eq2.refl (s : W8) : Eq2 s s := fun _ _ => rfl
theorem go_cong {y z : W8} (h : ∀ r, vary_plain.go r y = vary_plain.go r z) : ∀ (x : W8) (r : Bool), vary_plain.go r (x ++ y) = vary_plain.go r (x ++ z)
  | [], r => h r
  | c :: x, r => by
    rw [List.cons_append, List.cons_append, vary_plain.go, vary_plain.go, go_cong h x true, go_cong h x false]
theorem Eq2.app {s v s' v' : W8} (h : Eq2 s v) (h' : Eq2 s' v') : Eq2 (s ++ s') (v ++ v') := by
  intro r z
  rw [List.append_assoc, List.append_assoc, h r (s' ++ z)]
  exact go_cong (fun r => h' r z) v r
theorem go_blanks (c : UInt8) (hc : c = 32 ∨ c = 9) (z : W8) (r : Bool) : vary_plain.go r ([32, 9] ++ ([c] ++ z)) = vary_plain.go r ([c] ++ z) := by
  have h32 : (32 : UInt8) = 32 ∨ (32 : UInt8) = 9 := .inl rfl
  have h9 : (9 : UInt8) = 32 ∨ (9 : UInt8) = 9 := .inr rfl
  show vary_plain.go r (32 :: 9 :: c :: z) = vary_plain.go r (c :: z)
  cases r with
  | true => rw [vary_plain.go, if_pos h32, if_pos rfl, vary_plain.go, if_pos h9, if_pos rfl]
  | false =>
    rw [vary_plain.go, if_pos h32, if_neg (by decide), vary_plain.go, if_pos h9, if_pos rfl, vary_plain.go, if_pos hc, if_pos rfl]
    rw [vary_plain.go, if_pos hc, if_neg (by decide)]
theorem Eq2.snoc {s v : W8} (h : Eq2 s v) (c : UInt8) : Eq2 (s ++ [c]) (v ++ [c]) := h.app (Eq2.refl _)
theorem Eq2.more {s v : W8} (h : Eq2 s v) (c : UInt8) (hc : c = 32 ∨ c = 9) : Eq2 (s ++ [32, 9] ++ [c]) (v ++ [c]) := by
  rw [List.append_assoc]
  refine h.app (fun r z => ?_)
  rw [List.append_assoc]
  exact go_blanks c hc z r
theorem join_snoc (vs : List ByteArray) (v : ByteArray) : joinL (vs ++ [v]) = joinL vs ++ (if vs.length = 0 then [] else [44, 32]) ++ tl v := by
  cases vs with
  | nil => show v.data.toList ++ [] = ([] ++ []) ++ tl v; rw [List.append_nil]; rfl
  | cons x r =>
    rw [if_neg (by rw [List.length_cons]; omega)]
    show x.data.toList ++ (r ++ [v]).flatMap (fun y => ([44, 32] : W8) ++ y.data.toList) = (x.data.toList ++ r.flatMap (fun y => ([44, 32] : W8) ++ y.data.toList)) ++ [44, 32] ++ tl v
    rw [List.flatMap_append, List.flatMap_cons, List.flatMap_nil, List.append_nil, List.append_assoc, List.append_assoc]
    rfl
/-- Values with blanks put ahead of blanks. -/
structure Bl (ss vs : List ByteArray) : Prop where
  eq : Eq2 (joinL ss) (joinL vs)
  len : ss.length = vs.length
  small : ∀ s ∈ ss, s.size ≤ 300
theorem Bl.nil : Bl [] [] := ⟨Eq2.refl _, rfl, by simp⟩
theorem Bl.snoc {ss vs : List ByteArray} (h : Bl ss vs) {s v : ByteArray} (hs : Eq2 (tl s) (tl v)) (hz : s.size ≤ 300) : Bl (ss ++ [s]) (vs ++ [v]) := by
  refine ⟨?_, by rw [List.length_append, List.length_append, h.len]; rfl, fun x hx => ?_⟩
  · rw [join_snoc, join_snoc, h.len]
    exact (h.eq.app (Eq2.refl _)).app hs
  · rcases List.mem_append.1 hx with hx | hx
    · exact h.small x hx
    · rw [List.mem_singleton.1 hx]; exact hz
theorem allL_all (nm n : ByteArray) (h : Leaf.sameB nm n = true) (vs : List ByteArray) : allL (vs.map fun v => (⟨nm, v⟩ : S38)) n = vs := by
  induction vs with
  | nil => rfl
  | cons v r ih =>
    unfold allL at ih ⊢
    rw [List.map_cons, List.filter_cons, if_pos h, List.map_cons, ih]
theorem allL_app (a b : List S38) (n : ByteArray) : allL (a ++ b) n = allL a n ++ allL b n := by
  unfold allL
  rw [List.filter_append, List.map_append]
theorem namesP_kern (L : List ByteArray) (h : L.any starB = false) : namesP L = ((((L.map lowB).map tl).foldl (fun o n => insL n o) []).map (fun x => ⟨x.toArray⟩), false) := by
  unfold namesP
  rw [h, if_neg (by decide), sorted_ins]
def accN : ByteArray := ⟨#[97, 99, 99, 101, 112, 116]⟩
def accR : List S38 := [⟨⟨#[118, 97, 114, 121]⟩, ⟨#[65, 67, 67, 69, 80, 84]⟩⟩]
theorem list_known (l : List S38) (hl : Small l) (k : Nat) (r : List ByteArray) (h : head_List.f k l varyN = some r) : listL l varyN = r := by
  obtain ⟨k1, h1⟩ := list_head l varyN hl
  have h2 := h1 (max k1 k) (Nat.le_max_left _ _)
  have h3 := Ev.of (fun k => head_List.mono _ _ k) h
  obtain ⟨k2, h3⟩ := h3
  exact Option.some.inj ((h1 (max k1 k2) (Nat.le_max_left _ _)).symm.trans (h3 (max k1 k2) (Nat.le_max_right _ _)))
theorem acc_names : namesP (listL accR varyN) = ([accN], false) := by
  have hs : Small accR := ⟨by decide, by decide⟩
  rw [list_known accR hs 60 [⟨#[65, 67, 67, 69, 80, 84]⟩] (by decide +kernel), namesP_kern _ (by decide +kernel)]
  decide +kernel
theorem go_app : ∀ (x y : W8) (r : Bool), ∃ r', vary_plain.go r (x ++ y) = vary_plain.go r x ++ vary_plain.go r' y
  | [], y, r => ⟨r, rfl⟩
  | c :: x, y, r => by
    rw [List.cons_append, vary_plain.go, vary_plain.go]
    split
    · split
      · exact go_app x y true
      · obtain ⟨r', h⟩ := go_app x y true
        exact ⟨r', by rw [h]; rfl⟩
    · obtain ⟨r', h⟩ := go_app x y false
      exact ⟨r', by rw [h]; rfl⟩
theorem go_zz (x : W8) (r : Bool) : vary_plain.go r x ≠ vary_plain.go r (x ++ [44, 32] ++ [122, 122]) := by
  intro h
  rw [List.append_assoc] at h
  obtain ⟨r', h2⟩ := go_app x ([44, 32] ++ [122, 122]) r
  rw [h2] at h
  have h3 := congrArg List.length h
  rw [List.length_append] at h3
  have h4 : 0 < (vary_plain.go r' ([44, 32] ++ [122, 122])).length := by cases r' <;> decide
  omega
theorem toList_mk (l : W8) : (⟨l.toArray⟩ : ByteArray).toList = l := by rw [tl_eq]; rfl
def oneF (vs : List ByteArray) : List S38 := if vs.length = 0 then [] else [⟨accN, ⟨(joinL vs).toArray⟩⟩]
/-- What is told of requests whose values differ in blanks alone, of one field with all, and of one more value. -/
theorem blanks_facts (vs ss : List ByteArray) (hn : vs.length ≤ 5) (hz : ∀ v ∈ vs, v.size ≤ 50) (hb : Bl ss vs) :
    ∃ k, vary_Match.f k 0 ⟨#[]⟩ accR [] (vs.map fun v => (⟨⟨#[65, 99, 99, 101, 112, 116]⟩, v⟩ : S38)) (ss.map fun v => (⟨⟨#[97, 67, 67, 69, 80, 84]⟩, v⟩ : S38)) = some true ∧
      vary_Match.f k 0 ⟨#[]⟩ accR [] (vs.map fun v => (⟨⟨#[65, 99, 99, 101, 112, 116]⟩, v⟩ : S38)) (oneF vs) = some true ∧
      vary_Match.f k 0 ⟨#[]⟩ accR [] (vs.map fun v => (⟨⟨#[65, 99, 99, 101, 112, 116]⟩, v⟩ : S38)) ((ss.map fun v => (⟨⟨#[97, 67, 67, 69, 80, 84]⟩, v⟩ : S38)) ++ [⟨⟨#[65, 99, 99, 101, 112, 116]⟩, ⟨#[122, 122]⟩⟩]) = some false := by
  have hl : Lt 1 accR := ⟨by decide, by decide⟩
  have hA : allL (vs.map fun v => (⟨⟨#[65, 99, 99, 101, 112, 116]⟩, v⟩ : S38)) accN = vs := allL_all _ _ (by decide +kernel) vs
  have hB : allL (ss.map fun v => (⟨⟨#[97, 67, 67, 69, 80, 84]⟩, v⟩ : S38)) accN = ss := allL_all _ _ (by decide +kernel) ss
  have hZ : allL ([⟨⟨#[65, 99, 99, 101, 112, 116]⟩, ⟨#[122, 122]⟩⟩] : List S38) accN = [⟨#[122, 122]⟩] := by decide +kernel
  have hjl := join_len 50 vs hz
  have sA : Small (vs.map fun v => (⟨⟨#[65, 99, 99, 101, 112, 116]⟩, v⟩ : S38)) := ⟨by rw [List.length_map]; omega, fun x hx => by
    obtain ⟨v, hv, rfl⟩ := List.mem_map.1 hx
    have := hz v hv
    exact ⟨by show (6 : Nat) ≤ _; omega, by show v.size ≤ _; omega⟩⟩
  have sB : Small (ss.map fun v => (⟨⟨#[97, 67, 67, 69, 80, 84]⟩, v⟩ : S38)) := ⟨by rw [List.length_map, hb.len]; omega, fun x hx => by
    obtain ⟨v, hv, rfl⟩ := List.mem_map.1 hx
    have := hb.small v hv
    exact ⟨by show (6 : Nat) ≤ _; omega, by show v.size ≤ _; omega⟩⟩
  have sZ : Small ((ss.map fun v => (⟨⟨#[97, 67, 67, 69, 80, 84]⟩, v⟩ : S38)) ++ [⟨⟨#[65, 99, 99, 101, 112, 116]⟩, ⟨#[122, 122]⟩⟩]) := ⟨by rw [List.length_append, List.length_map, hb.len]; show _ + 1 ≤ _; omega, fun x hx => by
    rcases List.mem_append.1 hx with hx | hx
    · exact sB.2 x hx
    · rw [List.mem_singleton.1 hx]; exact ⟨by decide, by decide⟩⟩
  have sO : Small (oneF vs) := by
    unfold oneF
    split
    · exact ⟨by decide, by simp⟩
    · refine ⟨by show (1 : Nat) ≤ _; omega, fun x hx => ?_⟩
      rw [List.mem_singleton.1 hx]
      refine ⟨by show (6 : Nat) ≤ _; omega, ?_⟩
      show (joinL vs).toArray.size ≤ _
      rw [List.size_toArray]
      have : vs.length * (50 + 2) ≤ 5 * 52 := Nat.mul_le_mul_right _ hn
      omega
  have hO : allL (oneF vs) accN = if vs.length = 0 then [] else [⟨(joinL vs).toArray⟩] := by
    unfold oneF
    split
    · rfl
    · exact allL_all accN accN (by decide +kernel) [⟨(joinL vs).toArray⟩]
  obtain ⟨k1, h1⟩ := match_vary hl (by omega) 0 ⟨#[]⟩ [] _ _ sA sB
  obtain ⟨k2, h2⟩ := match_vary hl (by omega) 0 ⟨#[]⟩ [] _ _ sA sO
  obtain ⟨k3, h3⟩ := match_vary hl (by omega) 0 ⟨#[]⟩ [] _ _ sA sZ
  rw [acc_names] at h1 h2 h3
  have e0 : ∀ p q : List S38, matchP ([accN], false) p q = !(badN p q accN) := fun p q => by
    show (!false && !(badN p q accN || false)) = _
    rw [Bool.or_false]; rfl
  rw [e0] at h1 h2 h3
  have gl : vary_plain.go false (joinL ss) = vary_plain.go false (joinL vs) := by
    have := hb.eq false []
    rwa [List.append_nil, List.append_nil] at this
  have b1 : badN (vs.map fun v => (⟨⟨#[65, 99, 99, 101, 112, 116]⟩, v⟩ : S38)) (ss.map fun v => (⟨⟨#[97, 67, 67, 69, 80, 84]⟩, v⟩ : S38)) accN = false := by
    unfold badN normL
    rw [hA, hB, gl, hb.len]
    simp
  have b2 : badN (vs.map fun v => (⟨⟨#[65, 99, 99, 101, 112, 116]⟩, v⟩ : S38)) (oneF vs) accN = false := by
    unfold badN normL
    rw [hA, hO]
    by_cases h0 : vs.length = 0
    · rw [if_pos h0, List.eq_nil_of_length_eq_zero h0]; simp
    · rw [if_neg h0]
      have ej : joinL [⟨(joinL vs).toArray⟩] = joinL vs := by
        show (joinL vs) ++ [] = _
        rw [List.append_nil]
      rw [ej]
      have : ((vs.length : Int) > 0) := by omega
      rw [decide_eq_true this]
      simp
  have b3 : badN (vs.map fun v => (⟨⟨#[65, 99, 99, 101, 112, 116]⟩, v⟩ : S38)) ((ss.map fun v => (⟨⟨#[97, 67, 67, 69, 80, 84]⟩, v⟩ : S38)) ++ [⟨⟨#[65, 99, 99, 101, 112, 116]⟩, ⟨#[122, 122]⟩⟩]) accN = true := by
    unfold badN normL
    rw [allL_app, hA, hB, hZ, join_snoc, hb.len]
    by_cases h0 : vs.length = 0
    · have hv : vs = [] := List.eq_nil_of_length_eq_zero h0
      have hs : ss = [] := List.eq_nil_of_length_eq_zero (by rw [hb.len, h0])
      rw [hv, hs]; rfl
    · rw [if_neg h0]
      have g2 : vary_plain.go false (joinL ss ++ [44, 32] ++ tl ⟨#[122, 122]⟩) = vary_plain.go false (joinL vs ++ [44, 32] ++ [122, 122]) := by
        rw [List.append_assoc, List.append_assoc]
        exact hb.eq false _
      rw [g2]
      show (_ != _ || (⟨_⟩ : ByteArray).toList != (⟨_⟩ : ByteArray).toList) = true
      rw [toList_mk, toList_mk, bne_iff_ne.2 (go_zz (joinL vs) false), Bool.or_true]
  refine ⟨k1 + k2 + k3, (h1 _ (by omega)).trans (by rw [b1]; rfl), (h2 _ (by omega)).trans (by rw [b2]; rfl), (h3 _ (by omega)).trans (by rw [b3]; rfl)⟩
end Go.Proofs.Ytefijfanjekchaa.Plain
