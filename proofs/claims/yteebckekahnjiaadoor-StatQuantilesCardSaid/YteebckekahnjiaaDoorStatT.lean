/- The counts' text. -/
import Derived.Test.YteebckekahnjiaaDoorStatQ
import Derived.Test.YteebckekahnjiaaDoorStatN
import Derived.Test.YteebckekahnjiaaDoorItoa
import Derived.Test.YteebckekahnjiaaDoorBld
set_option linter.unusedVariables false
set_option linter.unusedSimpArgs false
namespace Go.Proofs.YteebckekahnjiaaDoor.Stat
open Go.RowKit Go.Proofs.YteebckekahnjiaaDoor.G Go.Proofs.YteebckekahnjiaaDoorW.PrintWords Go.Proofs.YteebckekahnjiaaDoorW.PrintMore Go.Proofs.YteebckekahnjiaaDoor.Foot Go.Proofs.YteebckekahnjiaaDoor.StatL Go.Proofs.YteebckekahnjiaaDoor.Itoa

def words : List ByteArray := [⟨#[104, 105, 116]⟩, ⟨#[109, 105, 115, 115]⟩, ⟨#[99, 104, 101, 99, 107]⟩, ⟨#[100, 101, 110, 121]⟩, ⟨#[101, 114, 114, 111, 114]⟩, ⟨#[99, 111, 110, 115, 111, 108, 101]⟩]
theorem words_f : line_Words.f = some words := by rfl
theorem hows_f : ambryref23_hows.f = some words := by rfl
def word (i : Nat) : ByteArray := words.getD i ByteArray.empty
def lineOf (l : List Int) (i : Nat) : List UInt8 := (word i).data.toList ++ [32] ++ Lib.itoa (nth l i) ++ [10]
def textTo (l : List Int) : Nat → List UInt8
  | 0 => []
  | i + 1 => textTo l i ++ lineOf l i
def textB (l : List Int) : List UInt8 := textTo l 6 ++ ([98, 121, 116, 101, 115, 32] ++ Lib.itoa (nth l 44) ++ [10])
def textOf (l : List Int) : ByteArray := ⟨(textB l).toArray⟩
theorem word_size : ∀ i, i < 6 → (word i).size ≤ 7 := by decide
theorem line_len {l : List Int} {n : Nat} (h : Bd n l) (hn : n ≤ 1000) (i : Nat) (hi : i < 6) : (lineOf l i).length ≤ 30 := by
  have h1 := h.lo i (by omega)
  have h2 := Lib.itoa_length_le (nth l i) (by unfold nth; omega) (by unfold nth; omega)
  have h3 := word_size i hi
  have h4 : (word i).data.toList.length = (word i).size := by rw [Array.length_toList]; rfl
  unfold lineOf
  simp only [List.length_append, List.length_cons, List.length_nil]
  omega
theorem text_len {l : List Int} {n : Nat} (h : Bd n l) (hn : n ≤ 1000) : ∀ i, i ≤ 6 → (textTo l i).length ≤ 30 * i
  | 0, _ => by simp [textTo]
  | i + 1, hi => by
    have h1 := text_len h hn i (by omega)
    have h2 := line_len h hn i (by omega)
    simp only [textTo, List.length_append]
    omega
theorem at_word {w : World} {A : Option Addr} (h : Kd.string.C w A words.length words) (i : Nat) (hi : i < 6) : ∃ ad, A = some ad ∧ w.cell? (ad.add i) = some (.string (word i)) := by
  have hl : words.length = 6 := rfl
  obtain ⟨ad, e, hc⟩ := Kd.at_string h (i : Int) (by omega) (by rw [hl]; omega)
  rw [Int.toNat_natCast] at hc
  exact ⟨ad, e, hc⟩
/-- Rows of texts stand, whatever a builder writes. -/
theorem R_others {w w' : World} {base b : Nat} {ok : Nat → Prop} {v : Value} {xs : List ByteArray} (h : Kd.string.R 9 w base ok v xs) (hk : Lib.OthersKept 5 (some b) w w') (hb : b < base) : Kd.string.R 9 w' base ok v xs := by
  refine Kd.R_mono (Kd.R_move (Kd.R_bound h) fun k ⟨_, h1, h2, q, hq, cells, hc⟩ => ?_) (fun k hk => hk.1)
  rw [hc]
  refine hk _ _ hc (fun e => by injection e with e; omega) ?_
  intro c fz he
  injection he with _ he _
  subst he
  simp [Kd.string, Kd.scalar] at hq
set_option maxHeartbeats 4000000 in
set_option maxRecDepth 100000 in
theorem text_calls (p n : Nat) (l : List Int) (w : World) (h : w.heap[p]? = some (OS l)) (hb : Bd n l) (hn : n ≤ 1000) (htab : Lib.TabIs Tryd.prog w "internal/strconv.uint64pow10" .u64 Lib.pow10Tab) :
    Calls Tryd.prog 19 #[.pointer (some ⟨p, 0, none⟩)] w fun e w' => e = .returned (.string (textOf l)) ∧ Below w.heap.size w w' := by
  have H := Lib.hid h
  have hp := blk_lt h
  have HBd := Lib.hid hb
  have HT := Lib.hid htab
  have HTL := Lib.hid (text_len hb hn)
  have HLL := Lib.hid (line_len hb hn)
  clear h hb htab
  go_enter Tryd.func19, Tryd.ntmps19
  go_wp2_with fail
  refine (line_Words.calls words _ words_f).mono ?_
  rintro e w1 ⟨v, rfl, hR, hB⟩
  obtain ⟨A, cp, rfl, hlc, hC⟩ := Kd.R_reads hR
  have HBL := Aside0.mk ((Bld.Has.fresh w).of_kept fun k o hk => (hB.block k (blk_lt hk)).trans hk)
  have HW := Aside0.mk ((below_alloc (Below.refl w.heap.size w) (.cells #[.pointer none, .slice none 0 0] 63)).trans (hB.mono (by simp)))
  have HR := Aside0.mk (Kd.R_lower (base' := w.heap.size + 1) hR (by simp))
  rw [show words.length = 6 from rfl]
  clear hR hB hC hlc
  go_wp2
  go_loopw [8] (fun v8 wr => ∃ i : Nat, i ≤ 6 ∧ v8 = .int .i64 (i : Int) ∧ Aside0 (Bld.Has wr w.heap.size w.heap.size (textTo l i)) ∧ Aside0 (Below w.heap.size w wr) ∧ Aside0 (Kd.string.R 9 wr (w.heap.size + 1) (fun _ => True) (.slice A words.length cp) words)) (fun v8 _ => 6 - (intOf v8).toNat)
  case atStart => exact ⟨0, Nat.zero_le _, rfl, HBL, HW, HR⟩
  case round =>
    clear HBL HW HR
    obtain ⟨i, hi, rfl, HB, HW, HR⟩ := hrel
    by_cases hlt : i < 6
    · have hi0 : (0 : Int) ≤ (i : Int) := by omega
      have hi1 : (i : Int) < 6 := by omega
      obtain ⟨ad, hA, hcell⟩ := at_word (Kd.R_reads' HR.out).2.2 i hlt
      have hws := word_size i hlt
      have hln := HLL.out i hlt
      have htl := HTL.out i hi
      have HST := Lib.hid (show textTo l (i + 1) = textTo l i ++ lineOf l i from rfl)
      have HLO := Lib.hid (show lineOf l i = (word i).data.toList ++ [32] ++ Lib.itoa (nth l i) ++ [10] from rfl)
      have hof : ofV l (i : Int) = nth l i := by unfold ofV; rw [if_neg (by omega)]; rfl
      have hnb := HBd.out.lo i (by omega)
      have hn0 : 0 ≤ nth l i := hnb.1
      have hn1 : nth l i ≤ n := hnb.2
      have HH := Lib.hid ((HW.out.block p hp).trans H.out)
      subst hA
      generalize word i = s at hcell hws HLO
      clear hnb
      go_wp2_with fail
      refine (of_calls p (i : Int) l _ HH.out HBd.out.len).mono ?_
      rintro e w' ⟨rfl, rfl⟩
      rw [hof]
      clear hof
      generalize nth l i = x at HLO hn0 hn1 ⊢
      have hits := itoa_size x (by omega) (by omega)
      go_wp2_with fail
      refine (fmt x (by omega) (by omega) _ (tab_below HT.out HW.out)).mono ?_
      rintro e w2 ⟨rfl, hB2⟩
      have HB2 := Aside0.mk (HB.out.of_kept fun k o hk => (hB2.block k (blk_lt hk)).trans hk)
      have HW2 := Aside0.mk (HW.out.trans (hB2.mono HW.out.size))
      have HR2 := Aside0.mk (Kd.R_step HR.out fun k _ hk => hB2.block k hk)
      obtain ⟨t, ht⟩ : ∃ t : ByteArray, (⟨(Lib.itoa x).toArray⟩ : ByteArray) = t := ⟨_, rfl⟩
      rw [ht] at hits
      have HTT := Lib.hid (show Lib.itoa x = t.data.toList by rw [← ht])
      rw [ht]
      clear hB2 hcell ht
      go_wp2_with fail
      refine (Bld.write w.heap.size w.heap.size _ _ _ HB2.out (by simp only [ByteArray.size_append]; have e1 : (⟨#[32]⟩ : ByteArray).size = 1 := rfl; have e2 : (⟨#[10]⟩ : ByteArray).size = 1 := rfl; omega)).mono ?_
      rintro e w3 ⟨rfl, hb3, hB3, hk3⟩
      have HB3 := Aside0.mk (show Bld.Has w3 w.heap.size w.heap.size (textTo l (i + 1)) by
        rw [HST.out, HLO.out, HTT.out]
        have e : (s ++ (⟨#[32]⟩ : ByteArray) ++ t ++ (⟨#[10]⟩ : ByteArray)).data.toList = s.data.toList ++ [32] ++ t.data.toList ++ [10] := by simp [ByteArray.data_append]
        rw [← e]
        exact hb3)
      have HW3 := Aside0.mk (HW2.out.trans hB3)
      have HR3 := Aside0.mk (R_others HR2.out hk3 (by omega))
      clear hb3 hB3 hk3
      go_wp2_with fail
      go_roundw
      case rel => exact ⟨i + 1, by omega, by go_num, HB3, HW3, HR3⟩
      case measure => simp [intOf]; omega
    · have hin : i = 6 := by omega
      have hic : ((i : Nat) : Int) = 6 := by omega
      rw [hin] at HB
      rw [hic]
      clear hin hic hlt hi
      have HH := Lib.hid ((HW.out.block p hp).trans H.out)
      have htl := HTL.out 6 (by omega)
      have hall := HBd.out.all
      have hn0 : 0 ≤ nth l 44 := hall.1
      have hn1 : nth l 44 ≤ n * 1073741824 := hall.2
      have HTE := Lib.hid (show textB l = textTo l 6 ++ ([98, 121, 116, 101, 115, 32] ++ Lib.itoa (nth l 44) ++ [10]) from rfl)
      clear hall
      go_wp2_with fail
      refine (bytes_calls p l _ HH.out HBd.out.len).mono ?_
      rintro e w' ⟨rfl, rfl⟩
      generalize nth l 44 = x at HTE hn0 hn1 ⊢
      have hits := itoa_size x (by omega) (by omega)
      go_wp2_with fail
      refine (fmt x (by omega) (by omega) _ (tab_below HT.out HW.out)).mono ?_
      rintro e w2 ⟨rfl, hB2⟩
      have HB2 := Aside0.mk (HB.out.of_kept fun k o hk => (hB2.block k (blk_lt hk)).trans hk)
      have HW2 := Aside0.mk (HW.out.trans (hB2.mono HW.out.size))
      obtain ⟨t, ht⟩ : ∃ t : ByteArray, (⟨(Lib.itoa x).toArray⟩ : ByteArray) = t := ⟨_, rfl⟩
      rw [ht] at hits
      have HTT := Lib.hid (show Lib.itoa x = t.data.toList by rw [← ht])
      rw [ht]
      clear hB2 ht
      go_wp2_with fail
      refine (Bld.write w.heap.size w.heap.size _ _ _ HB2.out (by simp only [ByteArray.size_append]; have e1 : (⟨#[98, 121, 116, 101, 115, 32]⟩ : ByteArray).size = 6 := rfl; have e2 : (⟨#[10]⟩ : ByteArray).size = 1 := rfl; omega)).mono ?_
      rintro e w3 ⟨rfl, hb3, hB3, hk3⟩
      have HB3 := Aside0.mk (show Bld.Has w3 w.heap.size w.heap.size (textB l) by
        rw [HTE.out, HTT.out]
        have e : ((⟨#[98, 121, 116, 101, 115, 32]⟩ : ByteArray) ++ t ++ (⟨#[10]⟩ : ByteArray)).data.toList = [98, 121, 116, 101, 115, 32] ++ t.data.toList ++ [10] := by simp [ByteArray.data_append]
        rw [← e]
        exact hb3)
      have HW3 := Aside0.mk (HW2.out.trans hB3)
      clear hb3 hB3 hk3
      go_wp2_with fail
      refine (Bld.string w.heap.size w.heap.size _ _ HB3.out).mono ?_
      rintro e w4 ⟨rfl, hB4⟩
      have HW4 := Aside0.mk (HW3.out.trans hB4)
      clear hB4
      go_wp2
      go_ret
      exact ⟨rfl, HW4.out⟩
end Go.Proofs.YteebckekahnjiaaDoor.Stat
