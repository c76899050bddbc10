-- PRINTED by print.py (a twelfth state) out of the translation. Not trusted: Lean checks it.
import Derived.Test.YtjliebggdphmpaaGx0
namespace Go.Proofs.Ytjliebggdphmpaa.G
open Go.RowKit Go.Proofs.YtjliebggdphmpaaW.PrintWords Go.Proofs.YtjliebggdphmpaaW.PrintLast Go.Proofs.YtjliebggdphmpaaW.PrintMore
attribute [local go_sem] max2_int min2_int max_two min_two max_three min_three max_four min_four   -- for this text's walks alone
set_option linter.unusedVariables false
set_option linter.unusedSimpArgs false

/-! ### norm_Host: function 27 -/
-- FOR ambry/norm.Host
-- MAKING
def norm_Host.f (a0 : ByteArray) : Option (ByteArray) := if a0.size ≤ 140737488355328 then some ⟨(Lib.trimSuffix (strOfNums ((bytesOf a0).map Leaf.lowC)).data.toList [58, 56, 48]).toArray⟩ else none
theorem norm_Host.next (X : List Int) (k : Nat) (hk : k < X.length) : ((X.take k).map Leaf.lowC ++ X.drop k).set k (Leaf.lowC (X.getD k 0)) = (X.take (k + 1)).map Leaf.lowC ++ X.drop (k + 1) := by
  have hl : ((X.take k).map Leaf.lowC).length = k := by rw [List.length_map, List.length_take]; omega
  have hg : X.getD k 0 = X[k] := by rw [List.getD_eq_getElem?_getD, List.getElem?_eq_getElem hk]; rfl
  rw [List.set_append_right _ _ (by omega), hl, Nat.sub_self, List.drop_eq_getElem_cons hk, List.set_cons_zero, List.take_succ_eq_append_getElem hk, List.map_append, List.append_assoc, hg]
  rfl
theorem norm_Host.stay (X : List Int) (k : Nat) (hk : k < X.length) (h : Leaf.lowC (X.getD k 0) = X.getD k 0) : ((X.take k).map Leaf.lowC ++ X.drop k) = (X.take (k + 1)).map Leaf.lowC ++ X.drop (k + 1) := by
  have hg : X.getD k 0 = X[k] := by rw [List.getD_eq_getElem?_getD, List.getElem?_eq_getElem hk]; rfl
  rw [hg] at h
  rw [List.drop_eq_getElem_cons hk, List.take_succ_eq_append_getElem hk, List.map_append, List.append_assoc, List.map_singleton, h]
  rfl
theorem norm_Host.now (X : List Int) (k : Nat) (hk : k < X.length) : ((X.take k).map Leaf.lowC ++ X.drop k).getD k 0 = X.getD k 0 := by
  have hl : ((X.take k).map Leaf.lowC).length = k := by rw [List.length_map, List.length_take]; omega
  rw [List.getD_eq_getElem?_getD, List.getElem?_append_right (by omega), hl, Nat.sub_self, List.getElem?_drop, Nat.add_zero, List.getD_eq_getElem?_getD]
theorem norm_Host.size (X : List Int) : (strOfNums X).size = X.length := by
  show (strOfNums X).data.size = _
  rw [← Array.length_toList, strOfNums_data, List.length_map]
set_option maxHeartbeats 1000000 in
theorem norm_Host.calls (a0 : ByteArray) (r : ByteArray) (w : World) (h : norm_Host.f a0 = some r) :
    Calls Try.prog 27 #[.string a0] w fun e w' => e = .returned (.string r) ∧ Below w.heap.size w w' := by
  unfold norm_Host.f at h
  split at h
  case isFalse => cases h
  rename_i hs
  obtain rfl := Option.some.inj h
  clear h
  have hl : (bytesOf a0).length = a0.size := bytesOf_length a0
  have hb : ∀ j : Nat, 0 ≤ (bytesOf a0).getD j 0 ∧ (bytesOf a0).getD j 0 ≤ 255 := fun j => by
    have e : bt a0 (j : Int) = (bytesOf a0).getD j 0 := by rw [← rd_bytesOf]; rfl
    rw [← e]
    exact bt_range a0 j
  have hr := Lib.hid (fun j (hj : j < a0.size) => And.intro (hb j) (And.intro (norm_Host.now (bytesOf a0) j (by omega)) (And.intro (norm_Host.next (bytesOf a0) j (by omega)) (norm_Host.stay (bytesOf a0) j (by omega)))))
  clear hb
  have kb := fun W => print_bytes (P := Try.prog) 9 36 5 Try.underlying9 Try.underlying36 Try.underlying5 a0 W
  go_enter Try.func27, Try.ntmps27
  go_wp2
  have HB := Aside0.mk (Leaf.BRow.made w 5 a0)
  have HW := Aside0.mk (bytes_below (Below.refl w.heap.size w) (Nat.le_refl _) 5 a0)
  clear kb
  generalize Lib.bytesWorld w 5 a0 = W0 at HB HW ⊢
  generalize grownCap w a0.size 0 5 = cap0
  go_loopw [10] (fun v10 wr => ∃ k : Nat, k ≤ a0.size ∧ v10 = .int .i64 k ∧ Aside0 (Leaf.BRow wr 5 w.heap.size a0.size (((bytesOf a0).take k).map Leaf.lowC ++ (bytesOf a0).drop k)) ∧ Aside0 (Below w.heap.size w wr)) (fun v10 _ => a0.size - (intOf v10).toNat)
  case atStart => exact ⟨0, Nat.zero_le _, rfl, HB, HW⟩
  case round =>
    clear HB HW
    obtain ⟨k, hk, rfl, HB, HW⟩ := hrel
    by_cases hlt : k < a0.size
    · obtain ⟨⟨r0, r1⟩, hn, hx, hy⟩ := hr.out k hlt
      have hc := HB.out.cell k hlt
      rw [hn] at hc
      have hz := HB.out.free k hlt
      have HX := Aside0.mk hx
      have HY := Aside0.mk hy
      clear hn hx hy
      generalize (bytesOf a0).getD k 0 = c at hc HX HY r0 r1
      by_cases h65 : 65 ≤ c
      · by_cases h90 : c ≤ 90
        · have hlow : Leaf.lowC c = c + 32 := if_pos ⟨h65, h90⟩
          rw [hlow] at HX
          clear HY hlow
          go_wp2
          go_roundw
          case rel => exact ⟨k + 1, by omega, by go_num, ⟨by rw [← HX.out, show c + 97 - 65 = c + 32 by omega]; exact HB.out.set k hlt (c + 32)⟩, ⟨HW.out.setCell (Nat.le_refl _) _⟩⟩
          case measure => simp [intOf]; omega
        · have hlow : Leaf.lowC c = c := if_neg (fun h => h90 h.2)
          have HE := Aside0.mk (HY.out hlow)
          clear HX HY hlow
          go_wp2
          go_roundw
          case rel => exact ⟨k + 1, by omega, by go_num, ⟨by rw [← HE.out]; exact HB.out⟩, HW⟩
          case measure => simp [intOf]; omega
      · have hlow : Leaf.lowC c = c := if_neg (fun h => h65 h.1)
        have HE := Aside0.mk (HY.out hlow)
        clear HX HY hlow
        go_wp2
        go_roundw
        case rel => exact ⟨k + 1, by omega, by go_num, ⟨by rw [← HE.out]; exact HB.out⟩, HW⟩
        case measure => simp [intOf]; omega
    · have hk2 : k = a0.size := by omega
      have ks := HB.out.to_string (P := Try.prog) 36 9 cap0 Try.underlying36 Try.underlying5 Try.underlying9
      have e : (((bytesOf a0).take k).map Leaf.lowC ++ (bytesOf a0).drop k) = (bytesOf a0).map Leaf.lowC := by rw [List.take_of_length_le (by omega), List.drop_eq_nil_of_le (by omega), List.append_nil]
      rw [e] at ks
      have hss : (strOfNums ((bytesOf a0).map Leaf.lowC)).size ≤ 9223372036854775807 := by rw [norm_Host.size, List.length_map]; omega
      have HSS := Lib.hid hss
      clear e hk2 hss
      go_wp2_with fail
      refine (Try.strings_TrimSuffix _ _ _ HSS.out).mono ?_
      rintro e w1 ⟨rfl, rfl⟩
      go_wp2
      go_ret
      exact ⟨rfl, HW.out⟩

end Go.Proofs.Ytjliebggdphmpaa.G
