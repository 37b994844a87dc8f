/- slices.Concat of lists of byte slices. -/
import Derived.Test.YtdcmbdghnkgghaaDoorC18
import Derived.Lib.AppendZeros
namespace Go.Proofs.YtdcmbdghnkgghaaDoor
set_option linter.unusedVariables false
open Go Go.RowKit M
set_option maxRecDepth 100000 in
set_option maxHeartbeats 800000 in
theorem slices_Grow3 (w : World) :
    Calls Tryd.prog 78 #[.slice none 0 0, .int .i64 3] w fun e w' => ∃ v', e = .returned v' ∧ Bld RV 22 w' w.heap.size (fun _ => True) v' [] ∧ Below w.heap.size w w' := by
  have hge := grownCap_ge w 3 0 22
  have hle := grownCap_le_maxLen w 3 0 22 (by decide)
  unfold grownCap at hge hle
  go_enter Tryd.func78, Tryd.ntmps78
  go_wp2_with fail
  go_ret
  have hz : (Builtin.zeroCells #[Value.slice none 0 0] 3 ++ Builtin.zeroCells #[Value.slice none 0 0] ((Question.appendCap 3 0 22).cut (w.tape w.drawn (Question.appendCap 3 0 22)) - 3)).size = (Question.appendCap 3 0 22).cut (w.tape w.drawn (Question.appendCap 3 0 22)) * 1 := by
    simp [Builtin.zeroCells]; omega
  refine ⟨_, rfl, ⟨[], ⟨rfl, .inr ⟨_, _, _, rfl, Nat.le_refl _, ?_, Nat.zero_le _, hle, hz, rfl⟩⟩, rfl, fun j u x hu => by simp at hu⟩, ?_⟩
  · exact heap_alloc_new w _
  · exact (below_alloc w _).drew
set_option maxRecDepth 100000 in
set_option maxHeartbeats 800000 in
theorem slices_Concat3 (L : List (List Value)) (v : Value) (F : Fp) (w : World) (h : RdL (RdL RV) w F v L) (hL : L.flatten.length = 3) :
    Calls Tryd.prog 61 #[v] w fun e w' => ∃ v', e = .returned v' ∧ Bld RV 22 w' w.heap.size (fun _ => True) v' L.flatten ∧ Below w.heap.size w w' := by
  have hpre : ∀ k, (L.take k).flatten.length ≤ 3 := fun k => by
    have := congrArg List.length (congrArg List.flatten (List.take_append_drop k L))
    rw [List.flatten_append, List.length_append, hL] at this
    omega
  have HPre := Lib.hid hpre
  have HL := Lib.hid hL
  have H := Lib.hid ((okL okRVL).lt h)
  obtain ⟨A, c, rfl, hc, hm⟩ := h.shape
  unfold maxLen at hm
  clear hpre hL h
  go_enter Tryd.func61, Tryd.ntmps61
  go_wp2_with fail
  go_loopw [3, 11] (fun u i wr => ∃ k : Nat, k ≤ L.length ∧ i = .int .i64 k ∧ u = .int .i64 (((L.take k).flatten.length : Nat) : Int) ∧ w = wr) (fun _ i _ => L.length - (intOf i).toNat)
  case atStart => exact ⟨0, Nat.zero_le _, rfl, rfl, rfl⟩
  case round =>
    obtain ⟨k, hk, rfl, rfl, rfl⟩ := hrel
    have hp := HPre.out k
    by_cases hlt : k < L.length
    · obtain ⟨b, off, u, rfl, _, hu, hR⟩ := H.out.at_ hlt
      obtain ⟨A2, c2, rfl, hn1, hn2⟩ := hR.shape
      unfold maxLen at hn2
      have hp2 := HPre.out (k + 1)
      have HS := Lib.hid (show (L.take (k + 1)).flatten.length = (L.take k).flatten.length + L[k].length by rw [List.take_succ_eq_append_getElem hlt, List.flatten_append, List.length_append]; simp)
      rw [HS.out] at hp2
      obtain ⟨m, hm'⟩ : ∃ m, (L.take k).flatten.length = m := ⟨_, rfl⟩
      have HM := Lib.hid hm'
      rw [hm'] at hp hp2 ⊢
      clear hm' hR
      obtain ⟨n, hn'⟩ : ∃ n, L[k].length = n := ⟨_, rfl⟩
      have HN := Lib.hid hn'
      rw [hn'] at hp2 hn1 hu
      clear hn'
      have d1 : decide ((m : Int) + (n : Int) < 0) = false := by simp; omega
      go_wp2_with fail
      go_roundw
      case rel => exact ⟨k + 1, by omega, by go_num, by rw [HS.out, HM.out, HN.out]; rfl, by simp⟩
      case measure => simp [intOf]; omega
    · obtain rfl : k = L.length := by omega
      rw [List.take_length, HL.out]
      go_wp2_with fail
      refine (slices_Grow3 _).mono ?_
      rintro e w1 ⟨v1, rfl, hv1, hb1⟩
      clear hp
      go_wp2_with fail
      go_loopw [6, 27] (fun u i wr => ∃ k : Nat, k ≤ L.length ∧ i = .int .i64 k ∧ Bld RV 22 wr w.heap.size (fun _ => True) u (L.take k).flatten ∧ Below w.heap.size w wr) (fun _ i _ => L.length - (intOf i).toNat)
      case atStart => exact ⟨0, Nat.zero_le _, rfl, hv1, hb1⟩
      case round =>
        obtain ⟨k, hk, rfl, hO, hlw⟩ := hrel
        have HLW := Lib.hid hlw
        have HO := Lib.hid hO
        by_cases hlt : k < L.length
        · obtain ⟨b, off, u, rfl, _, hu, hR⟩ := ((okL okRVL).grow H.out (hlw)).at_ hlt
          obtain ⟨A2, c2, rfl, hn1, hn2⟩ := hR.shape
          unfold maxLen at hn2
          have HS := Lib.hid (show (L.take k).flatten ++ L[k] = (L.take (k + 1)).flatten by rw [List.take_succ_eq_append_getElem hlt, List.flatten_append]; simp)
          have hp2 := HPre.out (k + 1)
          rw [← HS.out, List.length_append] at hp2
          have HP2 := Lib.hid hp2
          have hsrc : RdL RV wr (fun q => some q ≠ u6.ownBlock ∧ True) (.slice A2 L[k].length c2) L[k] := okRVL.mono hR fun q hq => ⟨fun e => by have := (hO.blk q e.symm).1; omega, trivial⟩
          have HSrc := Lib.hid hsrc
          clear hO hlw hR hsrc hp2
          go_wp2_with (at_builtin; refine wpList_append_bld _ rfl _ _ 38 rfl okRV slBB w.heap.size (fun _ => True) u6 _ _ _ (by rfl) (by rfl) HO.out HSrc.out ?c1 HLW.out.size ?c2)
          case c1 => have := HP2.out; omega
          case c2 =>
          intro v' w' hB hb _ _
          rw [HS.out] at hB
          have HB := Lib.hid hB
          have HL2 := Lib.hid (HLW.out.trans hb)
          clear hB hb
          go_wp2
          go_roundw
          case rel => exact ⟨k + 1, by omega, by go_num, HB.out, HL2.out⟩
          case measure => simp [intOf]; omega
        · obtain rfl : k = L.length := by omega
          rw [List.take_length] at hO
          have HO' := Lib.hid hO
          clear hO hlw HO
          go_wp2_with fail
          go_ret
          exact ⟨_, rfl, HO'.out, HLW.out⟩
end Go.Proofs.YtdcmbdghnkgghaaDoor
