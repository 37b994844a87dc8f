/- Chapter 12: the closed fact of its statements. -/
import Derived.Test.YtoendmbgfbhidaaC26
import Derived.Test.YtoendmbgfbhidaaL8b
import Derived.Test.YtoendmbgfbhidaaL11
namespace Go.Proofs.Ytoendmbgfbhidaa
set_option linter.unusedVariables false
open Go Go.RowKit M
def l12 : List Step := [⟨1, 0, 0, d8⟩, ⟨4, 0, 0, ⟨0, 0, 0, []⟩⟩, ⟨4, 1, 0, ⟨0, 0, 0, []⟩⟩]
def s12 : Step := ⟨2, 0, 0, d8⟩
theorem f12_facts : walkN newA l12 = 2 ∧ listsA newB s12 = [newB, doD newB d8] ∧ (doD newB d8).length = 9 ∧ (doD newB d8).getD 4 [] = abcd8 := by decide +kernel
theorem lo12 : Lo l12 := show ∀ s ∈ l12, -9223372036854775808 ≤ s.n from by decide
theorem sts12 {w : World} {b : Nat} {T : TypeId} {u : Value} (hX : BoxAt w b T [.int .i64 1, .int .i64 0, .int .i64 0, .int .i64 1, .int .i64 4, .int .i64 0, u, .int .i64 4, .int .i64 0, .int .i64 0, .int .i64 0, .int .i64 0, .int .i64 0, .slice none 0 0, .int .i64 4, .int .i64 1, .int .i64 0, .int .i64 0, .int .i64 0, .int .i64 0, .slice none 0 0]) (hu : RdB w (fun _ => True) u abcd8) : RdSts w (fun _ => True) (.slice (some ⟨b, 0, none⟩) 3 3) l12 := by
  refine ⟨_, _, rfl, Nat.le_refl _, by decide, fun j s hs => ?_⟩
  have hn : RdB w (fun _ => True) (.slice none 0 0) [] := RdL.nil_ _ _ _ _ _ (by decide)
  match j, hs with
  | 0, hs => obtain rfl := Option.some.inj hs; exact ⟨b, 0, rfl, trivial, hX.lt, hX.cell 0, hX.cell 1, hX.cell 2, hX.cell 3, hX.cell 4, hX.cell 5, by decide, _, hX.cell 6, hu⟩
  | 1, hs => obtain rfl := Option.some.inj hs; exact ⟨b, 0, rfl, trivial, hX.lt, hX.cell 7, hX.cell 8, hX.cell 9, hX.cell 10, hX.cell 11, hX.cell 12, by decide, _, hX.cell 13, hn⟩
  | 2, hs => obtain rfl := Option.some.inj hs; exact ⟨b, 0, rfl, trivial, hX.lt, hX.cell 14, hX.cell 15, hX.cell 16, hX.cell 17, hX.cell 18, hX.cell 19, by decide, _, hX.cell 20, hn⟩
  | j + 3, hs => simp [l12] at hs
set_option maxRecDepth 100000 in
set_option maxHeartbeats 1600000 in
theorem law12_alive (w : World) : Calls Try.prog 52 #[] w fun e w' => e = .returned (.bool true) ∧ Below w.heap.size w w' := by
  have HBel := Lib.hid (Below.refl w.heap.size w)
  have kc := fun (w : World) (C : Array Value) (n c : Nat) => Lib.run_convert_bytes_const (P := Try.prog) w 23 5 C n c Try.underlying23 Try.underlying5
  have hd0 : RdB (w.alloc (.cells #[.int .u8 97, .int .u8 98, .int .u8 99, .int .u8 100] 5 (4, 5))) (fun _ => True) (.slice (some ⟨w.heap.size, 0, none⟩) 4 4) abcd8 := rd_const w abcd8 _ _ (by decide)
  have hl0 := below_alloc w (.cells #[.int .u8 97, .int .u8 98, .int .u8 99, .int .u8 100] 5 (4, 5))
  obtain ⟨w0, hw0⟩ : ∃ x, w.alloc (.cells #[.int .u8 97, .int .u8 98, .int .u8 99, .int .u8 100] 5 (4, 5)) = x := ⟨_, rfl⟩
  have hsz0 : w0.heap.size = w.heap.size + 1 := by rw [← hw0, alloc_size]
  rw [hw0] at hd0 hl0
  have hX0 := boxAt_new w0 25 [.int .i64 1, .int .i64 4, .int .i64 0, .slice (some ⟨w.heap.size, 0, none⟩) 4 4]
  have hl1 := below_alloc w0 (.cells #[.int .i64 1, .int .i64 4, .int .i64 0, .slice (some ⟨w.heap.size, 0, none⟩) 4 4] 25)
  have hd1 := okB.grow (okB.lt hd0) hl1
  obtain ⟨w1, hw1⟩ : ∃ x, w0.alloc (.cells #[.int .i64 1, .int .i64 4, .int .i64 0, .slice (some ⟨w.heap.size, 0, none⟩) 4 4] 25) = x := ⟨_, rfl⟩
  have hsz1 : w1.heap.size = w.heap.size + 1 + 1 := by rw [← hw1, alloc_size, hsz0]
  change BoxAt (w0.alloc (.cells #[.int .i64 1, .int .i64 4, .int .i64 0, .slice (some ⟨w.heap.size, 0, none⟩) 4 4] 25)) _ _ _ at hX0
  rw [hw1] at hX0 hd1 hl1
  rw [hsz0] at hX0
  replace HBel := Lib.hid (hl0.trans (hl1.mono hl0.size))
  have HBd := Lib.hid hX0
  have HDd := Lib.hid hd1
  obtain ⟨k0, k1, k2, k3⟩ := hX0.four
  clear hX0 hd1 hl1 hd0 hl0
  go_enter Try.func52, Try.ntmps52
  go_wp2_with fail
  clear hw0 hw1 hsz0 k0 k1 k2 k3
  refine region_list [Rv RdBB newB, Cv (.agg #[.int .i64 1, .int .i64 4, .int .i64 0, .slice (some ⟨w.heap.size, 0, none⟩) 4 4]), Cv (.agg #[.int .i64 2, .int .i64 0, .int .i64 0, .int .i64 1, .int .i64 4, .int .i64 0, .slice (some ⟨w.heap.size, 0, none⟩) 4 4]), Rv RdBBB (listsA newB s12), Rv RdBBB (listsA newB s12)] (by kernel_rfl) (by kernel_rfl) (by kernel_rfl) ?_ ?_ ?_
  · repeat (first | exact trivial | refine ⟨mC _, ?_⟩ | refine ⟨mR okB _, ?_⟩ | refine ⟨mT, ?_⟩ | refine ⟨mR okBB _, ?_⟩ | refine ⟨mR okBBB _, ?_⟩ | refine ⟨mR (okL okI) _, ?_⟩ | refine ⟨mKt _, ?_⟩ | refine ⟨mRa _ _, ?_⟩)
  · simp only [StepsL]
    refine ⟨?_, ?_, ?_, ?_, ?_, trivial⟩
    · intro ys wx hw hd K hK
      simp only [putL, Act.put, List.setIfInBounds_toArray, List.set_cons_zero, List.set_cons_succ, Nat.zero_add, Nat.reduceAdd] at hK ⊢
      rw [if_pos (by rfl)]
      go_simp
      refine (ref_NewBlocks _).mono ?_
      rintro e w' ⟨v', rfl, hv', hb'⟩
      exact hK _ _ hb' (hv'.toRd_ okB)
    · intro ys wx hw hd K hK
      simp only [putL, Act.put, List.setIfInBounds_toArray, List.set_cons_zero, List.set_cons_succ, Nat.zero_add, Nat.reduceAdd] at hK ⊢
      rw [if_pos (by rfl)]
      obtain ⟨k0, k1, k2, k3⟩ := (HBd.out.grow hw).four
      go_simp
      exact hK _ _ (Below.refl _ _) rfl
    · intro ys wx hw hd K hK
      have e1 : ys 1 = _ := hd 1 (by decide)
      simp only [putL, Act.put, List.setIfInBounds_toArray, List.set_cons_zero, List.set_cons_succ, Nat.zero_add, Nat.reduceAdd, e1] at hK ⊢
      rw [if_pos (by rfl)]
      go_simp
      exact hK _ _ (Below.refl _ _) rfl
    · intro ys wx hw hd K hK
      have k0 := hd 0 (by decide)
      change (Rv RdBB newB) wx (ys 0) at k0
      have e2 : ys 2 = _ := hd 2 (by decide)
      simp only [putL, Act.put, List.setIfInBounds_toArray, List.set_cons_zero, List.set_cons_succ, Nat.zero_add, Nat.reduceAdd, e2] at hK ⊢
      rw [if_pos (by rfl)]
      have k0' : RdBB wx (fun k => k < wx.heap.size) (ys 0) newB := k0
      obtain ⟨A0, c0, hy, _, _⟩ := k0'.shape
      rw [hy] at k0'
      simp only [hy] at hK ⊢
      clear k0 hy
      go_simp
      refine (may_Lists newB s12 _ _ _ _ k0' ⟨_, rfl, (by decide), okB.grow HDd.out hw⟩ rfl).mono ?_
      rintro e w' ⟨v', rfl, hv', hb'⟩
      exact hK _ _ hb' (okBBB.mono (okBBB.lt hv') fun k hk => hk.2)
    · intro ys wx hw hd K hK
      have k3 := hd 3 (by decide)
      change (Rv RdBBB (listsA newB s12)) wx (ys 3) at k3
      simp only [putL, Act.put, List.setIfInBounds_toArray, List.set_cons_zero, List.set_cons_succ, Nat.zero_add, Nat.reduceAdd] at hK ⊢
      rw [if_pos (by rfl)]
      go_simp
      exact hK _ _ (Below.refl _ _) k3
  · intro ys w' hl' hV
    have k4 := hV 4 (by decide)
    change (Rv RdBBB (listsA newB s12)) w' (ys 4) at k4
    clear hV
    simp only [putL, Act.put, List.setIfInBounds_toArray, List.set_cons_zero, List.set_cons_succ, Nat.zero_add, Nat.reduceAdd]
    rename World => w2
    have k4' : RdBBB w2 (fun k => k < w2.heap.size) (ys 4) (listsA newB s12) := k4
    rw [f12_facts.2.1] at k4'
    obtain ⟨AL, cL, hy, hcL, hmL⟩ := k4'.shape
    rw [hy] at k4'
    simp only [hy]
    clear k4 hy
    have hsz2 := hl'.size
    rw [hsz1] at hsz2
    obtain ⟨sz, hsz⟩ : ∃ sz, w2.heap.size = sz := ⟨_, rfl⟩
    have hd1 := okB.grow HDd.out hl'
    have hX2 := HBd.out.grow hl'
    replace HBel := Lib.hid (HBel.out.trans (hl'.mono HBel.out.size))
    obtain ⟨k0, k1, k2, k3⟩ := hX2.four
    have hS := boxAt_new w2 68 [.int .i64 1, .int .i64 0, .int .i64 0, .int .i64 1, .int .i64 4, .int .i64 0, .slice (some ⟨w.heap.size, 0, none⟩) 4 4, .int .i64 4, .int .i64 0, .int .i64 0, .int .i64 0, .int .i64 0, .int .i64 0, .slice none 0 0, .int .i64 4, .int .i64 1, .int .i64 0, .int .i64 0, .int .i64 0, .int .i64 0, .slice none 0 0]
    have hl2 := below_alloc w2 (.cells #[.int .i64 1, .int .i64 0, .int .i64 0, .int .i64 1, .int .i64 4, .int .i64 0, .slice (some ⟨w.heap.size, 0, none⟩) 4 4, .int .i64 4, .int .i64 0, .int .i64 0, .int .i64 0, .int .i64 0, .int .i64 0, .slice none 0 0, .int .i64 4, .int .i64 1, .int .i64 0, .int .i64 0, .int .i64 0, .int .i64 0, .slice none 0 0] 68)
    have hd2 := okB.grow hd1 hl2
    have k5' := okBBB.grow k4' hl2
    obtain ⟨w3, hw3⟩ : ∃ x, w2.alloc (.cells #[.int .i64 1, .int .i64 0, .int .i64 0, .int .i64 1, .int .i64 4, .int .i64 0, .slice (some ⟨w.heap.size, 0, none⟩) 4 4, .int .i64 4, .int .i64 0, .int .i64 0, .int .i64 0, .int .i64 0, .int .i64 0, .slice none 0 0, .int .i64 4, .int .i64 1, .int .i64 0, .int .i64 0, .int .i64 0, .int .i64 0, .slice none 0 0] 68) = x := ⟨_, rfl⟩
    change BoxAt (w2.alloc (.cells #[.int .i64 1, .int .i64 0, .int .i64 0, .int .i64 1, .int .i64 4, .int .i64 0, .slice (some ⟨w.heap.size, 0, none⟩) 4 4, .int .i64 4, .int .i64 0, .int .i64 0, .int .i64 0, .int .i64 0, .int .i64 0, .slice none 0 0, .int .i64 4, .int .i64 1, .int .i64 0, .int .i64 0, .int .i64 0, .int .i64 0, .slice none 0 0] 68)) _ _ _ at hS
    rw [hw3] at hS hd2 hl2 k5'
    have HST := Lib.hid (sts12 hS (okB.mono hd2 fun _ _ => trivial))
    replace HBel := Lib.hid (HBel.out.trans (hl2.mono HBel.out.size))
    have HLS := Lib.hid k5'
    clear hS hl2 hd2 k5' k4' hd1 hX2 hl' hsz1 hsz2 hsz
    go_wp2_with fail
    clear hw3 k0 k1 k2 k3
    refine (may_Walk l12 _ _ HST.out lo12).mono ?_
    rintro e w4 ⟨rfl, hb⟩
    rw [f12_facts.1, show ((2 : Nat) : Int) = 2 from rfl]
    have hls := okBBB.grow HLS.out hb
    have hbe := HBel.out.trans (hb.mono HBel.out.size)
    have hL2 : ([newB, doD newB d8] : List (List Bs)).length = 2 := rfl
    rw [hL2] at hls hcL ⊢
    obtain ⟨bL, oL, cL', hag, _, _, _, _⟩ := hls.form (by decide)
    injection hag with e1 e2 e3
    subst e1
    obtain ⟨u1, hu1, hR1⟩ := RdL_q hls (k := 1) (x := doD newB d8) rfl
    obtain ⟨b1, o1, c1, rfl, _, _, hc1, hm1⟩ := hR1.form (by rw [f12_facts.2.2.1]; decide)
    rw [f12_facts.2.2.1] at hu1 hR1 hc1
    obtain ⟨u4, hu4, hR4⟩ := RdL_q hR1 (k := 4) (x := abcd8) (by have h1 := f12_facts.2.2.2; have h2 := f12_facts.2.2.1; rw [List.getD_eq_getElem?_getD, List.getElem?_eq_getElem (by omega), Option.getD_some] at h1; rw [List.getElem?_eq_getElem (by omega), h1])
    obtain ⟨A4, c4, rfl, _, _⟩ := hR4.shape
    have hc2 := run_conv hR4 Try.underlying23 Try.underlying5 Try.underlying9
    have hst : (strB abcd8).toList = [97, 98, 99, 100] := strB_toList abcd8
    unfold maxLen at hmL hm1
    subst e3
    clear hb hls hR1 hR4 e2 hL2
    go_wp2
    go_ret
    exact ⟨rfl, hbe⟩
end Go.Proofs.Ytoendmbgfbhidaa
