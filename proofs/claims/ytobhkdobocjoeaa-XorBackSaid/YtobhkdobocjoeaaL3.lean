/- Chapter 3: what the laws' own helpers answer. -/
import Derived.Test.YtobhkdobocjoeaaC3
namespace Go.Proofs.Ytobhkdobocjoeaa
open Go Go.RowKit M

theorem xorAll_pair {a b : Bs} (ha : a.length = 4) : xorAll [a, b] = xorTwo a b := by
  unfold xorAll
  simp only [List.foldl_cons, List.foldl_nil]
  rw [zero_xorTwo ha]
def rightB (l : List Bs) : Bool := l.all (fun b => b.length == 4) && decide (l.length ≤ 50)
theorem rightB_blocks {l : List Bs} (h : rightB l = true) : Blocks4 l ∧ l.length ≤ 50 := by
  unfold rightB at h
  simp at h
  exact ⟨fun b hb => h.1 b hb, h.2⟩
set_option maxHeartbeats 400000 in
theorem law3_right (l : List Bs) (v : Value) (F : Fp) (w : World) (h : RdBB w F v l) :
    Calls Try.prog 22 #[v] w fun e w' => e = .returned (.bool (rightB l)) ∧ w = w' := by
  obtain ⟨A, c, rfl, _, hc2⟩ := h.shape
  unfold maxLen at hc2
  go_enter Try.func22, Try.ntmps22
  go_wp2
  go_loop [7] (fun i => ∃ k : Nat, k ≤ l.length ∧ i = .int .i64 k ∧ ∀ b ∈ l.take k, b.length = 4) (fun i => l.length - (intOf i).toNat)
  case atStart => exact ⟨0, Nat.zero_le _, rfl, by simp⟩
  case round =>
    obtain ⟨k, hk, rfl, hz⟩ := hrel
    have HZ := Lib.hid hz
    clear hz
    by_cases hlt : k < l.length
    · obtain ⟨bb, off, u, rfl, _, hu, hR⟩ := h.at_ hlt
      obtain ⟨B, cb, rfl, hcb, _⟩ := hR.shape
      by_cases h4 : l[k].length = 4
      · have h4' : ((l[k].length : Int) != 4) = false := by simp; omega
        have H4 := Lib.hid h4
        rw [h4] at hu
        clear h4 hR h h4' hcb
        go_wp2
        go_round
        case rel => exact ⟨k + 1, by omega, by go_num, fun b hb => by
          rw [List.take_succ_eq_append_getElem hlt, List.mem_append] at hb
          rcases hb with hb | hb
          · exact HZ.out b hb
          · simp at hb; rw [hb]; exact H4.out⟩
        case measure => simp [intOf]; omega
      · have h4' : ((l[k].length : Int) != 4) = true := by simp; omega
        have hf : rightB l = false := by
          unfold rightB
          simp only [Bool.and_eq_false_iff]
          left
          rw [List.all_eq_false]
          exact ⟨l[k], List.getElem_mem hlt, by simpa using h4⟩
        have HF := Lib.hid hf
        generalize hn : l[k].length = n at *
        have HN := Lib.hid hn
        clear hf hn h4 hR h
        go_wp2
        go_ret
        exact ⟨ret_bool (by rw [HF.out]), rfl⟩
    · obtain rfl : k = l.length := by omega
      have hf : rightB l = decide ((l.length : Int) ≤ 50) := by
        unfold rightB
        have := HZ.out
        rw [List.take_length] at this
        rw [List.all_eq_true.2 fun b hb => by simpa using this b hb]
        simp
        omega
      have HF := Lib.hid hf
      clear hf h
      go_wp2
      go_ret
      exact ⟨ret_bool (by rw [HF.out]), rfl⟩
def c3a : Bs := [1, 2, 3, 4]
def c3b : Bs := [1, 0, 3, 0]
def c3c : Bs := [0, 2, 0, 4]
set_option maxHeartbeats 1600000 in
theorem law3_alive (w : World) : Calls Try.prog 27 #[] w fun e w' => e = .returned (.bool true) ∧ Below w.heap.size w w' := by
  go_enter Try.func27, Try.ntmps27
  go_wp2_with fail
  have ha0 : RdB (w.alloc (.cells #[.int .u8 1, .int .u8 2, .int .u8 3, .int .u8 4] 5)) (fun _ => True) (.slice (some ⟨w.heap.size, 0, none⟩) 4 4) c3a := rd_const w c3a _ _ (by decide)
  have hl0 := below_alloc w (.cells #[.int .u8 1, .int .u8 2, .int .u8 3, .int .u8 4] 5)
  generalize hw1 : w.alloc (.cells #[.int .u8 1, .int .u8 2, .int .u8 3, .int .u8 4] 5) = w1 at *
  have hs1 : w1.heap.size = w.heap.size + 1 := by rw [← hw1]; simp
  have hb0 : RdB (w1.alloc (.cells #[.int .u8 1, .int .u8 0, .int .u8 3, .int .u8 0] 5)) (fun _ => True) (.slice (some ⟨w.heap.size + 1, 0, none⟩) 4 4) c3b := by
    have := rd_const w1 c3b 5 (0, 0) (by decide)
    rwa [hs1] at this
  have hl1 := below_alloc w1 (.cells #[.int .u8 1, .int .u8 0, .int .u8 3, .int .u8 0] 5)
  replace ha0 := okB.grow ha0 hl1
  replace hl0 := hl0.trans (hl1.mono hl0.size)
  generalize w1.alloc (.cells #[.int .u8 1, .int .u8 0, .int .u8 3, .int .u8 0] 5) = w2 at *
  clear hl1 hw1 hs1
  generalize hg : w.heap.size = g at *
  have HG := Lib.hid hg
  clear hg
  refine region_list [Cv (.slice (some ⟨g, 0, none⟩) 4 4), Cv (.slice (some ⟨g + 1, 0, none⟩) 4 4), Rv RdB c3c, Cv (.string (strB c3c)), Rv RdB c3c, Cv (.string (strB c3c)), Cv (.bool true), Cv (.bool true), Rv RdB zero4, Cv (.int .i64 4), Cv (.bool true), Cv (.bool true), Cv (.bool true), Cv (.slice (some ⟨g, 0, none⟩) 4 4), Cv (.slice (some ⟨g + 1, 0, none⟩) 4 4), Cv (.slice (some ⟨g, 0, none⟩) 4 4), Cv (.slice (some ⟨g + 1, 0, none⟩) 4 4), Rv RdB c3c, Rv RdBB [c3a, c3b, c3c], Cv (.bool true), Cv (.bool true), Cv (.bool true), Cv (.slice (some ⟨g, 0, none⟩) 4 4), Rv RdBB [c3a], Cv (.bool false), Cv (.bool true), Cv (.bool true), Cv (.bool true)] (by kernel_rfl) (by kernel_rfl) (by kernel_rfl) ?_ ?_ ?_
  · repeat (first | exact trivial | refine ⟨mC _, ?_⟩ | refine ⟨mR okB _, ?_⟩ | refine ⟨mT, ?_⟩ | refine ⟨mR okBB _, ?_⟩ | refine ⟨mR okBBB _, ?_⟩)
  · simp only [StepsL]
    refine ⟨?_, ?_, ?_, ?_, ?_, ?_, ?_, ?_, ?_, ?_, ?_, ?_, ?_, ?_, ?_, ?_, ?_, ?_, ?_, ?_, ?_, ?_, ?_, ?_, ?_, ?_, ?_, ?_, trivial⟩
    · intro y wx hw hd K hK
      simp only [putL, Act.put, List.setIfInBounds_toArray, List.set_cons_zero, List.set_cons_succ, Nat.zero_add, Nat.reduceAdd] at hK ⊢
      rw [if_pos (by rfl)]
      go_simp
      exact hK _ _ (Below.refl _ _) rfl
    · intro y wx hw hd K hK
      simp only [putL, Act.put, List.setIfInBounds_toArray, List.set_cons_zero, List.set_cons_succ, Nat.zero_add, Nat.reduceAdd] at hK ⊢
      rw [if_pos (by rfl)]
      go_simp
      exact hK _ _ (Below.refl _ _) rfl
    · intro y wx hw hd K hK
      have e0 : y 0 = _ := hd 0 (by decide)
      have e1 : y 1 = _ := hd 1 (by decide)
      simp only [putL, Act.put, List.setIfInBounds_toArray, List.set_cons_zero, List.set_cons_succ, Nat.zero_add, Nat.reduceAdd, e0, e1] at hK ⊢
      rw [if_pos (by rfl)]
      go_simp
      refine (xor_Two c3a c3b _ _ _ _ (okB.grow ha0 hw) (okB.grow hb0 hw) rfl rfl).mono ?_
      rintro e w' ⟨v', rfl, hv', hb'⟩
      exact hK _ _ hb' (hv'.toRd_ ok8)
    · intro y wx hw hd K hK
      have k2 := hd 2 (by decide)
      change (Rv RdB c3c) wx (y 2) at k2
      simp only [putL, Act.put, List.setIfInBounds_toArray, List.set_cons_zero, List.set_cons_succ, Nat.zero_add, Nat.reduceAdd] at hK ⊢
      rw [if_pos (by rfl)]
      have hc := run_conv k2 Try.underlying22 Try.underlying5 Try.underlying9
      go_simp
      exact hK _ _ (Below.refl _ _) rfl
    · intro y wx hw hd K hK
      simp only [putL, Act.put, List.setIfInBounds_toArray, List.set_cons_zero, List.set_cons_succ, Nat.zero_add, Nat.reduceAdd] at hK ⊢
      rw [if_pos (by rfl)]
      go_simp
      exact hK _ _ (below_alloc _ _) (okB.mono (okB.lt (rd_const wx c3c 5 (0, 0) (by decide))) fun _ hk => hk.2)
    · intro y wx hw hd K hK
      have k4 := hd 4 (by decide)
      change (Rv RdB c3c) wx (y 4) at k4
      simp only [putL, Act.put, List.setIfInBounds_toArray, List.set_cons_zero, List.set_cons_succ, Nat.zero_add, Nat.reduceAdd] at hK ⊢
      rw [if_pos (by rfl)]
      have hc := run_conv k4 Try.underlying22 Try.underlying5 Try.underlying9
      go_simp
      exact hK _ _ (Below.refl _ _) rfl
    · intro y wx hw hd K hK
      have e3 : y 3 = _ := hd 3 (by decide)
      have e5 : y 5 = _ := hd 5 (by decide)
      simp only [putL, Act.put, List.setIfInBounds_toArray, List.set_cons_zero, List.set_cons_succ, Nat.zero_add, Nat.reduceAdd, e3, e5] at hK ⊢
      rw [if_pos (by rfl)]
      go_simp
      exact hK _ _ (Below.refl _ _) rfl
    · intro y wx hw hd K hK
      have e6 : y 6 = _ := hd 6 (by decide)
      simp only [putL, Act.put, List.setIfInBounds_toArray, List.set_cons_zero, List.set_cons_succ, Nat.zero_add, Nat.reduceAdd, e6] at hK ⊢
      rw [if_pos (by rfl)]
      go_simp
      exact hK _ _ (Below.refl _ _) rfl
    · intro y wx hw hd K hK
      have e7 : y 7 = _ := hd 7 (by decide)
      simp only [putL, Act.put, List.setIfInBounds_toArray, List.set_cons_zero, List.set_cons_succ, Nat.zero_add, Nat.reduceAdd, e7] at hK ⊢
      rw [if_pos (by rfl)]
      go_simp
      refine (xor_All [] _ (fun _ => True) _ (RdL.nil_ _ _ _ _ _ (by decide)) (fun _ h => by cases h)).mono ?_
      rintro e w' ⟨v', rfl, hv', hb'⟩
      exact hK _ _ hb' (hv'.toRd_ ok8)
    · intro y wx hw hd K hK
      have e7 : y 7 = _ := hd 7 (by decide)
      have k8 := hd 8 (by decide)
      change (Rv RdB zero4) wx (y 8) at k8
      simp only [putL, Act.put, List.setIfInBounds_toArray, List.set_cons_zero, List.set_cons_succ, Nat.zero_add, Nat.reduceAdd, e7] at hK ⊢
      rw [if_pos (by rfl)]
      obtain ⟨A, c, hy, _, _⟩ := k8.shape
      simp only [hy, show zero4.length = 4 from rfl] at hK ⊢
      go_simp
      exact hK _ _ (Below.refl _ _) rfl
    · intro y wx hw hd K hK
      have e7 : y 7 = _ := hd 7 (by decide)
      have e9 : y 9 = _ := hd 9 (by decide)
      simp only [putL, Act.put, List.setIfInBounds_toArray, List.set_cons_zero, List.set_cons_succ, Nat.zero_add, Nat.reduceAdd, e7, e9] at hK ⊢
      rw [if_pos (by rfl)]
      go_simp
      exact hK _ _ (Below.refl _ _) rfl
    · intro y wx hw hd K hK
      have e7 : y 7 = _ := hd 7 (by decide)
      have e10 : y 10 = _ := hd 10 (by decide)
      simp only [putL, Act.put, List.setIfInBounds_toArray, List.set_cons_zero, List.set_cons_succ, Nat.zero_add, Nat.reduceAdd, e7, e10] at hK ⊢
      rw [if_pos (by rfl)]
      go_simp
      exact hK _ _ (Below.refl _ _) rfl
    · intro y wx hw hd K hK
      have e11 : y 11 = _ := hd 11 (by decide)
      simp only [putL, Act.put, List.setIfInBounds_toArray, List.set_cons_zero, List.set_cons_succ, Nat.zero_add, Nat.reduceAdd, e11] at hK ⊢
      rw [if_pos (by rfl)]
      go_simp
      exact hK _ _ (Below.refl _ _) rfl
    · intro y wx hw hd K hK
      have e12 : y 12 = _ := hd 12 (by decide)
      simp only [putL, Act.put, List.setIfInBounds_toArray, List.set_cons_zero, List.set_cons_succ, Nat.zero_add, Nat.reduceAdd, e12] at hK ⊢
      rw [if_pos (by rfl)]
      go_simp
      exact hK _ _ (Below.refl _ _) rfl
    · intro y wx hw hd K hK
      have e12 : y 12 = _ := hd 12 (by decide)
      simp only [putL, Act.put, List.setIfInBounds_toArray, List.set_cons_zero, List.set_cons_succ, Nat.zero_add, Nat.reduceAdd, e12] at hK ⊢
      rw [if_pos (by rfl)]
      go_simp
      exact hK _ _ (Below.refl _ _) rfl
    · intro y wx hw hd K hK
      have e12 : y 12 = _ := hd 12 (by decide)
      simp only [putL, Act.put, List.setIfInBounds_toArray, List.set_cons_zero, List.set_cons_succ, Nat.zero_add, Nat.reduceAdd, e12] at hK ⊢
      rw [if_pos (by rfl)]
      go_simp
      exact hK _ _ (Below.refl _ _) rfl
    · intro y wx hw hd K hK
      have e12 : y 12 = _ := hd 12 (by decide)
      simp only [putL, Act.put, List.setIfInBounds_toArray, List.set_cons_zero, List.set_cons_succ, Nat.zero_add, Nat.reduceAdd, e12] at hK ⊢
      rw [if_pos (by rfl)]
      go_simp
      exact hK _ _ (Below.refl _ _) rfl
    · intro y wx hw hd K hK
      have e12 : y 12 = _ := hd 12 (by decide)
      have e15 : y 15 = _ := hd 15 (by decide)
      have e16 : y 16 = _ := hd 16 (by decide)
      simp only [putL, Act.put, List.setIfInBounds_toArray, List.set_cons_zero, List.set_cons_succ, Nat.zero_add, Nat.reduceAdd, e12, e15, e16] at hK ⊢
      rw [if_pos (by rfl)]
      go_simp
      refine (xor_Two c3a c3b _ _ _ _ (okB.grow ha0 hw) (okB.grow hb0 hw) rfl rfl).mono ?_
      rintro e w' ⟨v', rfl, hv', hb'⟩
      exact hK _ _ hb' (hv'.toRd_ ok8)
    · intro y wx hw hd K hK
      have e12 : y 12 = _ := hd 12 (by decide)
      have e13 : y 13 = _ := hd 13 (by decide)
      have e14 : y 14 = _ := hd 14 (by decide)
      have k17 := hd 17 (by decide)
      change (Rv RdB c3c) wx (y 17) at k17
      simp only [putL, Act.put, List.setIfInBounds_toArray, List.set_cons_zero, List.set_cons_succ, Nat.zero_add, Nat.reduceAdd, e12, e13, e14] at hK ⊢
      rw [if_pos (by rfl)]
      obtain ⟨A, c, hy, _, _⟩ := k17.shape
      simp only [hy] at hK ⊢
      rw [hy] at k17
      go_simp
      exact hK _ _ (below_alloc _ _) ((okBB).mono ((okBB).lt (RdL.three_ okB (okB.grow ha0 hw) (okB.grow hb0 hw) (okB.mono k17 fun _ _ => trivial) _ trivial)) fun _ hk => hk.2)
    · intro y wx hw hd K hK
      have e12 : y 12 = _ := hd 12 (by decide)
      have k18 := hd 18 (by decide)
      change (Rv RdBB [c3a, c3b, c3c]) wx (y 18) at k18
      simp only [putL, Act.put, List.setIfInBounds_toArray, List.set_cons_zero, List.set_cons_succ, Nat.zero_add, Nat.reduceAdd, e12] at hK ⊢
      rw [if_pos (by rfl)]
      go_simp
      refine (xor_Even _ _ _ _ k18 (by unfold Blocks4; decide)).mono ?_
      rintro e w' ⟨rfl, hb'⟩
      exact hK _ _ hb' rfl
    · intro y wx hw hd K hK
      have e12 : y 12 = _ := hd 12 (by decide)
      have e19 : y 19 = _ := hd 19 (by decide)
      simp only [putL, Act.put, List.setIfInBounds_toArray, List.set_cons_zero, List.set_cons_succ, Nat.zero_add, Nat.reduceAdd, e12, e19] at hK ⊢
      rw [if_pos (by rfl)]
      go_simp
      exact hK _ _ (Below.refl _ _) rfl
    · intro y wx hw hd K hK
      have e20 : y 20 = _ := hd 20 (by decide)
      simp only [putL, Act.put, List.setIfInBounds_toArray, List.set_cons_zero, List.set_cons_succ, Nat.zero_add, Nat.reduceAdd, e20] at hK ⊢
      rw [if_pos (by rfl)]
      go_simp
      exact hK _ _ (Below.refl _ _) rfl
    · intro y wx hw hd K hK
      have e21 : y 21 = _ := hd 21 (by decide)
      simp only [putL, Act.put, List.setIfInBounds_toArray, List.set_cons_zero, List.set_cons_succ, Nat.zero_add, Nat.reduceAdd, e21] at hK ⊢
      rw [if_pos (by rfl)]
      go_simp
      exact hK _ _ (Below.refl _ _) rfl
    · intro y wx hw hd K hK
      have e21 : y 21 = _ := hd 21 (by decide)
      have e22 : y 22 = _ := hd 22 (by decide)
      simp only [putL, Act.put, List.setIfInBounds_toArray, List.set_cons_zero, List.set_cons_succ, Nat.zero_add, Nat.reduceAdd, e21, e22] at hK ⊢
      rw [if_pos (by rfl)]
      go_simp
      exact hK _ _ (below_alloc _ _) ((okBB).mono ((okBB).lt (RdL.one_ okB (okB.grow ha0 hw) _ trivial)) fun _ hk => hk.2)
    · intro y wx hw hd K hK
      have e21 : y 21 = _ := hd 21 (by decide)
      have k23 := hd 23 (by decide)
      change (Rv RdBB [c3a]) wx (y 23) at k23
      simp only [putL, Act.put, List.setIfInBounds_toArray, List.set_cons_zero, List.set_cons_succ, Nat.zero_add, Nat.reduceAdd, e21] at hK ⊢
      rw [if_pos (by rfl)]
      go_simp
      refine (xor_Even _ _ _ _ k23 (by unfold Blocks4; decide)).mono ?_
      rintro e w' ⟨rfl, hb'⟩
      exact hK _ _ hb' rfl
    · intro y wx hw hd K hK
      have e21 : y 21 = _ := hd 21 (by decide)
      have e24 : y 24 = _ := hd 24 (by decide)
      simp only [putL, Act.put, List.setIfInBounds_toArray, List.set_cons_zero, List.set_cons_succ, Nat.zero_add, Nat.reduceAdd, e21, e24] at hK ⊢
      rw [if_pos (by rfl)]
      go_simp
      exact hK _ _ (Below.refl _ _) rfl
    · intro y wx hw hd K hK
      have e21 : y 21 = _ := hd 21 (by decide)
      have e25 : y 25 = _ := hd 25 (by decide)
      simp only [putL, Act.put, List.setIfInBounds_toArray, List.set_cons_zero, List.set_cons_succ, Nat.zero_add, Nat.reduceAdd, e21, e25] at hK ⊢
      rw [if_pos (by rfl)]
      go_simp
      exact hK _ _ (Below.refl _ _) rfl
    · intro y wx hw hd K hK
      have e26 : y 26 = _ := hd 26 (by decide)
      simp only [putL, Act.put, List.setIfInBounds_toArray, List.set_cons_zero, List.set_cons_succ, Nat.zero_add, Nat.reduceAdd, e26] at hK ⊢
      rw [if_pos (by rfl)]
      go_simp
      exact hK _ _ (Below.refl _ _) rfl
  · intro y w' hl' hV
    have e27 : y 27 = _ := hV 27 (by decide)
    clear hV
    simp only [putL, Act.put, List.setIfInBounds_toArray, List.set_cons_zero, List.set_cons_succ, Nat.zero_add, Nat.reduceAdd, e27]
    clear e27
    go_wp2
    go_ret
    have hg := HG.out
    subst hg
    exact ⟨rfl, hl0.trans (hl'.mono hl0.size)⟩
end Go.Proofs.Ytobhkdobocjoeaa
