/- Chapter 3: XorSame holds for every input: the call returns true, and each argument reads behind it as it read before. -/
import Derived.Test.YtobhkdobocjoeaaL3
import Derived.Test.YtobhkdobocjoeaaOpen
namespace Go.Proofs.Ytobhkdobocjoeaa
open Go Go.RowKit M

set_option maxHeartbeats 1600000 in
theorem xorSame_walk (l : List Bs) (v : Value) (a : Bs) (va : Value) (b : Bs) (vb : Value) (w : World) (h : RdBB w (fun _ => True) v l) (ha : RdB w (fun _ => True) va a) (hb : RdB w (fun _ => True) vb b) :
    Calls Try.prog 6 #[v, va, vb] w fun e w' => e = .returned (.bool true) ∧ Below w.heap.size w w' := by
  obtain ⟨Al, cl, rfl, _, _⟩ := h.shape
  obtain ⟨Aa, ca, rfl, _, _⟩ := ha.shape
  obtain ⟨Ab, cb, rfl, _, _⟩ := hb.shape
  go_enter Try.func6, Try.ntmps6
  go_wp2_with fail
  refine (law3_alive w).mono ?_
  rintro e w1 ⟨rfl, hl0⟩
  replace h := okBB.grow h hl0
  replace ha := okB.grow ha hl0
  replace hb := okB.grow hb hl0
  by_cases hr : rightB l = true
  rotate_left
  · have hr' : rightB l = false := by simpa using hr
    go_wp2_with fail
    refine (law3_right l _ _ _ h).mono ?_
    rintro e w1 ⟨rfl, rfl⟩
    rw [hr']
    clear hr hr' h ha hb
    go_wp2
    go_ret
    exact ⟨rfl, hl0⟩
  have hab2 : RdBB (w1.alloc (.cells #[.slice Aa a.length ca, .slice Ab b.length cb] 22)) (fun _ => True) (.slice (some ⟨w1.heap.size, 0, none⟩) 2 2) [a, b] := RdL.two_ okB ha hb _ trivial
  have hl1 := below_alloc w1 (.cells #[.slice Aa a.length ca, .slice Ab b.length cb] 22)
  by_cases hab : rightB [a, b] = true
  rotate_left
  · have hab' : rightB [a, b] = false := by simpa using hab
    have HR := Lib.hid hr
    have HAB := Lib.hid hab'
    clear hr hab hab'
    go_wp2_with fail
    refine (law3_right l _ _ _ h).mono ?_
    rintro e w2 ⟨rfl, rfl⟩
    rw [HR.out]
    go_wp2_with fail
    refine (law3_right [a, b] _ _ _ hab2).mono ?_
    rintro e w2 ⟨rfl, rfl⟩
    rw [HAB.out]
    replace hl0 := hl0.trans (hl1.mono hl0.size)
    clear h ha hb hab2 hl1
    go_wp2
    go_ret
    exact ⟨rfl, hl0⟩
  obtain ⟨hl4, hl50⟩ := rightB_blocks hr
  obtain ⟨hab4, _⟩ := rightB_blocks hab
  have la : a.length = 4 := hab4 a (by simp)
  have lb : b.length = 4 := hab4 b (by simp)
  have HR := Lib.hid hr
  have HAB := Lib.hid hab
  have LA := Lib.hid la
  have LB := Lib.hid lb
  clear hr hab la lb
  go_wp2_with fail
  refine (law3_right l _ _ _ h).mono ?_
  rintro e w2 ⟨rfl, rfl⟩
  rw [HR.out]
  go_wp2_with fail
  refine (law3_right [a, b] _ _ _ hab2).mono ?_
  rintro e w2 ⟨rfl, rfl⟩
  rw [HAB.out]
  replace hl0 := hl0.trans (hl1.mono hl0.size)
  replace h := okBB.grow h hl1
  replace ha := okB.grow ha hl1
  replace hb := okB.grow hb hl1
  clear hab2
  have hsz : (w1.alloc (.cells #[.slice Aa a.length ca, .slice Ab b.length cb] 22)).heap.size = w1.heap.size + 1 := by simp
  generalize hw2 : w1.alloc (.cells #[.slice Aa a.length ca, .slice Ab b.length cb] 22) = w2 at *
  clear hw2 hl1 hsz
  have hown : Bld RdB 22 (w2.alloc (.cells #[.slice Aa a.length ca] 22)) w2.heap.size (fun _ => True) (.slice (some ⟨w2.heap.size, 0, none⟩) 1 1) [a] :=
    Bld.one_ okB ha 22 (Nat.le_refl _)
  have hsrc := okBB.old h (below_alloc w2 (.cells #[.slice Aa a.length ca] 22)) (G := fun k => some k ≠ Value.ownBlock (.slice (some ⟨w2.heap.size, 0, none⟩) 1 1) ∧ True) (by simp [Value.ownBlock]; omega)
  go_wp2_with (at_builtin; refine wpList_append_bld _ rfl _ _ 28 rfl okB slBB w2.heap.size (fun _ => True) _ _ [a] l rfl rfl hown hsrc ?c1 ?c2 ?c3)
  case c1 => simp; omega
  case c2 => simp
  case c3 =>
  intro v3 w3 hv3 hl3 hg3 _
  replace hl3 := (below_alloc w2 (.cells #[.slice Aa a.length ca] 22)).trans hl3
  clear hown hsrc hg3
  have hs3 := hl3.size
  have hold := fun k (hk : v3.ownBlock = some k) => hv3.blk k hk
  have hna : ∀ k, k < w2.heap.size → (some k ≠ v3.ownBlock ∧ True) := fun k hk => ⟨fun e => by have := (hold k e.symm).1; omega, trivial⟩
  have ha3 := okB.old ha hl3 (G := fun k => some k ≠ v3.ownBlock ∧ True) (fun k _ hk => hna k hk)
  have hsrc3 := RdL.one_ okB ha3 22 (w := w3) ⟨fun e => by have := (hold _ e.symm).2; omega, trivial⟩
  have hv3' := hv3.alloc okB (.cells #[.slice Aa a.length ca] 22)
  clear hold hna ha3 hv3
  go_wp2_with (at_builtin; refine wpList_append_bld _ rfl _ _ 28 rfl okB slBB w2.heap.size (fun _ => True) _ _ _ [a] rfl rfl hv3' hsrc3 ?c1 ?c2 ?c3)
  case c1 => simp; omega
  case c2 => simp; omega
  case c3 =>
  intro v4 w4 hv4 hl4' hg4 _
  replace hl4' := hl3.trans (((below_alloc w3 (.cells #[.slice Aa a.length ca] 22)).mono hs3).trans hl4')
  have hr4 := hv4.toRd_ okB
  have htw := xorAll_twice (l := l) LA.out
  have hb4 : Blocks4 ([a] ++ l ++ [a]) := fun x hx => by
    simp at hx
    rcases hx with rfl | hx | rfl
    · exact LA.out
    · exact hl4 x hx
    · exact LA.out
  have HT := Lib.hid htw
  clear hsrc3 hv3' hg4 hv4 htw
  go_wp2_with fail
  refine (xor_All _ _ _ _ hr4 hb4).mono ?_
  rintro e w5 ⟨v7, rfl, hv7, hb7⟩
  replace hl0 := hl0.trans ((hl4'.trans (hb7.mono hl4'.size)).mono hl0.size)
  have hl5 := hl4'.trans (hb7.mono hl4'.size)
  replace h := okBB.grow h hl5
  replace ha := okB.grow ha hl5
  replace hb := okB.grow hb hl5
  have h7 := hv7.toRd_ ok8
  have HT' : xorAll (a :: (l ++ [a])) = xorAll l := HT.out
  rw [HT'] at h7
  clear HT'
  clear hv7 hb7 hl5 hl4' hl3 hs3 hr4 hb4 HT
  go_wp2_with fail
  refine region_list [Cv (v7), Cv (.string (strB (xorAll l))), Cv (.slice Al l.length cl), Rv RdB (xorAll l), Cv (.string (strB (xorAll l))), Cv (.bool true), Cv (.bool true), Cv (.slice Aa a.length ca), Cv (.slice Ab b.length cb), Rv RdB (xorTwo a b), Cv (.string (strB (xorTwo a b))), Cv (.slice Ab b.length cb), Cv (.slice Aa a.length ca), Rv RdB (xorTwo b a), Cv (.string (strB (xorTwo b a))), Cv (.bool true), Cv (.bool true), Cv (.bool true), Cv (.slice Aa a.length ca), Cv (.slice Ab b.length cb), Rv RdB (xorTwo a b), Cv (.slice Ab b.length cb), Rv RdB (xorTwo (xorTwo a b) b), Cv (.string (strB (xorTwo (xorTwo a b) b))), Cv (.slice Aa a.length ca), Cv (.string (strB a)), Cv (.bool true), Cv (.bool true), Cv (.bool true)] (by kernel_rfl) (by kernel_rfl) (by kernel_rfl) ?_ ?_ ?_
  · repeat (first | exact trivial | refine ⟨mC _, ?_⟩ | refine ⟨mR okB _, ?_⟩ | refine ⟨mT, ?_⟩ | refine ⟨mR okBB _, ?_⟩ | refine ⟨mR okBBB _, ?_⟩)
  · simp only [StepsL]
    refine ⟨?_, ?_, ?_, ?_, ?_, ?_, ?_, ?_, ?_, ?_, ?_, ?_, ?_, ?_, ?_, ?_, ?_, ?_, ?_, ?_, ?_, ?_, ?_, ?_, ?_, ?_, ?_, ?_, ?_, trivial⟩
    · intro y wx hw hd K hK
      simp only [putL, Act.put, List.setIfInBounds_toArray, List.set_cons_zero, List.set_cons_succ, Nat.zero_add, Nat.reduceAdd] at hK ⊢
      rw [if_pos (by rfl)]
      go_simp
      exact hK _ _ (Below.refl _ _) rfl
    · intro y wx hw hd K hK
      have e0 : y 0 = _ := hd 0 (by decide)
      simp only [putL, Act.put, List.setIfInBounds_toArray, List.set_cons_zero, List.set_cons_succ, Nat.zero_add, Nat.reduceAdd, e0] at hK ⊢
      rw [if_pos (by rfl)]
      have hc := run_conv (okB.grow h7 hw) Try.underlying22 Try.underlying5 Try.underlying9
      go_simp
      exact hK _ _ (Below.refl _ _) rfl
    · intro y wx hw hd K hK
      simp only [putL, Act.put, List.setIfInBounds_toArray, List.set_cons_zero, List.set_cons_succ, Nat.zero_add, Nat.reduceAdd] at hK ⊢
      rw [if_pos (by rfl)]
      go_simp
      exact hK _ _ (Below.refl _ _) rfl
    · intro y wx hw hd K hK
      have e2 : y 2 = _ := hd 2 (by decide)
      simp only [putL, Act.put, List.setIfInBounds_toArray, List.set_cons_zero, List.set_cons_succ, Nat.zero_add, Nat.reduceAdd, e2] at hK ⊢
      rw [if_pos (by rfl)]
      go_simp
      refine (xor_All l _ _ _ (okBB.grow h hw) hl4).mono ?_
      rintro e w' ⟨v', rfl, hv', hb'⟩
      exact hK _ _ hb' (hv'.toRd_ ok8)
    · intro y wx hw hd K hK
      have k3 := hd 3 (by decide)
      change (Rv RdB (xorAll l)) wx (y 3) at k3
      simp only [putL, Act.put, List.setIfInBounds_toArray, List.set_cons_zero, List.set_cons_succ, Nat.zero_add, Nat.reduceAdd] at hK ⊢
      rw [if_pos (by rfl)]
      have hc := run_conv k3 Try.underlying22 Try.underlying5 Try.underlying9
      go_simp
      exact hK _ _ (Below.refl _ _) rfl
    · intro y wx hw hd K hK
      have e1 : y 1 = _ := hd 1 (by decide)
      have e4 : y 4 = _ := hd 4 (by decide)
      simp only [putL, Act.put, List.setIfInBounds_toArray, List.set_cons_zero, List.set_cons_succ, Nat.zero_add, Nat.reduceAdd, e1, e4] at hK ⊢
      rw [if_pos (by rfl)]
      go_simp
      exact hK _ _ (Below.refl _ _) rfl
    · intro y wx hw hd K hK
      have e5 : y 5 = _ := hd 5 (by decide)
      simp only [putL, Act.put, List.setIfInBounds_toArray, List.set_cons_zero, List.set_cons_succ, Nat.zero_add, Nat.reduceAdd, e5] at hK ⊢
      rw [if_pos (by rfl)]
      go_simp
      exact hK _ _ (Below.refl _ _) rfl
    · intro y wx hw hd K hK
      have e6 : y 6 = _ := hd 6 (by decide)
      simp only [putL, Act.put, List.setIfInBounds_toArray, List.set_cons_zero, List.set_cons_succ, Nat.zero_add, Nat.reduceAdd, e6] at hK ⊢
      rw [if_pos (by rfl)]
      go_simp
      exact hK _ _ (Below.refl _ _) rfl
    · intro y wx hw hd K hK
      have e6 : y 6 = _ := hd 6 (by decide)
      simp only [putL, Act.put, List.setIfInBounds_toArray, List.set_cons_zero, List.set_cons_succ, Nat.zero_add, Nat.reduceAdd, e6] at hK ⊢
      rw [if_pos (by rfl)]
      go_simp
      exact hK _ _ (Below.refl _ _) rfl
    · intro y wx hw hd K hK
      have e6 : y 6 = _ := hd 6 (by decide)
      have e7 : y 7 = _ := hd 7 (by decide)
      have e8 : y 8 = _ := hd 8 (by decide)
      simp only [putL, Act.put, List.setIfInBounds_toArray, List.set_cons_zero, List.set_cons_succ, Nat.zero_add, Nat.reduceAdd, e6, e7, e8] at hK ⊢
      rw [if_pos (by rfl)]
      go_simp
      refine (xor_Two a b _ _ _ _ (okB.grow ha hw) (okB.grow hb hw) LA.out LB.out).mono ?_
      rintro e w' ⟨v', rfl, hv', hb'⟩
      exact hK _ _ hb' (hv'.toRd_ ok8)
    · intro y wx hw hd K hK
      have e6 : y 6 = _ := hd 6 (by decide)
      have k9 := hd 9 (by decide)
      change (Rv RdB (xorTwo a b)) wx (y 9) at k9
      simp only [putL, Act.put, List.setIfInBounds_toArray, List.set_cons_zero, List.set_cons_succ, Nat.zero_add, Nat.reduceAdd, e6] at hK ⊢
      rw [if_pos (by rfl)]
      have hc := run_conv k9 Try.underlying22 Try.underlying5 Try.underlying9
      go_simp
      exact hK _ _ (Below.refl _ _) rfl
    · intro y wx hw hd K hK
      have e6 : y 6 = _ := hd 6 (by decide)
      simp only [putL, Act.put, List.setIfInBounds_toArray, List.set_cons_zero, List.set_cons_succ, Nat.zero_add, Nat.reduceAdd, e6] at hK ⊢
      rw [if_pos (by rfl)]
      go_simp
      exact hK _ _ (Below.refl _ _) rfl
    · intro y wx hw hd K hK
      have e6 : y 6 = _ := hd 6 (by decide)
      simp only [putL, Act.put, List.setIfInBounds_toArray, List.set_cons_zero, List.set_cons_succ, Nat.zero_add, Nat.reduceAdd, e6] at hK ⊢
      rw [if_pos (by rfl)]
      go_simp
      exact hK _ _ (Below.refl _ _) rfl
    · intro y wx hw hd K hK
      have e6 : y 6 = _ := hd 6 (by decide)
      have e11 : y 11 = _ := hd 11 (by decide)
      have e12 : y 12 = _ := hd 12 (by decide)
      simp only [putL, Act.put, List.setIfInBounds_toArray, List.set_cons_zero, List.set_cons_succ, Nat.zero_add, Nat.reduceAdd, e6, e11, e12] at hK ⊢
      rw [if_pos (by rfl)]
      go_simp
      refine (xor_Two b a _ _ _ _ (okB.grow hb hw) (okB.grow ha hw) LB.out LA.out).mono ?_
      rintro e w' ⟨v', rfl, hv', hb'⟩
      exact hK _ _ hb' (hv'.toRd_ ok8)
    · intro y wx hw hd K hK
      have e6 : y 6 = _ := hd 6 (by decide)
      have k13 := hd 13 (by decide)
      change (Rv RdB (xorTwo b a)) wx (y 13) at k13
      simp only [putL, Act.put, List.setIfInBounds_toArray, List.set_cons_zero, List.set_cons_succ, Nat.zero_add, Nat.reduceAdd, e6] at hK ⊢
      rw [if_pos (by rfl)]
      have hc := run_conv k13 Try.underlying22 Try.underlying5 Try.underlying9
      go_simp
      exact hK _ _ (Below.refl _ _) rfl
    · intro y wx hw hd K hK
      have e6 : y 6 = _ := hd 6 (by decide)
      have e10 : y 10 = _ := hd 10 (by decide)
      have e14 : y 14 = _ := hd 14 (by decide)
      simp only [putL, Act.put, List.setIfInBounds_toArray, List.set_cons_zero, List.set_cons_succ, Nat.zero_add, Nat.reduceAdd, e6, e10, e14] at hK ⊢
      rw [if_pos (by rfl)]
      go_simp
      exact hK _ _ (Below.refl _ _) (by rw [xorTwo_comm b a]; simp; rfl)
    · intro y wx hw hd K hK
      have e6 : y 6 = _ := hd 6 (by decide)
      have e15 : y 15 = _ := hd 15 (by decide)
      simp only [putL, Act.put, List.setIfInBounds_toArray, List.set_cons_zero, List.set_cons_succ, Nat.zero_add, Nat.reduceAdd, e6, e15] at hK ⊢
      rw [if_pos (by rfl)]
      go_simp
      exact hK _ _ (Below.refl _ _) rfl
    · intro y wx hw hd K hK
      have e16 : y 16 = _ := hd 16 (by decide)
      simp only [putL, Act.put, List.setIfInBounds_toArray, List.set_cons_zero, List.set_cons_succ, Nat.zero_add, Nat.reduceAdd, e16] at hK ⊢
      rw [if_pos (by rfl)]
      go_simp
      exact hK _ _ (Below.refl _ _) rfl
    · intro y wx hw hd K hK
      have e17 : y 17 = _ := hd 17 (by decide)
      simp only [putL, Act.put, List.setIfInBounds_toArray, List.set_cons_zero, List.set_cons_succ, Nat.zero_add, Nat.reduceAdd, e17] at hK ⊢
      rw [if_pos (by rfl)]
      go_simp
      exact hK _ _ (Below.refl _ _) rfl
    · intro y wx hw hd K hK
      have e17 : y 17 = _ := hd 17 (by decide)
      simp only [putL, Act.put, List.setIfInBounds_toArray, List.set_cons_zero, List.set_cons_succ, Nat.zero_add, Nat.reduceAdd, e17] at hK ⊢
      rw [if_pos (by rfl)]
      go_simp
      exact hK _ _ (Below.refl _ _) rfl
    · intro y wx hw hd K hK
      have e17 : y 17 = _ := hd 17 (by decide)
      have e18 : y 18 = _ := hd 18 (by decide)
      have e19 : y 19 = _ := hd 19 (by decide)
      simp only [putL, Act.put, List.setIfInBounds_toArray, List.set_cons_zero, List.set_cons_succ, Nat.zero_add, Nat.reduceAdd, e17, e18, e19] at hK ⊢
      rw [if_pos (by rfl)]
      go_simp
      refine (xor_Two a b _ _ _ _ (okB.grow ha hw) (okB.grow hb hw) LA.out LB.out).mono ?_
      rintro e w' ⟨v', rfl, hv', hb'⟩
      exact hK _ _ hb' (hv'.toRd_ ok8)
    · intro y wx hw hd K hK
      have e17 : y 17 = _ := hd 17 (by decide)
      simp only [putL, Act.put, List.setIfInBounds_toArray, List.set_cons_zero, List.set_cons_succ, Nat.zero_add, Nat.reduceAdd, e17] at hK ⊢
      rw [if_pos (by rfl)]
      go_simp
      exact hK _ _ (Below.refl _ _) rfl
    · intro y wx hw hd K hK
      have e17 : y 17 = _ := hd 17 (by decide)
      have k20 := hd 20 (by decide)
      change (Rv RdB (xorTwo a b)) wx (y 20) at k20
      have e21 : y 21 = _ := hd 21 (by decide)
      simp only [putL, Act.put, List.setIfInBounds_toArray, List.set_cons_zero, List.set_cons_succ, Nat.zero_add, Nat.reduceAdd, e17, e21] at hK ⊢
      rw [if_pos (by rfl)]
      go_simp
      refine (xor_Two (xorTwo a b) b _ _ (fun _ => True) _ (okB.mono k20 fun _ _ => trivial) (okB.mono (okB.grow hb hw) fun _ _ => trivial) (xorTwo_length _ _) LB.out).mono ?_
      rintro e w' ⟨v', rfl, hv', hb'⟩
      exact hK _ _ hb' (hv'.toRd_ ok8)
    · intro y wx hw hd K hK
      have e17 : y 17 = _ := hd 17 (by decide)
      have k22 := hd 22 (by decide)
      change (Rv RdB (xorTwo (xorTwo a b) b)) wx (y 22) at k22
      simp only [putL, Act.put, List.setIfInBounds_toArray, List.set_cons_zero, List.set_cons_succ, Nat.zero_add, Nat.reduceAdd, e17] at hK ⊢
      rw [if_pos (by rfl)]
      have hc := run_conv k22 Try.underlying22 Try.underlying5 Try.underlying9
      go_simp
      exact hK _ _ (Below.refl _ _) rfl
    · intro y wx hw hd K hK
      have e17 : y 17 = _ := hd 17 (by decide)
      simp only [putL, Act.put, List.setIfInBounds_toArray, List.set_cons_zero, List.set_cons_succ, Nat.zero_add, Nat.reduceAdd, e17] at hK ⊢
      rw [if_pos (by rfl)]
      go_simp
      exact hK _ _ (Below.refl _ _) rfl
    · intro y wx hw hd K hK
      have e17 : y 17 = _ := hd 17 (by decide)
      have e24 : y 24 = _ := hd 24 (by decide)
      simp only [putL, Act.put, List.setIfInBounds_toArray, List.set_cons_zero, List.set_cons_succ, Nat.zero_add, Nat.reduceAdd, e17, e24] at hK ⊢
      rw [if_pos (by rfl)]
      have hc := run_conv (okB.grow ha hw) Try.underlying22 Try.underlying5 Try.underlying9
      go_simp
      exact hK _ _ (Below.refl _ _) rfl
    · intro y wx hw hd K hK
      have e17 : y 17 = _ := hd 17 (by decide)
      have e23 : y 23 = _ := hd 23 (by decide)
      have e25 : y 25 = _ := hd 25 (by decide)
      simp only [putL, Act.put, List.setIfInBounds_toArray, List.set_cons_zero, List.set_cons_succ, Nat.zero_add, Nat.reduceAdd, e17, e23, e25] at hK ⊢
      rw [if_pos (by rfl)]
      go_simp
      exact hK _ _ (Below.refl _ _) (by rw [xorTwo_twice LA.out]; simp; rfl)
    · intro y wx hw hd K hK
      have e17 : y 17 = _ := hd 17 (by decide)
      have e26 : y 26 = _ := hd 26 (by decide)
      simp only [putL, Act.put, List.setIfInBounds_toArray, List.set_cons_zero, List.set_cons_succ, Nat.zero_add, Nat.reduceAdd, e17, e26] at hK ⊢
      rw [if_pos (by rfl)]
      go_simp
      exact hK _ _ (Below.refl _ _) rfl
    · intro y wx hw hd K hK
      have e27 : y 27 = _ := hd 27 (by decide)
      simp only [putL, Act.put, List.setIfInBounds_toArray, List.set_cons_zero, List.set_cons_succ, Nat.zero_add, Nat.reduceAdd, e27] at hK ⊢
      rw [if_pos (by rfl)]
      go_simp
      exact hK _ _ (Below.refl _ _) rfl
  · intro y w' hl' hV
    have e28 : y 28 = _ := hV 28 (by decide)
    clear hV
    simp only [putL, Act.put, List.setIfInBounds_toArray, List.set_cons_zero, List.set_cons_succ, Nat.zero_add, Nat.reduceAdd, e28]
    clear e28
    go_wp2
    go_ret
    exact ⟨rfl, hl0.trans (hl'.mono hl0.size)⟩
namespace xorSameDone
open Go.ChangeShapes Go.WideShapes Go.ChangeAt Go.RowKit M
open Go.ChangeMaps (open_string shut_string)
set_option linter.unusedVariables false
set_option maxRecDepth 100000 in
theorem lifted (os : Os) (started : os.Started) (H : Type) (enc : TypeId × Value → H) :
    ReturnsInHanded {} Try.checked os 6 .any (Rows.xorSameSpec.pre6 enc Try.prog Try.f6 Rows.xorSameRow.domain false) (Rows.xorSameSpec.post enc Try.prog Try.f6 false true false false) := by
  refine returnsInHanded_of_change (C := Try.checked) own started (by kernel_rfl) Try.func6
    (ChangeSpec.witness6 (enc := enc) (C := Try.checked) false ⟨#[], #[.slice none 0 0, .slice none 0 0, .slice none 0 0], []⟩ 8 (by kernel_rfl) (by kernel_rfl) (by kernel_rfl) (by kernel_rfl)) ?_
  intro W base args ds gs before hval0 hW hcnd _
  have hval : ∀ (j : Nat) t v, Try.f6.params[j]? = some t → args[j]? = some v → Value.okWide Try.prog W .any base t v := hval0
  have hW' := hW
  obtain ⟨p, q, hA0, hV, rfl, hfz, hnd⟩ := hW
  have hA : DataW.TrodAll enc Try.prog W 0 (fun _ => true) true Try.f6.params.toList args.toList ds p := hA0
  rw [Try.params6] at hA hval
  obtain ⟨v0, vs0, d0, ds0, p0, q0, hargs, rfl, rfl, h0, r0⟩ := trodAll_cons hA
  obtain ⟨v1, vs1, d1, ds1, p1, q1, rfl, rfl, rfl, h1, r1⟩ := trodAll_cons r0
  obtain ⟨v2, vs2, d2, ds2, p2, q2, rfl, rfl, rfl, h2, r2⟩ := trodAll_cons r1
  obtain ⟨rfl, rfl, rfl⟩ := trodAll_nil r2
  obtain rfl : args = #[v0, v1, v2] := by cases args; simp_all
  obtain ⟨rfl, rfl⟩ := trodVars_none hV
  obtain ⟨a0, len0, cap0, rfl⟩ := okWide_slice Try.underlying28 (hval 0 28 v0 rfl rfl)
  have k0 := h0
  have lt0 : ∀ x ∈ p0, x.block < W.heap.size := by obtain ⟨m, hm⟩ := k0; exact DataW.trod_lt m _ _ _ hm
  obtain ⟨fuel0, hf0⟩ := h0
  obtain ⟨b0, w0, l0⟩ := M.open_BB Try.underlying28 (by kernel_rfl) Try.underlying22 Try.underlying5 (by kernel_rfl) hf0
  obtain ⟨a1, len1, cap1, rfl⟩ := okWide_slice Try.underlying22 (hval 1 22 v1 rfl rfl)
  have k1 := h1
  have lt1 : ∀ x ∈ p1, x.block < W.heap.size := by obtain ⟨m, hm⟩ := k1; exact DataW.trod_lt m _ _ _ hm
  obtain ⟨fuel1, hf1⟩ := h1
  obtain ⟨b1, w1, l1⟩ := M.open_B Try.underlying22 Try.underlying5 (by kernel_rfl) hf1
  obtain ⟨a2, len2, cap2, rfl⟩ := okWide_slice Try.underlying22 (hval 2 22 v2 rfl rfl)
  have k2 := h2
  have lt2 : ∀ x ∈ p2, x.block < W.heap.size := by obtain ⟨m, hm⟩ := k2; exact DataW.trod_lt m _ _ _ hm
  obtain ⟨fuel2, hf2⟩ := h2
  obtain ⟨b2, w2, l2⟩ := M.open_B Try.underlying22 Try.underlying5 (by kernel_rfl) hf2
  clear hA0 hval0
  refine (xorSame_walk b0 _ b1 _ b2 _ W w0 w1 w2).mono fun e W' ⟨he, bel⟩ => ?_
  subst he
  exact ⟨_, rfl, _, _, _, [], _, [], hW', trodAll_mk1 (shut_bool Try.underlying4 _), (trodAll_cons_mk (Below.trod laidOut (by kernel_rfl) (of_decide_eq_true (by kernel_rfl)) k0 bel lt0) (trodAll_cons_mk (Below.trod laidOut (by kernel_rfl) (of_decide_eq_true (by kernel_rfl)) k1 bel lt1) (trodAll_cons_mk (Below.trod laidOut (by kernel_rfl) (of_decide_eq_true (by kernel_rfl)) k2 bel lt2) trodAll_mk0))), rfl, bel.frame _, fun h => by cases h⟩
theorem over : Rows.xorSameRow.holds Try.pinned (OpenSpec.ofChange Rows.xorSameSpec) :=
  OpenClaim.holds_of_wide 6 Try.f6 rfl rfl rfl rfl rfl rfl rfl ⟨rfl, rfl, rfl, rfl, rfl⟩ rfl rfl rfl rfl rfl (by kernel_rfl) Try.func6 (by kernel_rfl)
    (of_decide_eq_true (by kernel_rfl)) (by unfold Func.isWrapper; first | (rw [if_pos (by decide +kernel)]; kernel_rfl) | (rw [if_neg (by decide +kernel)]; exact ⟨rfl, rfl⟩))
    (fun os started H enc _ => lifted os started H enc)
/-- The statement. -/
theorem proved : Rows.XorSameSaid := over
end xorSameDone
end Go.Proofs.Ytobhkdobocjoeaa
