/- Chapter 3: XorTells holds for every input: the call returns true, and each argument reads behind it as it read before. -/
import Derived.Test.YtobhkdobocjoeaaL3
import Derived.Test.YtobhkdobocjoeaaOpen
namespace Go.Proofs.Ytobhkdobocjoeaa
open Go Go.RowKit M

set_option maxHeartbeats 1600000 in
theorem xorTells_walk (l : List Bs) (v : Value) (a : Bs) (va : Value) (b : Bs) (vb : Value) (w : World) (h : RdBB w (fun _ => True) v l) (ha : RdB w (fun _ => True) va a) (hb : RdB w (fun _ => True) vb b) :
    Calls Try.prog 5 #[v, va, vb] w fun e w' => e = .returned (.bool true) ∧ Below w.heap.size w w' := by
  obtain ⟨Aa, ca, rfl, _, _⟩ := ha.shape
  obtain ⟨Ab, cb, rfl, _, _⟩ := hb.shape
  by_cases hr : rightB l = true
  rotate_left
  · have hr' : rightB l = false := by simpa using hr
    go_enter Try.func5, Try.ntmps5
    go_wp2_with fail
    refine (law3_right l v _ w h).mono ?_
    rintro e w1 ⟨rfl, rfl⟩
    rw [hr']
    clear hr hr'
    go_wp2
    go_ret
    exact ⟨rfl, Below.refl _ _⟩
  have hab2 : RdBB (w.alloc (.cells #[.slice Aa a.length ca, .slice Ab b.length cb] 22)) (fun _ => True) (.slice (some ⟨w.heap.size, 0, none⟩) 2 2) [a, b] := RdL.two_ okB ha hb _ trivial
  by_cases hab : rightB [a, b] = true
  rotate_left
  · have hab' : rightB [a, b] = false := by simpa using hab
    have HR := Lib.hid hr
    have HAB := Lib.hid hab'
    clear hr hab hab'
    go_enter Try.func5, Try.ntmps5
    go_wp2_with fail
    refine (law3_right l v _ w h).mono ?_
    rintro e w1 ⟨rfl, rfl⟩
    rw [HR.out]
    go_wp2_with fail
    refine (law3_right [a, b] _ _ _ hab2).mono ?_
    rintro e w1 ⟨rfl, rfl⟩
    rw [HAB.out]
    go_wp2
    go_ret
    exact ⟨rfl, below_alloc _ _⟩
  obtain ⟨hl4, _⟩ := rightB_blocks hr
  obtain ⟨hab4, _⟩ := rightB_blocks hab
  have la : a.length = 4 := hab4 a (by simp)
  have lb : b.length = 4 := hab4 b (by simp)
  have hp := xorAll_pair (b := b) la
  have HR := Lib.hid hr
  have HAB := Lib.hid hab
  have HP := Lib.hid hp
  have LA := Lib.hid la
  have LB := Lib.hid lb
  clear hr hab la lb hp
  go_enter Try.func5, Try.ntmps5
  go_wp2_with fail
  refine (law3_right l v _ w h).mono ?_
  rintro e w1 ⟨rfl, rfl⟩
  rw [HR.out]
  go_wp2_with fail
  refine (law3_right [a, b] _ _ _ hab2).mono ?_
  rintro e w1 ⟨rfl, rfl⟩
  rw [HAB.out]
  go_wp2_with fail
  have hl0 := below_alloc w (.cells #[.slice Aa a.length ca, .slice Ab b.length cb] 22)
  refine (ref_Xor l v _ _ (okBB.grow h hl0) hl4).mono ?_
  rintro e w1 ⟨v7, rfl, hv7, hb7⟩
  replace hl0 := hl0.trans (hb7.mono hl0.size)
  replace h := okBB.grow h hl0
  replace ha := okB.grow ha hl0
  replace hb := okB.grow hb hl0
  have h7 := hv7.toRd_ ok8
  clear hv7 hb7 hab2
  go_wp2_with fail
  refine region_list [Cv (.slice Aa a.length ca), Cv (.slice Ab b.length cb), Rv RdB (xorTwo a b), Cv (.string (strB (xorTwo a b))), Cv (.slice Aa a.length ca), Cv (.slice Ab b.length cb), Rv RdBB [a, b], Rv RdB (xorAll [a, b]), Cv (.string (strB (xorAll [a, b]))), Cv (.bool true), Cv (.bool true), Cv (v), Rv RdB (xorAll l), Cv (.string (strB (xorAll l))), Cv (v7), Cv (.string (strB (xorAll l))), Cv (.bool true), Cv (.bool true), Cv (.bool true), Cv (v), Cv (.bool (xorAll l == zero4)), Cv (v7), Cv (.string (strB (xorAll l))), Rv RdB zero4, Cv (.string (strB zero4)), Cv (.bool (xorAll l == zero4)), Cv (.bool true), Cv (.bool true), Cv (.bool true)] (by kernel_rfl) (by kernel_rfl) (by kernel_rfl) ?_ ?_ ?_
  · repeat (first | exact trivial | refine ⟨mC _, ?_⟩ | refine ⟨mR okB _, ?_⟩ | refine ⟨mT, ?_⟩ | refine ⟨mR okBB _, ?_⟩ | refine ⟨mR okBBB _, ?_⟩)
  · simp only [StepsL]
    refine ⟨?_, ?_, ?_, ?_, ?_, ?_, ?_, ?_, ?_, ?_, ?_, ?_, ?_, ?_, ?_, ?_, ?_, ?_, ?_, ?_, ?_, ?_, ?_, ?_, ?_, ?_, ?_, ?_, ?_, trivial⟩
    · intro y wx hw hd K hK
      simp only [putL, Act.put, List.setIfInBounds_toArray, List.set_cons_zero, List.set_cons_succ, Nat.zero_add, Nat.reduceAdd] at hK ⊢
      rw [if_pos (by rfl)]
      go_simp
      exact hK _ _ (Below.refl _ _) rfl
    · intro y wx hw hd K hK
      simp only [putL, Act.put, List.setIfInBounds_toArray, List.set_cons_zero, List.set_cons_succ, Nat.zero_add, Nat.reduceAdd] at hK ⊢
      rw [if_pos (by rfl)]
      go_simp
      exact hK _ _ (Below.refl _ _) rfl
    · intro y wx hw hd K hK
      have e0 : y 0 = _ := hd 0 (by decide)
      have e1 : y 1 = _ := hd 1 (by decide)
      simp only [putL, Act.put, List.setIfInBounds_toArray, List.set_cons_zero, List.set_cons_succ, Nat.zero_add, Nat.reduceAdd, e0, e1] at hK ⊢
      rw [if_pos (by rfl)]
      go_simp
      refine (xor_Two a b _ _ _ _ (okB.grow ha hw) (okB.grow hb hw) LA.out LB.out).mono ?_
      rintro e w' ⟨v', rfl, hv', hb'⟩
      exact hK _ _ hb' (hv'.toRd_ ok8)
    · intro y wx hw hd K hK
      have k2 := hd 2 (by decide)
      change (Rv RdB (xorTwo a b)) wx (y 2) at k2
      simp only [putL, Act.put, List.setIfInBounds_toArray, List.set_cons_zero, List.set_cons_succ, Nat.zero_add, Nat.reduceAdd] at hK ⊢
      rw [if_pos (by rfl)]
      have hc := run_conv k2 Try.underlying22 Try.underlying5 Try.underlying9
      go_simp
      exact hK _ _ (Below.refl _ _) rfl
    · intro y wx hw hd K hK
      simp only [putL, Act.put, List.setIfInBounds_toArray, List.set_cons_zero, List.set_cons_succ, Nat.zero_add, Nat.reduceAdd] at hK ⊢
      rw [if_pos (by rfl)]
      go_simp
      exact hK _ _ (Below.refl _ _) rfl
    · intro y wx hw hd K hK
      simp only [putL, Act.put, List.setIfInBounds_toArray, List.set_cons_zero, List.set_cons_succ, Nat.zero_add, Nat.reduceAdd] at hK ⊢
      rw [if_pos (by rfl)]
      go_simp
      exact hK _ _ (Below.refl _ _) rfl
    · intro y wx hw hd K hK
      have e4 : y 4 = _ := hd 4 (by decide)
      have e5 : y 5 = _ := hd 5 (by decide)
      simp only [putL, Act.put, List.setIfInBounds_toArray, List.set_cons_zero, List.set_cons_succ, Nat.zero_add, Nat.reduceAdd, e4, e5] at hK ⊢
      rw [if_pos (by rfl)]
      go_simp
      exact hK _ _ (below_alloc _ _) ((okBB).mono ((okBB).lt (RdL.two_ okB (okB.grow ha hw) (okB.grow hb hw) _ trivial)) fun _ hk => hk.2)
    · intro y wx hw hd K hK
      have k6 := hd 6 (by decide)
      change (Rv RdBB [a, b]) wx (y 6) at k6
      simp only [putL, Act.put, List.setIfInBounds_toArray, List.set_cons_zero, List.set_cons_succ, Nat.zero_add, Nat.reduceAdd] at hK ⊢
      rw [if_pos (by rfl)]
      go_simp
      refine (ref_Xor [a, b] _ _ _ k6 hab4).mono ?_
      rintro e w' ⟨v', rfl, hv', hb'⟩
      exact hK _ _ hb' (hv'.toRd_ ok8)
    · intro y wx hw hd K hK
      have k7 := hd 7 (by decide)
      change (Rv RdB (xorAll [a, b])) wx (y 7) at k7
      simp only [putL, Act.put, List.setIfInBounds_toArray, List.set_cons_zero, List.set_cons_succ, Nat.zero_add, Nat.reduceAdd] at hK ⊢
      rw [if_pos (by rfl)]
      have hc := run_conv k7 Try.underlying22 Try.underlying5 Try.underlying9
      go_simp
      exact hK _ _ (Below.refl _ _) rfl
    · intro y wx hw hd K hK
      have e3 : y 3 = _ := hd 3 (by decide)
      have e8 : y 8 = _ := hd 8 (by decide)
      simp only [putL, Act.put, List.setIfInBounds_toArray, List.set_cons_zero, List.set_cons_succ, Nat.zero_add, Nat.reduceAdd, e3, e8] at hK ⊢
      rw [if_pos (by rfl)]
      go_simp
      exact hK _ _ (Below.refl _ _) (by rw [HP.out]; simp; rfl)
    · intro y wx hw hd K hK
      have e9 : y 9 = _ := hd 9 (by decide)
      simp only [putL, Act.put, List.setIfInBounds_toArray, List.set_cons_zero, List.set_cons_succ, Nat.zero_add, Nat.reduceAdd, e9] at hK ⊢
      rw [if_pos (by rfl)]
      go_simp
      exact hK _ _ (Below.refl _ _) rfl
    · intro y wx hw hd K hK
      have e10 : y 10 = _ := hd 10 (by decide)
      simp only [putL, Act.put, List.setIfInBounds_toArray, List.set_cons_zero, List.set_cons_succ, Nat.zero_add, Nat.reduceAdd, e10] at hK ⊢
      rw [if_pos (by rfl)]
      go_simp
      exact hK _ _ (Below.refl _ _) rfl
    · intro y wx hw hd K hK
      have e10 : y 10 = _ := hd 10 (by decide)
      have e11 : y 11 = _ := hd 11 (by decide)
      simp only [putL, Act.put, List.setIfInBounds_toArray, List.set_cons_zero, List.set_cons_succ, Nat.zero_add, Nat.reduceAdd, e10, e11] at hK ⊢
      rw [if_pos (by rfl)]
      go_simp
      refine (xor_All l v _ _ (okBB.grow h hw) hl4).mono ?_
      rintro e w' ⟨v', rfl, hv', hb'⟩
      exact hK _ _ hb' (hv'.toRd_ ok8)
    · intro y wx hw hd K hK
      have e10 : y 10 = _ := hd 10 (by decide)
      have k12 := hd 12 (by decide)
      change (Rv RdB (xorAll l)) wx (y 12) at k12
      simp only [putL, Act.put, List.setIfInBounds_toArray, List.set_cons_zero, List.set_cons_succ, Nat.zero_add, Nat.reduceAdd, e10] at hK ⊢
      rw [if_pos (by rfl)]
      have hc := run_conv k12 Try.underlying22 Try.underlying5 Try.underlying9
      go_simp
      exact hK _ _ (Below.refl _ _) rfl
    · intro y wx hw hd K hK
      have e10 : y 10 = _ := hd 10 (by decide)
      simp only [putL, Act.put, List.setIfInBounds_toArray, List.set_cons_zero, List.set_cons_succ, Nat.zero_add, Nat.reduceAdd, e10] at hK ⊢
      rw [if_pos (by rfl)]
      go_simp
      exact hK _ _ (Below.refl _ _) rfl
    · intro y wx hw hd K hK
      have e10 : y 10 = _ := hd 10 (by decide)
      have e14 : y 14 = _ := hd 14 (by decide)
      simp only [putL, Act.put, List.setIfInBounds_toArray, List.set_cons_zero, List.set_cons_succ, Nat.zero_add, Nat.reduceAdd, e10, e14] at hK ⊢
      rw [if_pos (by rfl)]
      have hc := run_conv (okB.grow h7 hw) Try.underlying22 Try.underlying5 Try.underlying9
      go_simp
      exact hK _ _ (Below.refl _ _) rfl
    · intro y wx hw hd K hK
      have e10 : y 10 = _ := hd 10 (by decide)
      have e13 : y 13 = _ := hd 13 (by decide)
      have e15 : y 15 = _ := hd 15 (by decide)
      simp only [putL, Act.put, List.setIfInBounds_toArray, List.set_cons_zero, List.set_cons_succ, Nat.zero_add, Nat.reduceAdd, e10, e13, e15] at hK ⊢
      rw [if_pos (by rfl)]
      go_simp
      exact hK _ _ (Below.refl _ _) rfl
    · intro y wx hw hd K hK
      have e10 : y 10 = _ := hd 10 (by decide)
      have e16 : y 16 = _ := hd 16 (by decide)
      simp only [putL, Act.put, List.setIfInBounds_toArray, List.set_cons_zero, List.set_cons_succ, Nat.zero_add, Nat.reduceAdd, e10, e16] at hK ⊢
      rw [if_pos (by rfl)]
      go_simp
      exact hK _ _ (Below.refl _ _) rfl
    · intro y wx hw hd K hK
      have e17 : y 17 = _ := hd 17 (by decide)
      simp only [putL, Act.put, List.setIfInBounds_toArray, List.set_cons_zero, List.set_cons_succ, Nat.zero_add, Nat.reduceAdd, e17] at hK ⊢
      rw [if_pos (by rfl)]
      go_simp
      exact hK _ _ (Below.refl _ _) rfl
    · intro y wx hw hd K hK
      have e18 : y 18 = _ := hd 18 (by decide)
      simp only [putL, Act.put, List.setIfInBounds_toArray, List.set_cons_zero, List.set_cons_succ, Nat.zero_add, Nat.reduceAdd, e18] at hK ⊢
      rw [if_pos (by rfl)]
      go_simp
      exact hK _ _ (Below.refl _ _) rfl
    · intro y wx hw hd K hK
      have e18 : y 18 = _ := hd 18 (by decide)
      have e19 : y 19 = _ := hd 19 (by decide)
      simp only [putL, Act.put, List.setIfInBounds_toArray, List.set_cons_zero, List.set_cons_succ, Nat.zero_add, Nat.reduceAdd, e18, e19] at hK ⊢
      rw [if_pos (by rfl)]
      go_simp
      refine (xor_Even l v _ _ (okBB.grow h hw) hl4).mono ?_
      rintro e w' ⟨rfl, hb'⟩
      exact hK _ _ hb' rfl
    · intro y wx hw hd K hK
      have e18 : y 18 = _ := hd 18 (by decide)
      simp only [putL, Act.put, List.setIfInBounds_toArray, List.set_cons_zero, List.set_cons_succ, Nat.zero_add, Nat.reduceAdd, e18] at hK ⊢
      rw [if_pos (by rfl)]
      go_simp
      exact hK _ _ (Below.refl _ _) rfl
    · intro y wx hw hd K hK
      have e18 : y 18 = _ := hd 18 (by decide)
      have e21 : y 21 = _ := hd 21 (by decide)
      simp only [putL, Act.put, List.setIfInBounds_toArray, List.set_cons_zero, List.set_cons_succ, Nat.zero_add, Nat.reduceAdd, e18, e21] at hK ⊢
      rw [if_pos (by rfl)]
      have hc := run_conv (okB.grow h7 hw) Try.underlying22 Try.underlying5 Try.underlying9
      go_simp
      exact hK _ _ (Below.refl _ _) rfl
    · intro y wx hw hd K hK
      have e18 : y 18 = _ := hd 18 (by decide)
      simp only [putL, Act.put, List.setIfInBounds_toArray, List.set_cons_zero, List.set_cons_succ, Nat.zero_add, Nat.reduceAdd, e18] at hK ⊢
      rw [if_pos (by rfl)]
      have hmk := mk4
      go_simp
      exact hK _ _ (below_alloc _ _) ((zero4_bld _).toRd_ ok8)
    · intro y wx hw hd K hK
      have e18 : y 18 = _ := hd 18 (by decide)
      have k23 := hd 23 (by decide)
      change (Rv RdB zero4) wx (y 23) at k23
      simp only [putL, Act.put, List.setIfInBounds_toArray, List.set_cons_zero, List.set_cons_succ, Nat.zero_add, Nat.reduceAdd, e18] at hK ⊢
      rw [if_pos (by rfl)]
      have hc := run_conv k23 Try.underlying22 Try.underlying5 Try.underlying9
      go_simp
      exact hK _ _ (Below.refl _ _) rfl
    · intro y wx hw hd K hK
      have e18 : y 18 = _ := hd 18 (by decide)
      have e22 : y 22 = _ := hd 22 (by decide)
      have e24 : y 24 = _ := hd 24 (by decide)
      simp only [putL, Act.put, List.setIfInBounds_toArray, List.set_cons_zero, List.set_cons_succ, Nat.zero_add, Nat.reduceAdd, e18, e22, e24] at hK ⊢
      rw [if_pos (by rfl)]
      go_simp
      exact hK _ _ (Below.refl _ _) (by rw [strB_toList, strB_toList]; rfl)
    · intro y wx hw hd K hK
      have e18 : y 18 = _ := hd 18 (by decide)
      have e20 : y 20 = _ := hd 20 (by decide)
      have e25 : y 25 = _ := hd 25 (by decide)
      simp only [putL, Act.put, List.setIfInBounds_toArray, List.set_cons_zero, List.set_cons_succ, Nat.zero_add, Nat.reduceAdd, e18, e20, e25] at hK ⊢
      rw [if_pos (by rfl)]
      go_simp
      exact hK _ _ (Below.refl _ _) rfl
    · intro y wx hw hd K hK
      have e18 : y 18 = _ := hd 18 (by decide)
      have e26 : y 26 = _ := hd 26 (by decide)
      simp only [putL, Act.put, List.setIfInBounds_toArray, List.set_cons_zero, List.set_cons_succ, Nat.zero_add, Nat.reduceAdd, e18, e26] at hK ⊢
      rw [if_pos (by rfl)]
      go_simp
      exact hK _ _ (Below.refl _ _) rfl
    · intro y wx hw hd K hK
      have e27 : y 27 = _ := hd 27 (by decide)
      simp only [putL, Act.put, List.setIfInBounds_toArray, List.set_cons_zero, List.set_cons_succ, Nat.zero_add, Nat.reduceAdd, e27] at hK ⊢
      rw [if_pos (by rfl)]
      go_simp
      exact hK _ _ (Below.refl _ _) rfl
  · intro y w' hl' hV
    have e28 : y 28 = _ := hV 28 (by decide)
    clear hV
    simp only [putL, Act.put, List.setIfInBounds_toArray, List.set_cons_zero, List.set_cons_succ, Nat.zero_add, Nat.reduceAdd, e28]
    clear e28
    go_wp2
    go_ret
    exact ⟨rfl, hl0.trans (hl'.mono hl0.size)⟩
namespace xorTellsDone
open Go.ChangeShapes Go.WideShapes Go.ChangeAt Go.RowKit M
open Go.ChangeMaps (open_string shut_string)
set_option linter.unusedVariables false
set_option maxRecDepth 100000 in
theorem lifted (os : Os) (started : os.Started) (H : Type) (enc : TypeId × Value → H) :
    ReturnsInHanded {} Try.checked os 5 .any (Rows.xorTellsSpec.pre6 enc Try.prog Try.f5 Rows.xorTellsRow.domain false) (Rows.xorTellsSpec.post enc Try.prog Try.f5 false true false false) := by
  refine returnsInHanded_of_change (C := Try.checked) own started (by kernel_rfl) Try.func5
    (ChangeSpec.witness6 (enc := enc) (C := Try.checked) false ⟨#[], #[.slice none 0 0, .slice none 0 0, .slice none 0 0], []⟩ 8 (by kernel_rfl) (by kernel_rfl) (by kernel_rfl) (by kernel_rfl)) ?_
  intro W base args ds gs before hval0 hW hcnd _
  have hval : ∀ (j : Nat) t v, Try.f5.params[j]? = some t → args[j]? = some v → Value.okWide Try.prog W .any base t v := hval0
  have hW' := hW
  obtain ⟨p, q, hA0, hV, rfl, hfz, hnd⟩ := hW
  have hA : DataW.TrodAll enc Try.prog W 0 (fun _ => true) true Try.f5.params.toList args.toList ds p := hA0
  rw [Try.params5] at hA hval
  obtain ⟨v0, vs0, d0, ds0, p0, q0, hargs, rfl, rfl, h0, r0⟩ := trodAll_cons hA
  obtain ⟨v1, vs1, d1, ds1, p1, q1, rfl, rfl, rfl, h1, r1⟩ := trodAll_cons r0
  obtain ⟨v2, vs2, d2, ds2, p2, q2, rfl, rfl, rfl, h2, r2⟩ := trodAll_cons r1
  obtain ⟨rfl, rfl, rfl⟩ := trodAll_nil r2
  obtain rfl : args = #[v0, v1, v2] := by cases args; simp_all
  obtain ⟨rfl, rfl⟩ := trodVars_none hV
  obtain ⟨a0, len0, cap0, rfl⟩ := okWide_slice Try.underlying28 (hval 0 28 v0 rfl rfl)
  have k0 := h0
  have lt0 : ∀ x ∈ p0, x.block < W.heap.size := by obtain ⟨m, hm⟩ := k0; exact DataW.trod_lt m _ _ _ hm
  obtain ⟨fuel0, hf0⟩ := h0
  obtain ⟨b0, w0, l0⟩ := M.open_BB Try.underlying28 (by kernel_rfl) Try.underlying22 Try.underlying5 (by kernel_rfl) hf0
  obtain ⟨a1, len1, cap1, rfl⟩ := okWide_slice Try.underlying22 (hval 1 22 v1 rfl rfl)
  have k1 := h1
  have lt1 : ∀ x ∈ p1, x.block < W.heap.size := by obtain ⟨m, hm⟩ := k1; exact DataW.trod_lt m _ _ _ hm
  obtain ⟨fuel1, hf1⟩ := h1
  obtain ⟨b1, w1, l1⟩ := M.open_B Try.underlying22 Try.underlying5 (by kernel_rfl) hf1
  obtain ⟨a2, len2, cap2, rfl⟩ := okWide_slice Try.underlying22 (hval 2 22 v2 rfl rfl)
  have k2 := h2
  have lt2 : ∀ x ∈ p2, x.block < W.heap.size := by obtain ⟨m, hm⟩ := k2; exact DataW.trod_lt m _ _ _ hm
  obtain ⟨fuel2, hf2⟩ := h2
  obtain ⟨b2, w2, l2⟩ := M.open_B Try.underlying22 Try.underlying5 (by kernel_rfl) hf2
  clear hA0 hval0
  refine (xorTells_walk b0 _ b1 _ b2 _ W w0 w1 w2).mono fun e W' ⟨he, bel⟩ => ?_
  subst he
  exact ⟨_, rfl, _, _, _, [], _, [], hW', trodAll_mk1 (shut_bool Try.underlying4 _), (trodAll_cons_mk (Below.trod laidOut (by kernel_rfl) (of_decide_eq_true (by kernel_rfl)) k0 bel lt0) (trodAll_cons_mk (Below.trod laidOut (by kernel_rfl) (of_decide_eq_true (by kernel_rfl)) k1 bel lt1) (trodAll_cons_mk (Below.trod laidOut (by kernel_rfl) (of_decide_eq_true (by kernel_rfl)) k2 bel lt2) trodAll_mk0))), rfl, bel.frame _, fun h => by cases h⟩
theorem over : Rows.xorTellsRow.holds Try.pinned (OpenSpec.ofChange Rows.xorTellsSpec) :=
  OpenClaim.holds_of_wide 5 Try.f5 rfl rfl rfl rfl rfl rfl rfl ⟨rfl, rfl, rfl, rfl, rfl⟩ rfl rfl rfl rfl rfl (by kernel_rfl) Try.func5 (by kernel_rfl)
    (of_decide_eq_true (by kernel_rfl)) (by unfold Func.isWrapper; first | (rw [if_pos (by decide +kernel)]; kernel_rfl) | (rw [if_neg (by decide +kernel)]; exact ⟨rfl, rfl⟩))
    (fun os started H enc _ => lifted os started H enc)
/-- The statement. -/
theorem proved : Rows.XorTellsSaid := over
end xorTellsDone
end Go.Proofs.Ytobhkdobocjoeaa
