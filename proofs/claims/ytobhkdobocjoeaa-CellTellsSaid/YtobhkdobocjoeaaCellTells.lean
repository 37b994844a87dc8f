/- Chapter 2: CellTells holds for every input: the call returns true, and each argument reads behind it as it read before. -/
import Derived.Test.YtobhkdobocjoeaaC2
import Derived.Test.YtobhkdobocjoeaaC4
import Derived.Test.YtobhkdobocjoeaaOpen
namespace Go.Proofs.Ytobhkdobocjoeaa
open Go Go.RowKit M

theorem block_out {d s : Int} (h : thereB d s = false) : d < 0 ∨ 4 ≤ d ∨ s < 0 ∨ 3 ≤ s := by
  have : ¬(0 ≤ d ∧ d < 4 ∧ 0 ≤ s ∧ s < 3) := fun hh => by rw [thereB_iff.2 hh] at h; cases h
  omega
set_option maxHeartbeats 1600000 in
theorem cellTells_walk (b : Bs) (vb : Value) (d s : Int) (x : Bs) (vx : Value) (w : World) (hb : RdB w (fun _ => True) vb b) (_d0 : -9223372036854775808 ≤ d) (_d1 : d ≤ 9223372036854775807) (_s0 : -9223372036854775808 ≤ s) (_s1 : s ≤ 9223372036854775807) (hx : RdB w (fun _ => True) vx x) :
    Calls Try.prog 11 #[vb, .int .i64 d, .int .i64 s, vx] w fun e w' => e = .returned (.bool true) ∧ Below w.heap.size w w' := by
  obtain ⟨Ax, cx, rfl, _, _⟩ := hx.shape
  cases hth : thereB d s with
  | false =>
    have ho := ref_Block_no d s w (block_out hth)
    have HO := Lib.hid ho
    have HT := Lib.hid hth
    clear ho hth
    go_enter Try.func11, Try.ntmps11
    go_wp2_with fail
    refine HO.out.mono ?_
    rintro e w1 ⟨rfl, rfl⟩
    go_wp2_with fail
    refine (cell_There d s _).mono ?_
    rintro e w1 ⟨rfl, rfl⟩
    rw [HT.out]
    have hl1 := Below.refl w.heap.size w
    go_wp2_with fail
    refine (cell_Read b d s _ _ _ (okB.grow hb hl1)).mono ?_
    rintro e w2 ⟨v2, rfl, hv2, hl2⟩
    have hr2 := hv2.toRd_ ok8
    replace hl2 := hl1.trans (hl2.mono hl1.size)
    clear hv2
    go_wp2_with fail
    refine (ref_CellRead b d s _ _ _ (okB.grow hb hl2)).mono ?_
    rintro e w3 ⟨v3, rfl, hr3, hl3⟩
    replace hr2 := okB.grow hr2 hl3
    replace hl2 := hl2.trans (hl3.mono hl2.size)
    have hc2 := run_conv hr2 Try.underlying22 Try.underlying5 Try.underlying9
    have hc3 := run_conv hr3 Try.underlying22 Try.underlying5 Try.underlying9
    generalize (readC b d s).2 = r at *
    generalize (readC b d s).1 = rb at *
    replace hx := okB.grow hx hl2
    clear hr2 hr3 hl3 hb
    go_wp2_with fail
    go_quiet (fail)
    go_wp2
    go_ret
    exact ⟨rfl, hl2.trans (Below.drewN_ _ _ _)⟩
  | true =>
    obtain ⟨q0, q1, q2, q3⟩ := thereB_iff.1 hth
    have HT := Lib.hid hth
    clear hth
    obtain ⟨d, rfl⟩ := Int.eq_ofNat_of_zero_le q0
    obtain ⟨s, rfl⟩ := Int.eq_ofNat_of_zero_le q2
    by_cases h4 : x.length = 4
    rotate_left
    · have h4' : ((x.length : Int) != 4) = true := by simp; omega
      go_enter Try.func11, Try.ntmps11
      go_wp2_with fail
      refine (ref_Block d s w (by omega) (by omega) (by omega) (by omega)).mono ?_
      rintro e w1 ⟨rfl, hl1⟩
      generalize blockI d s = bl at *
      go_wp2_with fail
      refine (cell_There d s _).mono ?_
      rintro e w2 ⟨rfl, rfl⟩
      rw [HT.out]
      go_wp2_with fail
      refine (cell_Read b d s _ _ _ (okB.grow hb hl1)).mono ?_
      rintro e w2 ⟨v2, rfl, hv2, hl2⟩
      have hr2 := hv2.toRd_ ok8
      replace hl2 := hl1.trans (hl2.mono hl1.size)
      clear hv2
      go_wp2_with fail
      refine (ref_CellRead b d s _ _ _ (okB.grow hb hl2)).mono ?_
      rintro e w3 ⟨v3, rfl, hr3, hl3⟩
      replace hr2 := okB.grow hr2 hl3
      replace hl2 := hl2.trans (hl3.mono hl2.size)
      have hc2 := run_conv hr2 Try.underlying22 Try.underlying5 Try.underlying9
      have hc3 := run_conv hr3 Try.underlying22 Try.underlying5 Try.underlying9
      generalize (readC b d s).2 = r at *
      generalize (readC b d s).1 = rb at *
      replace hx := okB.grow hx hl2
      clear hr2 hr3 hl3 hb
      go_wp2_with fail
      go_quiet (fail)
      go_wp2
      go_ret
      exact ⟨rfl, hl2.trans (Below.drewN_ _ _ _)⟩
    · have h4' : ((x.length : Int) != 4) = false := by simp; omega
      have H4 := Lib.hid h4
      rw [h4] at hx ⊢
      clear h4 h4'
      go_enter Try.func11, Try.ntmps11
      go_wp2_with fail
      refine (ref_Block d s w (by omega) (by omega) (by omega) (by omega)).mono ?_
      rintro e w1 ⟨rfl, hl1⟩
      generalize blockI d s = bl at *
      go_wp2_with fail
      refine (cell_There d s _).mono ?_
      rintro e w2 ⟨rfl, rfl⟩
      rw [HT.out]
      go_wp2_with fail
      refine (cell_Read b d s _ _ _ (okB.grow hb hl1)).mono ?_
      rintro e w2 ⟨v2, rfl, hv2, hl2⟩
      have hr2 := hv2.toRd_ ok8
      replace hl2 := hl1.trans (hl2.mono hl1.size)
      clear hv2
      go_wp2_with fail
      refine (ref_CellRead b d s _ _ _ (okB.grow hb hl2)).mono ?_
      rintro e w3 ⟨v3, rfl, hr3, hl3⟩
      replace hr2 := okB.grow hr2 hl3
      replace hl2 := hl2.trans (hl3.mono hl2.size)
      have hc2 := run_conv hr2 Try.underlying22 Try.underlying5 Try.underlying9
      have hc3 := run_conv hr3 Try.underlying22 Try.underlying5 Try.underlying9
      generalize (readC b d s).2 = r at *
      generalize (readC b d s).1 = rb at *
      replace hx := okB.grow hx hl2
      clear hr2 hr3 hl3 hb
      go_wp2_with fail
      refine region_list [Cv (.int .i64 0), Cv (.bool false), Cv (.bool false), Cv (.slice Ax 4 cx), Cv (.int .i64 4), Cv (.bool false), Cv (.bool false), Cv (.bool false), Cv (.int .i64 d), Cv (.int .i64 s), Cv (.slice Ax 4 cx), Rv RdB (cellB d s x), Cv (.string (strB (cellB d s x))), Cv (.int .i64 d), Cv (.int .i64 s), Cv (.slice Ax 4 cx), Rv RdB (cellB d s x), Cv (.string (strB (cellB d s x))), Cv (.bool true), Cv (.bool true), Cv (.bool true)] (by kernel_rfl) (by kernel_rfl) (by kernel_rfl) ?_ ?_ ?_
      · repeat (first | exact trivial | refine ⟨mC _, ?_⟩ | refine ⟨mR okB _, ?_⟩ | refine ⟨mT, ?_⟩ | refine ⟨mR okBB _, ?_⟩ | refine ⟨mR okBBB _, ?_⟩)
      · simp only [StepsL]
        refine ⟨?_, ?_, ?_, ?_, ?_, ?_, ?_, ?_, ?_, ?_, ?_, ?_, ?_, ?_, ?_, ?_, ?_, ?_, ?_, ?_, ?_, trivial⟩
        · intro y wx hw hd K hK
          simp only [putL, Act.put, List.setIfInBounds_toArray, List.set_cons_zero, List.set_cons_succ, Nat.zero_add, Nat.reduceAdd] at hK ⊢
          rw [if_pos (by rfl)]
          go_simp
          exact hK _ _ (Below.refl _ _) rfl
        · intro y wx hw hd K hK
          have e0 : y 0 = _ := hd 0 (by decide)
          simp only [putL, Act.put, List.setIfInBounds_toArray, List.set_cons_zero, List.set_cons_succ, Nat.zero_add, Nat.reduceAdd, e0] at hK ⊢
          rw [if_pos (by rfl)]
          go_simp
          exact hK _ _ (Below.refl _ _) rfl
        · intro y wx hw hd K hK
          have e1 : y 1 = _ := hd 1 (by decide)
          simp only [putL, Act.put, List.setIfInBounds_toArray, List.set_cons_zero, List.set_cons_succ, Nat.zero_add, Nat.reduceAdd, e1] at hK ⊢
          rw [if_pos (by rfl)]
          go_simp
          exact hK _ _ (Below.refl _ _) rfl
        · intro y wx hw hd K hK
          have e2 : y 2 = _ := hd 2 (by decide)
          simp only [putL, Act.put, List.setIfInBounds_toArray, List.set_cons_zero, List.set_cons_succ, Nat.zero_add, Nat.reduceAdd, e2] at hK ⊢
          rw [if_pos (by rfl)]
          go_simp
          exact hK _ _ (Below.refl _ _) rfl
        · intro y wx hw hd K hK
          have e2 : y 2 = _ := hd 2 (by decide)
          have e3 : y 3 = _ := hd 3 (by decide)
          simp only [putL, Act.put, List.setIfInBounds_toArray, List.set_cons_zero, List.set_cons_succ, Nat.zero_add, Nat.reduceAdd, e2, e3] at hK ⊢
          rw [if_pos (by rfl)]
          go_simp
          exact hK _ _ (Below.refl _ _) rfl
        · intro y wx hw hd K hK
          have e2 : y 2 = _ := hd 2 (by decide)
          have e4 : y 4 = _ := hd 4 (by decide)
          simp only [putL, Act.put, List.setIfInBounds_toArray, List.set_cons_zero, List.set_cons_succ, Nat.zero_add, Nat.reduceAdd, e2, e4] at hK ⊢
          rw [if_pos (by rfl)]
          go_simp
          exact hK _ _ (Below.refl _ _) rfl
        · intro y wx hw hd K hK
          have e2 : y 2 = _ := hd 2 (by decide)
          have e5 : y 5 = _ := hd 5 (by decide)
          simp only [putL, Act.put, List.setIfInBounds_toArray, List.set_cons_zero, List.set_cons_succ, Nat.zero_add, Nat.reduceAdd, e2, e5] at hK ⊢
          rw [if_pos (by rfl)]
          go_simp
          exact hK _ _ (Below.refl _ _) rfl
        · intro y wx hw hd K hK
          have e6 : y 6 = _ := hd 6 (by decide)
          simp only [putL, Act.put, List.setIfInBounds_toArray, List.set_cons_zero, List.set_cons_succ, Nat.zero_add, Nat.reduceAdd, e6] at hK ⊢
          rw [if_pos (by rfl)]
          go_simp
          exact hK _ _ (Below.refl _ _) rfl
        · intro y wx hw hd K hK
          have e7 : y 7 = _ := hd 7 (by decide)
          simp only [putL, Act.put, List.setIfInBounds_toArray, List.set_cons_zero, List.set_cons_succ, Nat.zero_add, Nat.reduceAdd, e7] at hK ⊢
          rw [if_pos (by rfl)]
          go_simp
          exact hK _ _ (Below.refl _ _) rfl
        · intro y wx hw hd K hK
          have e7 : y 7 = _ := hd 7 (by decide)
          simp only [putL, Act.put, List.setIfInBounds_toArray, List.set_cons_zero, List.set_cons_succ, Nat.zero_add, Nat.reduceAdd, e7] at hK ⊢
          rw [if_pos (by rfl)]
          go_simp
          exact hK _ _ (Below.refl _ _) rfl
        · intro y wx hw hd K hK
          have e7 : y 7 = _ := hd 7 (by decide)
          simp only [putL, Act.put, List.setIfInBounds_toArray, List.set_cons_zero, List.set_cons_succ, Nat.zero_add, Nat.reduceAdd, e7] at hK ⊢
          rw [if_pos (by rfl)]
          go_simp
          exact hK _ _ (Below.refl _ _) rfl
        · intro y wx hw hd K hK
          have e7 : y 7 = _ := hd 7 (by decide)
          have e8 : y 8 = _ := hd 8 (by decide)
          have e9 : y 9 = _ := hd 9 (by decide)
          have e10 : y 10 = _ := hd 10 (by decide)
          simp only [putL, Act.put, List.setIfInBounds_toArray, List.set_cons_zero, List.set_cons_succ, Nat.zero_add, Nat.reduceAdd, e7, e8, e9, e10] at hK ⊢
          rw [if_pos (by rfl)]
          go_simp
          refine (cell_Bytes d s x _ _ _ (okB.grow hx hw) (by omega) (by omega) (by rw [H4.out]; decide)).mono ?_
          rintro e w' ⟨v', rfl, hv', hb'⟩
          exact hK _ _ hb' (hv'.toRd_ ok8)
        · intro y wx hw hd K hK
          have e7 : y 7 = _ := hd 7 (by decide)
          have k11 := hd 11 (by decide)
          change (Rv RdB (cellB d s x)) wx (y 11) at k11
          simp only [putL, Act.put, List.setIfInBounds_toArray, List.set_cons_zero, List.set_cons_succ, Nat.zero_add, Nat.reduceAdd, e7] at hK ⊢
          rw [if_pos (by rfl)]
          have hc := run_conv k11 Try.underlying22 Try.underlying5 Try.underlying9
          go_simp
          exact hK _ _ (Below.refl _ _) rfl
        · intro y wx hw hd K hK
          have e7 : y 7 = _ := hd 7 (by decide)
          simp only [putL, Act.put, List.setIfInBounds_toArray, List.set_cons_zero, List.set_cons_succ, Nat.zero_add, Nat.reduceAdd, e7] at hK ⊢
          rw [if_pos (by rfl)]
          go_simp
          exact hK _ _ (Below.refl _ _) rfl
        · intro y wx hw hd K hK
          have e7 : y 7 = _ := hd 7 (by decide)
          simp only [putL, Act.put, List.setIfInBounds_toArray, List.set_cons_zero, List.set_cons_succ, Nat.zero_add, Nat.reduceAdd, e7] at hK ⊢
          rw [if_pos (by rfl)]
          go_simp
          exact hK _ _ (Below.refl _ _) rfl
        · intro y wx hw hd K hK
          have e7 : y 7 = _ := hd 7 (by decide)
          simp only [putL, Act.put, List.setIfInBounds_toArray, List.set_cons_zero, List.set_cons_succ, Nat.zero_add, Nat.reduceAdd, e7] at hK ⊢
          rw [if_pos (by rfl)]
          go_simp
          exact hK _ _ (Below.refl _ _) rfl
        · intro y wx hw hd K hK
          have e7 : y 7 = _ := hd 7 (by decide)
          have e13 : y 13 = _ := hd 13 (by decide)
          have e14 : y 14 = _ := hd 14 (by decide)
          have e15 : y 15 = _ := hd 15 (by decide)
          simp only [putL, Act.put, List.setIfInBounds_toArray, List.set_cons_zero, List.set_cons_succ, Nat.zero_add, Nat.reduceAdd, e7, e13, e14, e15] at hK ⊢
          rw [if_pos (by rfl)]
          go_simp
          refine (ref_CellBytes d s x _ _ _ (okB.grow hx hw) (by omega) (by omega) (by rw [H4.out]; decide)).mono ?_
          rintro e w' ⟨v', rfl, hv', hb'⟩
          exact hK _ _ hb' (hv'.toRd_ ok8)
        · intro y wx hw hd K hK
          have e7 : y 7 = _ := hd 7 (by decide)
          have k16 := hd 16 (by decide)
          change (Rv RdB (cellB d s x)) wx (y 16) at k16
          simp only [putL, Act.put, List.setIfInBounds_toArray, List.set_cons_zero, List.set_cons_succ, Nat.zero_add, Nat.reduceAdd, e7] at hK ⊢
          rw [if_pos (by rfl)]
          have hc := run_conv k16 Try.underlying22 Try.underlying5 Try.underlying9
          go_simp
          exact hK _ _ (Below.refl _ _) rfl
        · intro y wx hw hd K hK
          have e7 : y 7 = _ := hd 7 (by decide)
          have e12 : y 12 = _ := hd 12 (by decide)
          have e17 : y 17 = _ := hd 17 (by decide)
          simp only [putL, Act.put, List.setIfInBounds_toArray, List.set_cons_zero, List.set_cons_succ, Nat.zero_add, Nat.reduceAdd, e7, e12, e17] at hK ⊢
          rw [if_pos (by rfl)]
          go_simp
          exact hK _ _ (Below.refl _ _) rfl
        · intro y wx hw hd K hK
          have e7 : y 7 = _ := hd 7 (by decide)
          have e18 : y 18 = _ := hd 18 (by decide)
          simp only [putL, Act.put, List.setIfInBounds_toArray, List.set_cons_zero, List.set_cons_succ, Nat.zero_add, Nat.reduceAdd, e7, e18] at hK ⊢
          rw [if_pos (by rfl)]
          go_simp
          exact hK _ _ (Below.refl _ _) rfl
        · intro y wx hw hd K hK
          have e19 : y 19 = _ := hd 19 (by decide)
          simp only [putL, Act.put, List.setIfInBounds_toArray, List.set_cons_zero, List.set_cons_succ, Nat.zero_add, Nat.reduceAdd, e19] at hK ⊢
          rw [if_pos (by rfl)]
          go_simp
          exact hK _ _ (Below.refl _ _) rfl
      · intro y w' hl' hV
        have e20 : y 20 = _ := hV 20 (by decide)
        clear hV
        simp only [putL, Act.put, List.setIfInBounds_toArray, List.set_cons_zero, List.set_cons_succ, Nat.zero_add, Nat.reduceAdd, e20]
        clear e20
        go_wp2
        go_ret
        exact ⟨rfl, hl2.trans (hl'.mono hl2.size)⟩
namespace cellTellsDone
open Go.ChangeShapes Go.WideShapes Go.ChangeAt Go.RowKit M
open Go.ChangeMaps (open_string shut_string)
set_option linter.unusedVariables false
set_option maxRecDepth 100000 in
theorem lifted (os : Os) (started : os.Started) (H : Type) (enc : TypeId × Value → H) :
    ReturnsInHanded {} Try.checked os 11 .any (Rows.cellTellsSpec.pre6 enc Try.prog Try.f11 Rows.cellTellsRow.domain false) (Rows.cellTellsSpec.post enc Try.prog Try.f11 false true false false) := by
  refine returnsInHanded_of_change (C := Try.checked) own started (by kernel_rfl) Try.func11
    (ChangeSpec.witness6 (enc := enc) (C := Try.checked) false ⟨#[], #[.slice none 0 0, .int .i64 0, .int .i64 0, .slice none 0 0], []⟩ 8 (by kernel_rfl) (by kernel_rfl) (by kernel_rfl) (by kernel_rfl)) ?_
  intro W base args ds gs before hval0 hW hcnd _
  have hval : ∀ (j : Nat) t v, Try.f11.params[j]? = some t → args[j]? = some v → Value.okWide Try.prog W .any base t v := hval0
  have hW' := hW
  obtain ⟨p, q, hA0, hV, rfl, hfz, hnd⟩ := hW
  have hA : DataW.TrodAll enc Try.prog W 0 (fun _ => true) true Try.f11.params.toList args.toList ds p := hA0
  rw [Try.params11] at hA hval
  obtain ⟨v0, vs0, d0, ds0, p0, q0, hargs, rfl, rfl, h0, r0⟩ := trodAll_cons hA
  obtain ⟨v1, vs1, d1, ds1, p1, q1, rfl, rfl, rfl, h1, r1⟩ := trodAll_cons r0
  obtain ⟨v2, vs2, d2, ds2, p2, q2, rfl, rfl, rfl, h2, r2⟩ := trodAll_cons r1
  obtain ⟨v3, vs3, d3, ds3, p3, q3, rfl, rfl, rfl, h3, r3⟩ := trodAll_cons r2
  obtain ⟨rfl, rfl, rfl⟩ := trodAll_nil r3
  obtain rfl : args = #[v0, v1, v2, v3] := by cases args; simp_all
  obtain ⟨rfl, rfl⟩ := trodVars_none hV
  obtain ⟨a0, len0, cap0, rfl⟩ := okWide_slice Try.underlying22 (hval 0 22 v0 rfl rfl)
  have k0 := h0
  have lt0 : ∀ x ∈ p0, x.block < W.heap.size := by obtain ⟨m, hm⟩ := k0; exact DataW.trod_lt m _ _ _ hm
  obtain ⟨fuel0, hf0⟩ := h0
  obtain ⟨b0, w0, l0⟩ := M.open_B Try.underlying22 Try.underlying5 (by kernel_rfl) hf0
  obtain ⟨a1, rfl, rfl, rfl, w1⟩ := open_int Try.underlying3 (hval 1 3 v1 rfl rfl) h1
  have b1 := bounds_i64 w1
  obtain ⟨a2, rfl, rfl, rfl, w2⟩ := open_int Try.underlying3 (hval 2 3 v2 rfl rfl) h2
  have b2 := bounds_i64 w2
  obtain ⟨a3, len3, cap3, rfl⟩ := okWide_slice Try.underlying22 (hval 3 22 v3 rfl rfl)
  have k3 := h3
  have lt3 : ∀ x ∈ p3, x.block < W.heap.size := by obtain ⟨m, hm⟩ := k3; exact DataW.trod_lt m _ _ _ hm
  obtain ⟨fuel3, hf3⟩ := h3
  obtain ⟨b3, w3, l3⟩ := M.open_B Try.underlying22 Try.underlying5 (by kernel_rfl) hf3
  clear hA0 hval0
  refine (cellTells_walk b0 _ a1 a2 b3 _ W w0 b1.1 b1.2 b2.1 b2.2 w3).mono fun e W' ⟨he, bel⟩ => ?_
  subst he
  exact ⟨_, rfl, _, _, _, [], _, [], hW', trodAll_mk1 (shut_bool Try.underlying4 _), (trodAll_cons_mk (Below.trod laidOut (by kernel_rfl) (of_decide_eq_true (by kernel_rfl)) k0 bel lt0) (trodAll_cons_mk (shut_int Try.underlying3 w1) (trodAll_cons_mk (shut_int Try.underlying3 w2) (trodAll_cons_mk (Below.trod laidOut (by kernel_rfl) (of_decide_eq_true (by kernel_rfl)) k3 bel lt3) trodAll_mk0)))), rfl, bel.frame _, fun h => by cases h⟩
theorem over : Rows.cellTellsRow.holds Try.pinned (OpenSpec.ofChange Rows.cellTellsSpec) :=
  OpenClaim.holds_of_wide 11 Try.f11 rfl rfl rfl rfl rfl rfl rfl ⟨rfl, rfl, rfl, rfl, rfl⟩ rfl rfl rfl rfl rfl (by kernel_rfl) Try.func11 (by kernel_rfl)
    (of_decide_eq_true (by kernel_rfl)) (by unfold Func.isWrapper; first | (rw [if_pos (by decide +kernel)]; kernel_rfl) | (rw [if_neg (by decide +kernel)]; exact ⟨rfl, rfl⟩))
    (fun os started H enc _ => lifted os started H enc)
/-- The statement. -/
theorem proved : Rows.CellTellsSaid := over
end cellTellsDone
end Go.Proofs.Ytobhkdobocjoeaa
