/- Chapter 12: MayFew holds for every input: the call returns true, and each argument reads behind it as it read before. -/
import Derived.Test.YtoendmbgfbhidaaL12
import Derived.Test.YtoendmbgfbhidaaOpenV
namespace Go.Proofs.Ytoendmbgfbhidaa
set_option linter.unusedVariables false
open Go Go.RowKit M
theorem right_len12 {l : List Bs} (h : rightB l = true) : l.length = 9 := by
  unfold rightB at h
  simp at h
  exact h.2
theorem few_cases (l : List Bs) (s : Step) : s.kind = 1 ∧ (∃ x, listsA l s = [x]) ∨ s.kind = 2 ∧ (∃ x, listsA l s = [l, x]) ∨ s.kind ≠ 1 ∧ listsA l s = [l] := by
  by_cases h1 : s.kind = 1
  · by_cases hw : wrongI s.deed = 0
    · exact .inl ⟨h1, _, lists_one hw h1⟩
    · exact .inl ⟨h1, _, lists_wrong hw⟩
  · by_cases hw : wrongI s.deed = 0
    · by_cases h2 : s.kind = 2
      · exact .inr (.inl ⟨h2, _, lists_two hw h2⟩)
      · exact .inr (.inr ⟨h1, lists_none h1 h2⟩)
    · exact .inr (.inr ⟨h1, lists_wrong hw⟩)
set_option maxRecDepth 100000 in
set_option maxHeartbeats 1600000 in
theorem mayFew_walk (l : List Bs) (vl : Value) (s : Step) (vs : Value) (w : World) (hl : RdBB w (fun _ => True) vl l) (hs : RdSt w (fun _ => True) vs s ∧ -9223372036854775808 ≤ s.n) :
    Calls Try.prog 13 #[vl, vs] w fun e w' => e = .returned (.bool true) ∧ Below w.heap.size w w' := by
  obtain ⟨A, c, rfl, _, hcm⟩ := hl.shape
  unfold maxLen at hcm
  obtain ⟨⟨dv, rfl, hsn, hdv⟩, _⟩ := hs
  obtain ⟨Ad, cd, rfl, _, _⟩ := hdv.shape
  have hX0 := boxAt_new w 68 [.int .i64 s.kind, .int .i64 s.n, .int .i64 s.m, .int .i64 s.deed.kind, .int .i64 s.deed.n, .int .i64 s.deed.m, .slice Ad s.deed.data.length cd]
  have hl1 := below_alloc w (.cells #[.int .i64 s.kind, .int .i64 s.n, .int .i64 s.m, .int .i64 s.deed.kind, .int .i64 s.deed.n, .int .i64 s.deed.m, .slice Ad s.deed.data.length cd] 68)
  obtain ⟨wB, hwB⟩ : ∃ x, w.alloc (.cells #[.int .i64 s.kind, .int .i64 s.n, .int .i64 s.m, .int .i64 s.deed.kind, .int .i64 s.deed.n, .int .i64 s.deed.m, .slice Ad s.deed.data.length cd] 68) = x := ⟨_, rfl⟩
  change BoxAt (w.alloc (.cells #[.int .i64 s.kind, .int .i64 s.n, .int .i64 s.m, .int .i64 s.deed.kind, .int .i64 s.deed.n, .int .i64 s.deed.m, .slice Ad s.deed.data.length cd] 68)) _ _ _ at hX0
  rw [hwB] at hX0 hl1
  have HBs0 := Lib.hid hX0
  have HDd0 := Lib.hid (okB.grow hdv hl1)
  have HL0 := Lib.hid (okBB.grow hl hl1)
  have HBel0 := Lib.hid hl1
  have HSN := Lib.hid hsn
  clear hl hX0 hl1 hdv hsn
  go_enter Try.func13, Try.ntmps13
  go_wp2_with fail
  clear hwB
  refine (law12_alive _).mono ?_
  rintro e w0 ⟨rfl, hb⟩
  have HBel := Lib.hid (HBel0.out.trans (hb.mono HBel0.out.size))
  have HBs := Lib.hid (HBs0.out.grow hb)
  have HDd := Lib.hid (okB.grow HDd0.out hb)
  have HL := Lib.hid (okBB.grow HL0.out hb)
  clear hb HL0 HBel0 HBs0 HDd0
  obtain ⟨y0, y1, y2, y3, y4, y5, y6⟩ := HBs.out.seven
  by_cases hrl : rightB l = true
  rotate_left
  · replace hrl : rightB l = false := by simpa using hrl
    go_wp2_with fail
    refine (ref_RightBlocks l _ _ _ HL.out).mono ?_
    rintro e w2 ⟨rfl, rfl⟩
    rw [hrl]
    go_wp2
    go_ret
    exact ⟨rfl, HBel.out⟩
  have HLen := Lib.hid (right_len12 hrl)
  go_wp2_with fail
  refine (ref_RightBlocks l _ _ _ HL.out).mono ?_
  rintro e w3 ⟨rfl, rfl⟩
  rw [hrl]
  clear hrl
  go_wp2_with fail
  refine (may_Lists l s _ _ _ _ HL.out ⟨_, rfl, HSN.out, HDd.out⟩ HLen.out).mono ?_
  rintro e w3 ⟨v3, rfl, hr3, hb⟩
  replace HL := Lib.hid (okBB.grow HL.out hb)
  replace HBs := Lib.hid (HBs.out.grow hb)
  replace HBel := Lib.hid (HBel.out.trans (hb.mono HBel.out.size))
  clear hb y0 y1 y2 y3 y4 y5 y6
  obtain ⟨y0, y1, y2, y3, y4, y5, y6⟩ := HBs.out.seven
  rcases few_cases l s with ⟨h1, x, hx⟩ | ⟨h2, x, hx⟩ | ⟨h1, hx⟩
  · rw [hx] at hr3
    obtain ⟨A3, c3, rfl, _, _⟩ := hr3.shape
    rw [show ([x] : List (List Bs)).length = 1 from rfl] at hr3 ⊢
    have e1 : (s.kind == 1) = true := by simpa using h1
    rw [h1] at y0
    clear h1 hx hr3 e1
    go_wp2
    go_ret
    exact ⟨rfl, HBel.out⟩
  · rw [hx] at hr3
    obtain ⟨b3, o3, c3, rfl, _, _, hc3, hm3⟩ := hr3.form (by simp)
    rw [show ([l, x] : List (List Bs)).length = 2 from rfl] at hr3 hc3 ⊢
    obtain ⟨u, hu, hR⟩ := RdL_q hr3 (k := 0) (x := l) rfl
    rw [Nat.add_zero] at hu
    obtain ⟨Au, cu, rfl, _, _⟩ := hR.shape
    unfold maxLen at hm3
    rw [h2] at y0
    have H := Lib.hid (ref_SameBytes l l _ _ _ _ hR HL.out)
    clear h2 hx hr3 hR
    go_wp2_with fail
    refine H.out.mono ?_
    rintro e w4 ⟨rfl, hb⟩
    rw [beq_self_eq_true]
    have hbe := HBel.out.trans (hb.mono HBel.out.size)
    clear hb
    go_wp2
    go_ret
    exact ⟨rfl, hbe⟩
  · rw [hx] at hr3
    obtain ⟨b3, o3, c3, rfl, _, _, hc3, hm3⟩ := hr3.form (by simp)
    rw [show ([l] : List (List Bs)).length = 1 from rfl] at hr3 hc3 ⊢
    obtain ⟨u, hu, hR⟩ := RdL_q hr3 (k := 0) (x := l) rfl
    rw [Nat.add_zero] at hu
    obtain ⟨Au, cu, rfl, _, _⟩ := hR.shape
    unfold maxLen at hm3
    have e1 : (s.kind == 1) = false := by simpa using h1
    have H := Lib.hid (ref_SameBytes l l _ _ _ _ hR HL.out)
    clear h1 hx hr3 hR
    go_wp2_with fail
    refine H.out.mono ?_
    rintro e w4 ⟨rfl, hb⟩
    rw [beq_self_eq_true]
    have hbe := HBel.out.trans (hb.mono HBel.out.size)
    clear hb
    go_wp2
    go_ret
    exact ⟨rfl, hbe⟩
namespace mayFewDone
open Go.ChangeShapes Go.WideShapes Go.ChangeAt Go.RowKit M
open Go.ChangeMaps (open_string shut_string)
set_option linter.unusedVariables false
set_option maxRecDepth 100000 in
theorem lifted (os : Os) (started : os.Started) (H : Type) (enc : TypeId × Value → H) :
    ReturnsInHanded {} Try.checked os 13 .any (Rows.mayFewSpec.pre6 enc Try.prog Try.f13 Rows.mayFewRow.domain false) (Rows.mayFewSpec.post enc Try.prog Try.f13 false true false false) := by
  refine returnsInHanded_of_change (C := Try.checked) own started (by kernel_rfl) Try.func13
    (ChangeSpec.witness6 (enc := enc) (C := Try.checked) false ⟨#[], #[.slice none 0 0, .agg #[.int .i64 0, .int .i64 0, .int .i64 0, .int .i64 0, .int .i64 0, .int .i64 0, .slice none 0 0]], []⟩ 8 (by kernel_rfl) (by kernel_rfl) (by kernel_rfl) (by kernel_rfl)) ?_
  intro W base args ds gs before hval0 hW hcnd _
  have hval : ∀ (j : Nat) t v, Try.f13.params[j]? = some t → args[j]? = some v → Value.okWide Try.prog W .any base t v := hval0
  have hW' := hW
  obtain ⟨p, q, hA0, hV, rfl, hfz, hnd⟩ := hW
  have hA : DataW.TrodAll enc Try.prog W 0 (fun _ => true) true Try.f13.params.toList args.toList ds p := hA0
  rw [Try.params13] at hA hval
  obtain ⟨v0, vs0, d0, ds0, p0, q0, hargs, rfl, rfl, h0, r0⟩ := trodAll_cons hA
  obtain ⟨v1, vs1, d1, ds1, p1, q1, rfl, rfl, rfl, h1, r1⟩ := trodAll_cons r0
  obtain ⟨rfl, rfl, rfl⟩ := trodAll_nil r1
  obtain rfl : args = #[v0, v1] := by cases args; simp_all
  obtain ⟨rfl, rfl⟩ := trodVars_none hV
  obtain ⟨a0, len0, cap0, rfl⟩ := okWide_slice Try.underlying41 (hval 0 41 v0 rfl rfl)
  have k0 := h0
  have lt0 : ∀ x ∈ p0, x.block < W.heap.size := by obtain ⟨m, hm⟩ := k0; exact DataW.trod_lt m _ _ _ hm
  obtain ⟨fuel0, hf0⟩ := h0
  obtain ⟨b0, w0, l0⟩ := M.open_BB Try.underlying41 (by kernel_rfl) Try.underlying23 Try.underlying5 (by kernel_rfl) hf0
  obtain ⟨b1, w1⟩ := open_stepv (hval 1 68 v1 rfl rfl) h1
  have k1 := h1
  have lt1 : ∀ x ∈ p1, x.block < W.heap.size := by obtain ⟨m, hm⟩ := k1; exact DataW.trod_lt m _ _ _ hm
  clear hA0 hval0
  refine (mayFew_walk b0 _ b1 _ W w0 w1).mono fun e W' ⟨he, bel⟩ => ?_
  subst he
  exact ⟨_, rfl, _, _, _, [], _, [], hW', trodAll_mk1 (shut_bool Try.underlying4 _), (trodAll_cons_mk (Below.trod laidOut (by kernel_rfl) (of_decide_eq_true (by kernel_rfl)) k0 bel lt0) (trodAll_cons_mk (Below.trod laidOut (by kernel_rfl) (of_decide_eq_true (by kernel_rfl)) k1 bel lt1) trodAll_mk0)), rfl, bel.frame _, fun h => by cases h⟩
theorem over : Rows.mayFewRow.holds Try.pinned (OpenSpec.ofChange Rows.mayFewSpec) :=
  OpenClaim.holds_of_wide 13 Try.f13 rfl rfl rfl rfl rfl rfl rfl ⟨rfl, rfl, rfl, rfl, rfl⟩ rfl rfl rfl rfl rfl (by kernel_rfl) Try.func13 (by kernel_rfl)
    (of_decide_eq_true (by kernel_rfl)) (by unfold Func.isWrapper; first | (rw [if_pos (by decide +kernel)]; kernel_rfl) | (rw [if_neg (by decide +kernel)]; exact ⟨rfl, rfl⟩))
    (fun os started H enc _ => lifted os started H enc)
/-- The statement. -/
theorem proved : Rows.MayFewSaid := over
end mayFewDone
end Go.Proofs.Ytoendmbgfbhidaa
