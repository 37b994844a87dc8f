/- Chapter 4: PlanTells holds for every input: the call returns true, and each argument reads behind it as it read before. -/
import Derived.Test.YtobhkdobocjoeaaC4
import Derived.Test.YtobhkdobocjoeaaOpen
namespace Go.Proofs.Ytobhkdobocjoeaa
open Go Go.RowKit M

theorem where_both (n : Int) : ∃ x y z : Int,
    (∀ w : World, Calls Try.prog 28 #[.int .i64 n] w fun e w' => e = .returned (.tuple #[.int .i64 x, .int .i64 y, .int .i64 z]) ∧ w = w') ∧
    (∀ w : World, Calls Try.prog 29 #[.int .i64 n] w fun e w' => e = .returned (.tuple #[.int .i64 x, .int .i64 y, .int .i64 z]) ∧ Below w.heap.size w w') := by
  by_cases h : n < 0 ∨ 9 ≤ n
  · exact ⟨0, 0, 3, fun w => plan_Where_no n w h, fun w => ref_Where_no n w h⟩
  · obtain ⟨m, rfl⟩ := Int.eq_ofNat_of_zero_le (show 0 ≤ n by omega)
    exact ⟨_, _, 0, fun w => plan_Where m w (by omega), fun w => ref_Where m w (by omega)⟩
theorem block_both (d s : Int) : ∃ x z : Int,
    (∀ w : World, Calls Try.prog 30 #[.int .i64 d, .int .i64 s] w fun e w' => e = .returned (.tuple #[.int .i64 x, .int .i64 z]) ∧ w = w') ∧
    (∀ w : World, Calls Try.prog 31 #[.int .i64 d, .int .i64 s] w fun e w' => e = .returned (.tuple #[.int .i64 x, .int .i64 z]) ∧ Below w.heap.size w w') := by
  by_cases h : d < 0 ∨ 4 ≤ d ∨ s < 0 ∨ 3 ≤ s
  · exact ⟨0, 3, fun w => plan_Block_no d s w h, fun w => (ref_Block_no d s w h).mono fun e w' ⟨h1, h2⟩ => ⟨h1, by rw [← h2]; exact Below.refl _ _⟩⟩
  · exact ⟨blockI d s, 0, fun w => plan_Block d s w (by omega) (by omega) (by omega) (by omega), fun w => ref_Block d s w (by omega) (by omega) (by omega) (by omega)⟩
set_option maxHeartbeats 800000 in
theorem planTells_walk (b d s : Int) (w : World) (_b0 : -9223372036854775808 ≤ b) (_b1 : b ≤ 9223372036854775807) (_d0 : -9223372036854775808 ≤ d) (_d1 : d ≤ 9223372036854775807) (_s0 : -9223372036854775808 ≤ s) (_s1 : s ≤ 9223372036854775807) :
    Calls Try.prog 8 #[.int .i64 b, .int .i64 d, .int .i64 s] w fun e w' => e = .returned (.bool true) ∧ Below w.heap.size w w' := by
  obtain ⟨x, y, z, hp, hr⟩ := where_both b
  obtain ⟨x2, z2, hp2, hr2⟩ := block_both d s
  have HP := Lib.hid hp
  have HR := Lib.hid hr
  have HP2 := Lib.hid hp2
  have HR2 := Lib.hid hr2
  clear hp hr hp2 hr2
  by_cases hs0 : s < 0
  · go_enter Try.func8, Try.ntmps8
    go_wp2_with fail
    refine (HP.out _).mono ?_
    rintro e w' ⟨rfl, rfl⟩
    go_wp2_with fail
    refine (HR.out _).mono ?_
    rintro e w1 ⟨rfl, hl1⟩
    go_wp2_with fail
    refine (HP2.out _).mono ?_
    rintro e w' ⟨rfl, rfl⟩
    go_wp2_with fail
    refine (HR2.out _).mono ?_
    rintro e w2 ⟨rfl, hl2⟩
    go_wp2_with fail
    go_ret
    exact ⟨rfl, hl1.trans (hl2.mono hl1.size)⟩
  by_cases hs1 : 1000000 < s
  · go_enter Try.func8, Try.ntmps8
    go_wp2_with fail
    refine (HP.out _).mono ?_
    rintro e w' ⟨rfl, rfl⟩
    go_wp2_with fail
    refine (HR.out _).mono ?_
    rintro e w1 ⟨rfl, hl1⟩
    go_wp2_with fail
    refine (HP2.out _).mono ?_
    rintro e w' ⟨rfl, rfl⟩
    go_wp2_with fail
    refine (HR2.out _).mono ?_
    rintro e w2 ⟨rfl, hl2⟩
    go_wp2_with fail
    go_ret
    exact ⟨rfl, hl1.trans (hl2.mono hl1.size)⟩
  · go_enter Try.func8, Try.ntmps8
    go_wp2_with fail
    refine (HP.out _).mono ?_
    rintro e w' ⟨rfl, rfl⟩
    go_wp2_with fail
    refine (HR.out _).mono ?_
    rintro e w1 ⟨rfl, hl1⟩
    go_wp2_with fail
    refine (HP2.out _).mono ?_
    rintro e w' ⟨rfl, rfl⟩
    go_wp2_with fail
    refine (HR2.out _).mono ?_
    rintro e w2 ⟨rfl, hl2⟩
    go_wp2_with fail
    refine (plan_Spare s _ (by omega) (by omega)).mono ?_
    rintro e w' ⟨rfl, rfl⟩
    go_wp2_with fail
    refine (ref_Spare s _ (by omega) (by omega)).mono ?_
    rintro e w3 ⟨rfl, hl3⟩
    have hl := hl1.trans ((hl2.trans (hl3.mono hl2.size)).mono hl1.size)
    clear hl1 hl2 hl3
    generalize 3 - s % 4 = q at *
    go_wp2_with fail
    go_ret
    exact ⟨rfl, hl⟩
namespace planTellsDone
open Go.ChangeShapes Go.WideShapes Go.ChangeAt Go.RowKit M
open Go.ChangeMaps (open_string shut_string)
set_option linter.unusedVariables false
set_option maxRecDepth 100000 in
theorem lifted (os : Os) (started : os.Started) (H : Type) (enc : TypeId × Value → H) :
    ReturnsInHanded {} Try.checked os 8 .any (Rows.planTellsSpec.pre6 enc Try.prog Try.f8 Rows.planTellsRow.domain false) (Rows.planTellsSpec.post enc Try.prog Try.f8 false true false false) := by
  refine returnsInHanded_of_change (C := Try.checked) own started (by kernel_rfl) Try.func8
    (ChangeSpec.witness6 (enc := enc) (C := Try.checked) false ⟨#[], #[.int .i64 0, .int .i64 0, .int .i64 0], []⟩ 8 (by kernel_rfl) (by kernel_rfl) (by kernel_rfl) (by kernel_rfl)) ?_
  intro W base args ds gs before hval0 hW hcnd _
  have hval : ∀ (j : Nat) t v, Try.f8.params[j]? = some t → args[j]? = some v → Value.okWide Try.prog W .any base t v := hval0
  have hW' := hW
  obtain ⟨p, q, hA0, hV, rfl, hfz, hnd⟩ := hW
  have hA : DataW.TrodAll enc Try.prog W 0 (fun _ => true) true Try.f8.params.toList args.toList ds p := hA0
  rw [Try.params8] at hA hval
  obtain ⟨v0, vs0, d0, ds0, p0, q0, hargs, rfl, rfl, h0, r0⟩ := trodAll_cons hA
  obtain ⟨v1, vs1, d1, ds1, p1, q1, rfl, rfl, rfl, h1, r1⟩ := trodAll_cons r0
  obtain ⟨v2, vs2, d2, ds2, p2, q2, rfl, rfl, rfl, h2, r2⟩ := trodAll_cons r1
  obtain ⟨rfl, rfl, rfl⟩ := trodAll_nil r2
  obtain rfl : args = #[v0, v1, v2] := by cases args; simp_all
  obtain ⟨rfl, rfl⟩ := trodVars_none hV
  obtain ⟨a0, rfl, rfl, rfl, w0⟩ := open_int Try.underlying3 (hval 0 3 v0 rfl rfl) h0
  have b0 := bounds_i64 w0
  obtain ⟨a1, rfl, rfl, rfl, w1⟩ := open_int Try.underlying3 (hval 1 3 v1 rfl rfl) h1
  have b1 := bounds_i64 w1
  obtain ⟨a2, rfl, rfl, rfl, w2⟩ := open_int Try.underlying3 (hval 2 3 v2 rfl rfl) h2
  have b2 := bounds_i64 w2
  clear hA0 hval0
  refine (planTells_walk a0 a1 a2 W b0.1 b0.2 b1.1 b1.2 b2.1 b2.2).mono fun e W' ⟨he, bel⟩ => ?_
  subst he
  exact ⟨_, rfl, _, _, _, [], _, [], hW', trodAll_mk1 (shut_bool Try.underlying4 _), (trodAll_cons_mk (shut_int Try.underlying3 w0) (trodAll_cons_mk (shut_int Try.underlying3 w1) (trodAll_cons_mk (shut_int Try.underlying3 w2) trodAll_mk0))), rfl, bel.frame _, fun h => by cases h⟩
theorem over : Rows.planTellsRow.holds Try.pinned (OpenSpec.ofChange Rows.planTellsSpec) :=
  OpenClaim.holds_of_wide 8 Try.f8 rfl rfl rfl rfl rfl rfl rfl ⟨rfl, rfl, rfl, rfl, rfl⟩ rfl rfl rfl rfl rfl (by kernel_rfl) Try.func8 (by kernel_rfl)
    (of_decide_eq_true (by kernel_rfl)) (by unfold Func.isWrapper; first | (rw [if_pos (by decide +kernel)]; kernel_rfl) | (rw [if_neg (by decide +kernel)]; exact ⟨rfl, rfl⟩))
    (fun os started H enc _ => lifted os started H enc)
/-- The statement. -/
theorem proved : Rows.PlanTellsSaid := over
end planTellsDone
end Go.Proofs.Ytobhkdobocjoeaa
