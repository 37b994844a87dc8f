/- Chapter 4: PlanBack holds for every input: the call returns true, and each argument reads behind it as it read before. -/
import Derived.Test.YtobhkdobocjoeaaL4
import Derived.Test.YtobhkdobocjoeaaOpen
namespace Go.Proofs.Ytobhkdobocjoeaa
open Go Go.RowKit M

theorem planBack_out (d s : Int) (w : World) (h : d < 0 ∨ 4 ≤ d ∨ s < 0 ∨ 3 ≤ s) :
    Calls Try.prog 9 #[.int .i64 d, .int .i64 s] w fun e w' => e = .returned (.bool true) ∧ w = w' := by
  have hb := plan_Block_no d s w h
  have HB := Lib.hid hb
  have H := Lib.hid h
  clear hb h
  by_cases h1 : d < 0
  · go_enter Try.func9, Try.ntmps9
    go_wp2_with (first | (go_at_call 34; refine (law4_alive _).mono ?_; rintro e w' ⟨rfl, rfl⟩) | (go_at_call 30; refine HB.out.mono ?_; rintro e w' ⟨rfl, rfl⟩))
    go_ret
    exact ⟨rfl, rfl⟩
  by_cases h2 : 4 ≤ d
  · go_enter Try.func9, Try.ntmps9
    go_wp2_with (first | (go_at_call 34; refine (law4_alive _).mono ?_; rintro e w' ⟨rfl, rfl⟩) | (go_at_call 30; refine HB.out.mono ?_; rintro e w' ⟨rfl, rfl⟩))
    go_ret
    exact ⟨rfl, rfl⟩
  by_cases h3 : s < 0
  · go_enter Try.func9, Try.ntmps9
    go_wp2_with (first | (go_at_call 34; refine (law4_alive _).mono ?_; rintro e w' ⟨rfl, rfl⟩) | (go_at_call 30; refine HB.out.mono ?_; rintro e w' ⟨rfl, rfl⟩))
    go_ret
    exact ⟨rfl, rfl⟩
  have h4 : 3 ≤ s := by have := H.out; omega
  go_enter Try.func9, Try.ntmps9
  go_wp2_with (first | (go_at_call 34; refine (law4_alive _).mono ?_; rintro e w' ⟨rfl, rfl⟩) | (go_at_call 30; refine HB.out.mono ?_; rintro e w' ⟨rfl, rfl⟩))
  go_ret
  exact ⟨rfl, rfl⟩
set_option maxHeartbeats 1600000 in
theorem planBack_walk (d s : Int) (w : World) (_d0 : -9223372036854775808 ≤ d) (_d1 : d ≤ 9223372036854775807) (_s0 : -9223372036854775808 ≤ s) (_s1 : s ≤ 9223372036854775807) :
    Calls Try.prog 9 #[.int .i64 d, .int .i64 s] w fun e w' => e = .returned (.bool true) ∧ Below w.heap.size w w' := by
  by_cases h : d < 0 ∨ 4 ≤ d ∨ s < 0 ∨ 3 ≤ s
  · exact (planBack_out d s w h).mono fun e w' ⟨h1, h2⟩ => ⟨h1, by rw [← h2]; exact Below.refl _ _⟩
  · have hd : d = 0 ∨ d = 1 ∨ d = 2 ∨ d = 3 := by omega
    have hs : s = 0 ∨ s = 1 ∨ s = 2 := by omega
    clear h _d0 _d1 _s0 _s1
    rcases hd with rfl | rfl | rfl | rfl <;> rcases hs with rfl | rfl | rfl
    all_goals
      go_enter Try.func9, Try.ntmps9
      go_wp2_with (go_at_call 34; refine (law4_alive _).mono ?_; rintro e w' ⟨rfl, rfl⟩)
      go_wp2
      go_ret
      exact ⟨rfl, Below.refl _ _⟩
namespace planBackDone
open Go.ChangeShapes Go.WideShapes Go.ChangeAt Go.RowKit M
open Go.ChangeMaps (open_string shut_string)
set_option linter.unusedVariables false
set_option maxRecDepth 100000 in
theorem lifted (os : Os) (started : os.Started) (H : Type) (enc : TypeId × Value → H) :
    ReturnsInHanded {} Try.checked os 9 .any (Rows.planBackSpec.pre6 enc Try.prog Try.f9 Rows.planBackRow.domain false) (Rows.planBackSpec.post enc Try.prog Try.f9 false true false false) := by
  refine returnsInHanded_of_change (C := Try.checked) own started (by kernel_rfl) Try.func9
    (ChangeSpec.witness6 (enc := enc) (C := Try.checked) false ⟨#[], #[.int .i64 0, .int .i64 0], []⟩ 8 (by kernel_rfl) (by kernel_rfl) (by kernel_rfl) (by kernel_rfl)) ?_
  intro W base args ds gs before hval0 hW hcnd _
  have hval : ∀ (j : Nat) t v, Try.f9.params[j]? = some t → args[j]? = some v → Value.okWide Try.prog W .any base t v := hval0
  have hW' := hW
  obtain ⟨p, q, hA0, hV, rfl, hfz, hnd⟩ := hW
  have hA : DataW.TrodAll enc Try.prog W 0 (fun _ => true) true Try.f9.params.toList args.toList ds p := hA0
  rw [Try.params9] at hA hval
  obtain ⟨v0, vs0, d0, ds0, p0, q0, hargs, rfl, rfl, h0, r0⟩ := trodAll_cons hA
  obtain ⟨v1, vs1, d1, ds1, p1, q1, rfl, rfl, rfl, h1, r1⟩ := trodAll_cons r0
  obtain ⟨rfl, rfl, rfl⟩ := trodAll_nil r1
  obtain rfl : args = #[v0, v1] := by cases args; simp_all
  obtain ⟨rfl, rfl⟩ := trodVars_none hV
  obtain ⟨a0, rfl, rfl, rfl, w0⟩ := open_int Try.underlying3 (hval 0 3 v0 rfl rfl) h0
  have b0 := bounds_i64 w0
  obtain ⟨a1, rfl, rfl, rfl, w1⟩ := open_int Try.underlying3 (hval 1 3 v1 rfl rfl) h1
  have b1 := bounds_i64 w1
  clear hA0 hval0
  refine (planBack_walk a0 a1 W b0.1 b0.2 b1.1 b1.2).mono fun e W' ⟨he, bel⟩ => ?_
  subst he
  exact ⟨_, rfl, _, _, _, [], _, [], hW', trodAll_mk1 (shut_bool Try.underlying4 _), (trodAll_cons_mk (shut_int Try.underlying3 w0) (trodAll_cons_mk (shut_int Try.underlying3 w1) trodAll_mk0)), rfl, bel.frame _, fun h => by cases h⟩
theorem over : Rows.planBackRow.holds Try.pinned (OpenSpec.ofChange Rows.planBackSpec) :=
  OpenClaim.holds_of_wide 9 Try.f9 rfl rfl rfl rfl rfl rfl rfl ⟨rfl, rfl, rfl, rfl, rfl⟩ rfl rfl rfl rfl rfl (by kernel_rfl) Try.func9 (by kernel_rfl)
    (of_decide_eq_true (by kernel_rfl)) (by unfold Func.isWrapper; first | (rw [if_pos (by decide +kernel)]; kernel_rfl) | (rw [if_neg (by decide +kernel)]; exact ⟨rfl, rfl⟩))
    (fun os started H enc _ => lifted os started H enc)
/-- The statement. -/
theorem proved : Rows.PlanBackSaid := over
end planBackDone
end Go.Proofs.Ytobhkdobocjoeaa
