/- Chapter 12: MayWalk holds for every input: the call returns true, and each argument reads behind it as it read before. -/
import Derived.Test.YtoendmbgfbhidaaL12
import Derived.Test.YtoendmbgfbhidaaOpenV
namespace Go.Proofs.Ytoendmbgfbhidaa
set_option linter.unusedVariables false
open Go Go.RowKit M
theorem walkN_le (a : Arr) (l : List Step) : walkN a l ≤ l.length := by
  induction l generalizing a with
  | nil => exact Nat.le_refl _
  | cons s l ih =>
    unfold walkN
    split
    · exact Nat.zero_le _
    · have := ih (stepP a s).1
      simp only [List.length_cons]
      omega
set_option maxRecDepth 100000 in
set_option maxHeartbeats 1600000 in
theorem mayWalk_walk (l : List Step) (vl : Value) (w : World) (hl : RdSts w (fun _ => True) vl l ∧ Lo l) :
    Calls Try.prog 12 #[vl] w fun e w' => e = .returned (.bool true) ∧ Below w.heap.size w w' := by
  obtain ⟨Ast, cst, rfl, _, _⟩ := id hl.1
  have HL0 := Lib.hid hl.1
  have HLO := Lib.hid hl.2
  clear hl
  go_enter Try.func12, Try.ntmps12
  go_wp2_with fail
  refine (law12_alive _).mono ?_
  rintro e w0 ⟨rfl, hb⟩
  have HBel := Lib.hid hb
  have HL := Lib.hid (HL0.out.below hb fun _ _ hk => hk)
  clear hb HL0
  go_wp2_with fail
  refine (may_Walk l _ _ HL.out HLO.out).mono ?_
  rintro e w1 ⟨rfl, hb⟩
  have hle := walkN_le newA l
  generalize walkN newA l = n at *
  have hbe := HBel.out.trans (hb.mono HBel.out.size)
  have d0 : decide ((0 : Int) ≤ (n : Int)) = true := by simp
  have d1 : decide ((n : Int) ≤ (l.length : Int)) = true := by simp; omega
  have d2 : decide (n ≤ l.length) = true := by simpa using hle
  clear hb
  go_wp2
  go_ret
  exact ⟨rfl, hbe⟩
namespace mayWalkDone
open Go.ChangeShapes Go.WideShapes Go.ChangeAt Go.RowKit M
open Go.ChangeMaps (open_string shut_string)
set_option linter.unusedVariables false
set_option maxRecDepth 100000 in
theorem lifted (os : Os) (started : os.Started) (H : Type) (enc : TypeId × Value → H) :
    ReturnsInHanded {} Try.checked os 12 .any (Rows.mayWalkSpec.pre6 enc Try.prog Try.f12 Rows.mayWalkRow.domain false) (Rows.mayWalkSpec.post enc Try.prog Try.f12 false true false false) := by
  refine returnsInHanded_of_change (C := Try.checked) own started (by kernel_rfl) Try.func12
    (ChangeSpec.witness6 (enc := enc) (C := Try.checked) false ⟨#[], #[.slice none 0 0], []⟩ 8 (by kernel_rfl) (by kernel_rfl) (by kernel_rfl) (by kernel_rfl)) ?_
  intro W base args ds gs before hval0 hW hcnd _
  have hval : ∀ (j : Nat) t v, Try.f12.params[j]? = some t → args[j]? = some v → Value.okWide Try.prog W .any base t v := hval0
  have hW' := hW
  obtain ⟨p, q, hA0, hV, rfl, hfz, hnd⟩ := hW
  have hA : DataW.TrodAll enc Try.prog W 0 (fun _ => true) true Try.f12.params.toList args.toList ds p := hA0
  rw [Try.params12] at hA hval
  obtain ⟨v0, vs0, d0, ds0, p0, q0, hargs, rfl, rfl, h0, r0⟩ := trodAll_cons hA
  obtain ⟨rfl, rfl, rfl⟩ := trodAll_nil r0
  obtain rfl : args = #[v0] := by cases args; simp_all
  obtain ⟨rfl, rfl⟩ := trodVars_none hV
  obtain ⟨a0, len0, cap0, rfl⟩ := okWide_slice Try.underlying22 (hval 0 22 v0 rfl rfl)
  have k0 := h0
  have lt0 : ∀ x ∈ p0, x.block < W.heap.size := by obtain ⟨m, hm⟩ := k0; exact DataW.trod_lt m _ _ _ hm
  obtain ⟨fuel0, hf0⟩ := h0
  obtain ⟨b0, w0, l0⟩ := open_steps3 hf0
  clear hA0 hval0
  refine (mayWalk_walk b0 _ W w0).mono fun e W' ⟨he, bel⟩ => ?_
  subst he
  exact ⟨_, rfl, _, _, _, [], _, [], hW', trodAll_mk1 (shut_bool Try.underlying4 _), (trodAll_cons_mk (Below.trod laidOut (by kernel_rfl) (of_decide_eq_true (by kernel_rfl)) k0 bel lt0) trodAll_mk0), rfl, bel.frame _, fun h => by cases h⟩
theorem over : Rows.mayWalkRow.holds Try.pinned (OpenSpec.ofChange Rows.mayWalkSpec) :=
  OpenClaim.holds_of_wide 12 Try.f12 rfl rfl rfl rfl rfl rfl rfl ⟨rfl, rfl, rfl, rfl, rfl⟩ rfl rfl rfl rfl rfl (by kernel_rfl) Try.func12 (by kernel_rfl)
    (of_decide_eq_true (by kernel_rfl)) (by unfold Func.isWrapper; first | (rw [if_pos (by decide +kernel)]; kernel_rfl) | (rw [if_neg (by decide +kernel)]; exact ⟨rfl, rfl⟩))
    (fun os started H enc _ => lifted os started H enc)
/-- The statement. -/
theorem proved : Rows.MayWalkSaid := over
end mayWalkDone
end Go.Proofs.Ytoendmbgfbhidaa
