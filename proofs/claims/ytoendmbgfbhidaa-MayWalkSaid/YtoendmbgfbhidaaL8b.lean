/- Chapter 8: facts of deeds, in plain Lean. -/
import Derived.Test.YtoendmbgfbhidaaL8
import Derived.Test.YtoendmbgfbhidaaOpenS
import Derived.Test.YtoendmbgfbhidaaZg
namespace Go.Proofs.Ytoendmbgfbhidaa
set_option linter.unusedVariables false
open Go Go.RowKit M
theorem do_ints {a : Arr} (h : a.ints = []) (d : Deed) : (doA a d).1.ints = [] := by
  by_cases he : (planA a.disks d).2 = 0
  · rw [doA_okA he]; rfl
  · rw [doA_bad he]; exact h
theorem doA_wrong {a : Arr} {d : Deed} (h : wrongI d ≠ 0) : doA a d = (a, wrongI d) := by
  have hp := plan_wrong (D := a.disks) h
  rw [doA_bad (by rw [hp]; exact h), hp]
theorem doA_good {a : Arr} {Q : Nat → List Bs} (h : M.Good a Q) (hc : M.Calm a) {d : Deed} (hr : wrongI d = 0) : (doA a d).2 = 0 ∧ M.Good (doA a d).1 (doQ Q d) ∧ M.Calm (doA a d).1 := by
  obtain ⟨⟨n0, n1⟩, _⟩ := wrong_ok hr
  have hp := good_plan h hr (hc _ (by omega))
  have e : doA a d = (putA a (((d.n.toNat / 3 : Nat) : Int), makeL (planData (Q (d.n.toNat / 3)) d) (d.n.toNat / 3)), 0) := by
    rw [doA_okA (by rw [hp]), hp]; rfl
  obtain ⟨g1, g2⟩ := good_do h hr
  rw [e]
  exact ⟨rfl, g1, g2 hc⟩
end Go.Proofs.Ytoendmbgfbhidaa
