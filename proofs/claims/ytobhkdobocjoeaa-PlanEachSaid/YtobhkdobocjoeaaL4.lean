/- Chapter 4: what the laws' own helper answers. -/
import Derived.Test.YtobhkdobocjoeaaC4
namespace Go.Proofs.Ytobhkdobocjoeaa
open Go Go.RowKit M

set_option maxHeartbeats 800000 in
theorem law4_alive (w : World) : Calls Try.prog 34 #[] w fun e w' => e = .returned (.bool true) ∧ w = w' := by
  go_enter Try.func34, Try.ntmps34
  go_wp2_with fail
  refine (plan_Where 5 _ (by decide)).mono ?_
  rintro e w' ⟨rfl, rfl⟩
  rw [show ((where_ 5 : Nat) : Int) = 3 from rfl, show ((5 / 3 : Nat) : Int) = 1 from rfl]
  go_wp2_with fail
  refine (plan_Block 3 1 _ (by decide) (by decide) (by decide) (by decide)).mono ?_
  rintro e w' ⟨rfl, rfl⟩
  rw [show blockI 3 1 = 5 from rfl]
  go_wp2_with fail
  refine (plan_Where_no 9 _ (by decide)).mono ?_
  rintro e w' ⟨rfl, rfl⟩
  go_wp2_with fail
  refine (plan_Spare 1 _ (by decide) (by decide)).mono ?_
  rintro e w' ⟨rfl, rfl⟩
  rw [show (3 : Int) - 1 % 4 = 2 from rfl]
  go_wp2_with fail
  refine (plan_Block 2 1 _ (by decide) (by decide) (by decide) (by decide)).mono ?_
  rintro e w' ⟨rfl, rfl⟩
  rw [show blockI 2 1 = -1 from rfl]
  go_wp2_with fail
  go_ret
  exact ⟨rfl, rfl⟩
end Go.Proofs.Ytobhkdobocjoeaa
