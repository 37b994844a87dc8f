/- What all walks share: the closed facts of the types, small forms. -/
import Derived.Test.YtlbnkoahkfhimaaRows
import Derived.Test.YtlbnkoahkfhimaaMem
import Derived.WalkKit
import Derived.WalkSpells
import Derived.WalkLawsBesides
import Derived.Handy
import Derived.Lib.Hide
import Derived.Lib.SlBytesConst
import Derived.Deep.QuietTactic
import Derived.BigQuiet
import Derived.Deep.DeepFit
import Derived.Deep.DeepMust
import Derived.Deep.LoopGhost
import Derived.Deep.RegionWith
namespace Go.Proofs.Ytlbnkoahkfhimaa
set_option linter.unusedVariables false
open Go.RowKit M

theorem own : ownKnob Try.prog.godebug = none := by kernel_rfl
theorem laidOut : laidOutB Try.prog = true := by kernel_rfl

theorem ret_int {k : IntKind} {a b : Int} (h : a = b) : Ending.returned (.int k a) = .returned (.int k b) := by rw [h]
theorem ret_bool {a b : Bool} (h : a = b) : Ending.returned (.bool a) = .returned (.bool b) := by rw [h]
theorem sl_of {t e : TypeId} {z : Value} {bytes : Nat} (ht : Try.prog.underlying t = some (.slice e)) (h : (Try.prog.info? e).map (fun i => (i.zero, i.size, i.bytes)) = some (some z, 1, bytes)) (hz : z.cells.size = 1) (hp : 0 < bytes) : M.SlTy Try.prog t e bytes := by
  obtain ⟨i, hi, h0, h1, h2⟩ := info_parts h
  exact ⟨i, z, ht, hi, h0, h1, h2, hz, hp⟩
theorem slB : M.SlTy Try.prog 23 5 1 := sl_of Try.underlying23 (z := .int .u8 0) (by kernel_rfl) rfl (by decide)
theorem slBB : M.SlTy Try.prog 22 23 24 := sl_of Try.underlying22 (z := .slice none 0 0) (by kernel_rfl) rfl (by decide)
end Go.Proofs.Ytlbnkoahkfhimaa
