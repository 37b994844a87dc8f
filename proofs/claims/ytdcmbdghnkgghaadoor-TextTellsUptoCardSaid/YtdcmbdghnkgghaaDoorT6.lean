/- From a row's own condition to what the walks want of the library's variables; a world for a row's witness. -/
import Derived.Test.YtdcmbdghnkgghaaDoorT5
import Derived.Test.YtdcmbdghnkgghaaDoorCards
import Derived.Test.YtdcmbdghnkgghaaDoorTie
import Derived.OpenShut
import Derived.ProofKit
import Derived.Deep.DeepHandedRow
import Derived.Lib.LaidTab
import Derived.LaidMore
import Derived.MakeChecks
import Derived.Shelf.Vars
import Derived.Stop.LaidErr
import Derived.Deep.DeepWitnessRowRef
namespace Go.Proofs.YtdcmbdghnkgghaaDoor
set_option linter.unusedVariables false
open Go Go.RowKit M
theorem M.open_Is {H : Type} {enc : TypeId × Value → H} {P : Program} {w : World} {base : Nat} {spare : Nat → Bool} {held : Bool} {t e : TypeId} (ht : P.underlying t = some (.slice e)) (he : P.underlying e = some (.int .i64)) (hc : P.cellsOf e = 1) {fuel : Nat} {v : Value} {x : DataW H × List MemPlace} (h : DataW.trod enc P w base spare held fuel t [v] = some x) :
    ∃ ys : List Int, RdL RI w (fun _ => True) v ys ∧ DLen x.1 ys.length := open_RdL ht hc (fun _ _ _ h => open_RI he h) h
theorem gErr1 : Tryd.prog.globalNamed (((Rows.textTellsRow.laid[5]?).map (·.1)).getD default) = some 1 := by kernel_rfl
theorem gErr2 : Tryd.prog.globalNamed (((Rows.textTellsRow.laid[4]?).map (·.1)).getD default) = some 2 := by kernel_rfl
theorem gPow : Tryd.prog.globalNamed powName = some 3 := by kernel_rfl
theorem gErrT (g : Nat) (h : g = 1 ∨ g = 2) : (Tryd.prog.globals[g]?).map (·.type) = some 67 := by rcases h with rfl | rfl <;> kernel_rfl
theorem star : "*" ++ "errors.errorString" = "*errors.errorString" := by decide
theorem rowErr (u : TypeId) (h : Tryd.prog.typeName? 3 u = some "*errors.errorString") : u = 134 :=
  typeName_ptr_named (nm := "errors.errorString") (by rw [star]; kernel_rfl) (by kernel_rfl) (by decide) u (by rw [star]; exact h)
theorem vars_of {W : World} (hL : laidMetH Tryd.prog Rows.textTellsRow.laid W) (hs : W.ShapedOpen Tryd.prog) : Vars W := by
  rw [MakeChecks.laidMetH_plain _ _ _ (by kernel_rfl)] at hL
  have h2 : laidMet Tryd.prog _ W := hL.tail.tail
  have h4 : laidMet Tryd.prog _ W := h2.tail.tail
  have h5 : laidMet Tryd.prog _ W := h4.tail
  refine ⟨Go.Proofs.cell_of_shapedOpen_int (zero := #[.int .i64 0]) (t := 3) hs (of_decide_eq_true (by kernel_rfl)) (by kernel_rfl) rfl (by kernel_rfl) (by kernel_rfl) Tryd.underlying3, ?_, ?_, ?_⟩
  · obtain ⟨a, s, hv, _⟩ := laid_sentinel h5 gErr1 (gErrT 1 (.inl rfl)) Tryd.underlying67 rowErr Tryd.underlying134 Tryd.underlying136 rfl rfl Tryd.underlying9 (by kernel_rfl) (by kernel_rfl)
    exact ⟨_, World.var?_cell gErr1 hv 0, .inr ⟨_, _, rfl⟩⟩
  · obtain ⟨a, s, hv, _⟩ := laid_sentinel h4 gErr2 (gErrT 2 (.inr rfl)) Tryd.underlying67 rowErr Tryd.underlying134 Tryd.underlying136 rfl rfl Tryd.underlying9 (by kernel_rfl) (by kernel_rfl)
    exact ⟨_, World.var?_cell gErr2 hv 0, .inr ⟨_, _, rfl⟩⟩
  · exact Lib.tabIs_of_head (rest := _) gPow (by kernel_rfl) Tryd.underlying138 Tryd.underlying119 (by kernel_rfl) (by kernel_rfl) h2
/-- The settled world behind the door's own run, with the table that is pinned by name. -/
noncomputable def laidWorld (os : Os) : World :=
  { World.doorLaid Tryd.prog 400 os with heap := (World.doorLaid Tryd.prog 400 os).heap.modify 4 fun
      | .cells _ t frozen => .cells (Pinned.utf8FirstZ.map fun n => Value.int .u8 (n : Nat)).toArray t frozen
      | o => o }
theorem laid_met (os : Os) (args : Array Value) : laidMet Tryd.prog Rows.textTellsRow.laid ((laidWorld os).forCall (fun _ _ => 0) ⟨#[], args, []⟩).memory :=
  laidMet_of_run' 8 (by kernel_rfl) (by kernel_rfl)
theorem laid_metH (os : Os) (args : Array Value) : laidMetH Tryd.prog Rows.textTellsRow.laid ((laidWorld os).forCall (fun _ _ => 0) ⟨#[], args, []⟩).memory := by
  rw [MakeChecks.laidMetH_plain _ _ _ (by kernel_rfl)]
  exact laid_met os args
end Go.Proofs.YtdcmbdghnkgghaaDoor
