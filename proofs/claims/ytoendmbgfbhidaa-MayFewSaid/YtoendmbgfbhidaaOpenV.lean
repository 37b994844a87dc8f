/- The arguments of a law, opened: a step by value. No walk here. -/
import Derived.Test.YtoendmbgfbhidaaOpenS
namespace Go.Proofs.Ytoendmbgfbhidaa
set_option linter.unusedVariables false
open Go Go.RowKit Go.ChangeShapes Go.WideShapes Go.Deep Go.Joins M
section
variable {H : Type} {enc : TypeId × Value → H} {w : World} {base : Nat} {spare : Nat → Bool} {held : Bool}
set_option maxRecDepth 100000 in
theorem open_stepv {r : Reach} {b0 : Nat} {v : Value} {d : DataW H} {p : List MemPlace} (hv : Value.okWide Try.prog w r b0 68 v) (h : DataW.Trod enc Try.prog w base spare held 68 v d p) :
    ∃ s : Step, RdSt w (fun _ => True) v s ∧ -9223372036854775808 ≤ s.n := by
  obtain ⟨cs, rfl, hsz⟩ := okWide_struct Try.underlying68 hv
  obtain ⟨fuel, hf⟩ := h
  obtain ⟨s, u, hcs, hb, hd⟩ := open_step3 hf
  refine ⟨s, ⟨u, ?_, hb.2, hd⟩, hb.1⟩
  have e : cs.toList = _ := hcs
  congr 1
  apply Array.ext'
  exact e
end
end Go.Proofs.Ytoendmbgfbhidaa
