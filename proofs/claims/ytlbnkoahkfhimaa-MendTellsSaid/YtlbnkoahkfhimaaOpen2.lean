/- The arguments of a law, opened: a deed. No walk here. -/
import Derived.Test.YtlbnkoahkfhimaaOpen
import Derived.Test.YtlbnkoahkfhimaaC5
import Derived.Lib.SmallJoins
namespace Go.Proofs.Ytlbnkoahkfhimaa
set_option linter.unusedVariables false
open Go Go.RowKit Go.ChangeShapes Go.WideShapes Go.Deep Go.Joins M
section
variable {H : Type} {enc : TypeId × Value → H} {w : World} {base : Nat} {spare : Nat → Bool} {held : Bool}
theorem open_int1 {t : TypeId} (ht : Try.prog.underlying t = some (.int .i64)) {fuel : Nat} {v : Value} {x : DataW H × List MemPlace} (h : DataW.trod enc Try.prog w base spare held fuel t [v] = some x) : ∃ n : Int, v = .int .i64 n := by
  obtain ⟨n, hv, _, _⟩ := DataW.trod_int ht h
  exact ⟨n, by simpa using hv⟩
theorem open_deed {r : Reach} {b0 : Nat} {v : Value} {d : DataW H} {p : List MemPlace} (hv : Value.okWide Try.prog w r b0 25 v) (h : DataW.Trod enc Try.prog w base spare held 25 v d p) : ∃ dd : Deed, RdD w (fun _ => True) v dd := by
  obtain ⟨v0, v1, v2, v3, y0, y1, y2, y3, n, rfl, _, _, h0, h1, h2, h3⟩ := open_agg4 Try.underlying25 (by kernel_rfl) (by kernel_rfl) hv h
  obtain ⟨a0, rfl⟩ := open_int1 Try.underlying3 h0
  obtain ⟨a1, rfl⟩ := open_int1 Try.underlying3 h1
  obtain ⟨a2, rfl⟩ := open_int1 Try.underlying3 h2
  obtain ⟨b, hb, _⟩ := M.open_B Try.underlying23 Try.underlying5 (by kernel_rfl) h3
  exact ⟨⟨a0, a1, a2, b⟩, _, rfl, hb⟩
end
end Go.Proofs.Ytlbnkoahkfhimaa
