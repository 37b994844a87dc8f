/-
  No cell of these rows narrows 'for every input' (looked for: loops, veiled, ifaces, maps, wideKeys, modest, calm, conditions, laid).
  DERIVED. THE GIVEN ROWS OF THIS SEAT. 12 by the template 'for every input the law returns true; each argument reads behind the call as it read before'; 0 by the template 'total and deterministic' (their statements: YtobhkdobocjoeaaTotals.lean).
  GIVEN WITH THE SEED: the statements are not yours to turn. If you find one false, say at which input.
  Laid BY PROGRAM, IN A SANDBOX (cutbox-rows.mjs): the forced cells as the released guide's own fill.sh prints them over the translation 54daedc986081757… (all of the seat's roots in one cut). By AI agents, Wed Nov 11 2026. No macro, syntax, notation, axiom, sorry.
-/
import Derived.Test.YtobhkdobocjoeaaChecked
import GoSem.Claim
import GoSem.ClaimJoined
import GoSem.ClaimMapViews
import Derived.JoinedTies
import Derived.KernelRfl
namespace Go.Proofs.Ytobhkdobocjoeaa
/- THE CELL 'sum', in the pinned program and in every row, IS THE sha256 OF THE DUMP (.gsa) THAT YtobhkdobocjoeaaProg.lean LOADS. Nothing in Lean hashes anything: it is a label: what it is worth is what the hold of that sum in a sandbox is worth. -/
noncomputable def Try.pinned : Pinned := { name := "ytobhkdobocjoeaa", sum := "54daedc986081757e1551ab16827c00595522c9b96f14e11f49d69e5b264c83d", checked := Try.checked }
namespace Rows
def none {H : Type} : Left H := { results := [], args := [] }

/-- 'mhlaw1.SumTells': WHATEVER THE INPUT: true; the input reads as it did. -/
def sumTellsSpec : ChangeSpec := { name := "sumTells", fn := fun _ => fun
  | [d] => { results := [.lit (.bool true)], args := [d] }
  | _ => none }
def sumTellsRow : OpenClaim := { program := "ytobhkdobocjoeaa", sum := "54daedc986081757e1551ab16827c00595522c9b96f14e11f49d69e5b264c83d", func := "mirrorheal/mhlaw1.SumTells", spec := "sumTells", apart := false }
def SumTellsSaid : Prop := sumTellsRow.holds Try.pinned (OpenSpec.ofChange sumTellsSpec)

/-- ITS FALSE NEIGHBOUR: 'it returns false'. Refute it at one input. -/
def sumTellsWrong : ChangeSpec := { name := "sumTells", fn := fun _ => fun
  | [d] => { results := [.lit (.bool false)], args := [d] }
  | _ => none }
def SumTellsWrongFalsely : Prop := sumTellsRow.holds Try.pinned (OpenSpec.ofChange sumTellsWrong)

/-- 'mhlaw1.SumByte': WHATEVER THE INPUT: true; the input reads as it did. -/
def sumByteSpec : ChangeSpec := { name := "sumByte", fn := fun _ => fun
  | [d1, d2, d3] => { results := [.lit (.bool true)], args := [d1, d2, d3] }
  | _ => none }
def sumByteRow : OpenClaim := { program := "ytobhkdobocjoeaa", sum := "54daedc986081757e1551ab16827c00595522c9b96f14e11f49d69e5b264c83d", func := "mirrorheal/mhlaw1.SumByte", spec := "sumByte", apart := false }
def SumByteSaid : Prop := sumByteRow.holds Try.pinned (OpenSpec.ofChange sumByteSpec)

/-- ITS FALSE NEIGHBOUR: 'it returns false'. Refute it at one input. -/
def sumByteWrong : ChangeSpec := { name := "sumByte", fn := fun _ => fun
  | [d1, d2, d3] => { results := [.lit (.bool false)], args := [d1, d2, d3] }
  | _ => none }
def SumByteWrongFalsely : Prop := sumByteRow.holds Try.pinned (OpenSpec.ofChange sumByteWrong)

/-- 'mhlaw3.XorTells': WHATEVER THE INPUT: true; the input reads as it did. -/
def xorTellsSpec : ChangeSpec := { name := "xorTells", fn := fun _ => fun
  | [d1, d2, d3] => { results := [.lit (.bool true)], args := [d1, d2, d3] }
  | _ => none }
def xorTellsRow : OpenClaim := { program := "ytobhkdobocjoeaa", sum := "54daedc986081757e1551ab16827c00595522c9b96f14e11f49d69e5b264c83d", func := "mirrorheal/mhlaw3.XorTells", spec := "xorTells", apart := false }
def XorTellsSaid : Prop := xorTellsRow.holds Try.pinned (OpenSpec.ofChange xorTellsSpec)

/-- ITS FALSE NEIGHBOUR: 'it returns false'. Refute it at one input. -/
def xorTellsWrong : ChangeSpec := { name := "xorTells", fn := fun _ => fun
  | [d1, d2, d3] => { results := [.lit (.bool false)], args := [d1, d2, d3] }
  | _ => none }
def XorTellsWrongFalsely : Prop := xorTellsRow.holds Try.pinned (OpenSpec.ofChange xorTellsWrong)

/-- 'mhlaw3.XorSame': WHATEVER THE INPUT: true; the input reads as it did. -/
def xorSameSpec : ChangeSpec := { name := "xorSame", fn := fun _ => fun
  | [d1, d2, d3] => { results := [.lit (.bool true)], args := [d1, d2, d3] }
  | _ => none }
def xorSameRow : OpenClaim := { program := "ytobhkdobocjoeaa", sum := "54daedc986081757e1551ab16827c00595522c9b96f14e11f49d69e5b264c83d", func := "mirrorheal/mhlaw3.XorSame", spec := "xorSame", apart := false }
def XorSameSaid : Prop := xorSameRow.holds Try.pinned (OpenSpec.ofChange xorSameSpec)

/-- ITS FALSE NEIGHBOUR: 'it returns false'. Refute it at one input. -/
def xorSameWrong : ChangeSpec := { name := "xorSame", fn := fun _ => fun
  | [d1, d2, d3] => { results := [.lit (.bool false)], args := [d1, d2, d3] }
  | _ => none }
def XorSameWrongFalsely : Prop := xorSameRow.holds Try.pinned (OpenSpec.ofChange xorSameWrong)

/-- 'mhlaw3.XorBack': WHATEVER THE INPUT: true; the input reads as it did. -/
def xorBackSpec : ChangeSpec := { name := "xorBack", fn := fun _ => fun
  | [d1, d2] => { results := [.lit (.bool true)], args := [d1, d2] }
  | _ => none }
def xorBackRow : OpenClaim := { program := "ytobhkdobocjoeaa", sum := "54daedc986081757e1551ab16827c00595522c9b96f14e11f49d69e5b264c83d", func := "mirrorheal/mhlaw3.XorBack", spec := "xorBack", apart := false }
def XorBackSaid : Prop := xorBackRow.holds Try.pinned (OpenSpec.ofChange xorBackSpec)

/-- ITS FALSE NEIGHBOUR: 'it returns false'. Refute it at one input. -/
def xorBackWrong : ChangeSpec := { name := "xorBack", fn := fun _ => fun
  | [d1, d2] => { results := [.lit (.bool false)], args := [d1, d2] }
  | _ => none }
def XorBackWrongFalsely : Prop := xorBackRow.holds Try.pinned (OpenSpec.ofChange xorBackWrong)

/-- 'mhlaw4.PlanTells': WHATEVER THE INPUT: true; the input reads as it did. -/
def planTellsSpec : ChangeSpec := { name := "planTells", fn := fun _ => fun
  | [d1, d2, d3] => { results := [.lit (.bool true)], args := [d1, d2, d3] }
  | _ => none }
def planTellsRow : OpenClaim := { program := "ytobhkdobocjoeaa", sum := "54daedc986081757e1551ab16827c00595522c9b96f14e11f49d69e5b264c83d", func := "mirrorheal/mhlaw4.PlanTells", spec := "planTells", apart := false }
def PlanTellsSaid : Prop := planTellsRow.holds Try.pinned (OpenSpec.ofChange planTellsSpec)

/-- ITS FALSE NEIGHBOUR: 'it returns false'. Refute it at one input. -/
def planTellsWrong : ChangeSpec := { name := "planTells", fn := fun _ => fun
  | [d1, d2, d3] => { results := [.lit (.bool false)], args := [d1, d2, d3] }
  | _ => none }
def PlanTellsWrongFalsely : Prop := planTellsRow.holds Try.pinned (OpenSpec.ofChange planTellsWrong)

/-- 'mhlaw4.PlanBack': WHATEVER THE INPUT: true; the input reads as it did. -/
def planBackSpec : ChangeSpec := { name := "planBack", fn := fun _ => fun
  | [d1, d2] => { results := [.lit (.bool true)], args := [d1, d2] }
  | _ => none }
def planBackRow : OpenClaim := { program := "ytobhkdobocjoeaa", sum := "54daedc986081757e1551ab16827c00595522c9b96f14e11f49d69e5b264c83d", func := "mirrorheal/mhlaw4.PlanBack", spec := "planBack", apart := false }
def PlanBackSaid : Prop := planBackRow.holds Try.pinned (OpenSpec.ofChange planBackSpec)

/-- ITS FALSE NEIGHBOUR: 'it returns false'. Refute it at one input. -/
def planBackWrong : ChangeSpec := { name := "planBack", fn := fun _ => fun
  | [d1, d2] => { results := [.lit (.bool false)], args := [d1, d2] }
  | _ => none }
def PlanBackWrongFalsely : Prop := planBackRow.holds Try.pinned (OpenSpec.ofChange planBackWrong)

/-- 'mhlaw4.PlanEach': WHATEVER THE INPUT: true; the input reads as it did. -/
def planEachSpec : ChangeSpec := { name := "planEach", fn := fun _ => fun
  | [d1, d2] => { results := [.lit (.bool true)], args := [d1, d2] }
  | _ => none }
def planEachRow : OpenClaim := { program := "ytobhkdobocjoeaa", sum := "54daedc986081757e1551ab16827c00595522c9b96f14e11f49d69e5b264c83d", func := "mirrorheal/mhlaw4.PlanEach", spec := "planEach", apart := false }
def PlanEachSaid : Prop := planEachRow.holds Try.pinned (OpenSpec.ofChange planEachSpec)

/-- ITS FALSE NEIGHBOUR: 'it returns false'. Refute it at one input. -/
def planEachWrong : ChangeSpec := { name := "planEach", fn := fun _ => fun
  | [d1, d2] => { results := [.lit (.bool false)], args := [d1, d2] }
  | _ => none }
def PlanEachWrongFalsely : Prop := planEachRow.holds Try.pinned (OpenSpec.ofChange planEachWrong)

/-- 'mhlaw2.CellTells': WHATEVER THE INPUT: true; the input reads as it did. -/
def cellTellsSpec : ChangeSpec := { name := "cellTells", fn := fun _ => fun
  | [d1, d2, d3, d4] => { results := [.lit (.bool true)], args := [d1, d2, d3, d4] }
  | _ => none }
def cellTellsRow : OpenClaim := { program := "ytobhkdobocjoeaa", sum := "54daedc986081757e1551ab16827c00595522c9b96f14e11f49d69e5b264c83d", func := "mirrorheal/mhlaw2.CellTells", spec := "cellTells", apart := false }
def CellTellsSaid : Prop := cellTellsRow.holds Try.pinned (OpenSpec.ofChange cellTellsSpec)

/-- ITS FALSE NEIGHBOUR: 'it returns false'. Refute it at one input. -/
def cellTellsWrong : ChangeSpec := { name := "cellTells", fn := fun _ => fun
  | [d1, d2, d3, d4] => { results := [.lit (.bool false)], args := [d1, d2, d3, d4] }
  | _ => none }
def CellTellsWrongFalsely : Prop := cellTellsRow.holds Try.pinned (OpenSpec.ofChange cellTellsWrong)

/-- 'mhlaw2.CellUnlike': WHATEVER THE INPUT: true; the input reads as it did. -/
def cellUnlikeSpec : ChangeSpec := { name := "cellUnlike", fn := fun _ => fun
  | [d1, d2, d3, d4, d5, d6] => { results := [.lit (.bool true)], args := [d1, d2, d3, d4, d5, d6] }
  | _ => none }
def cellUnlikeRow : OpenClaim := { program := "ytobhkdobocjoeaa", sum := "54daedc986081757e1551ab16827c00595522c9b96f14e11f49d69e5b264c83d", func := "mirrorheal/mhlaw2.CellUnlike", spec := "cellUnlike", apart := false }
def CellUnlikeSaid : Prop := cellUnlikeRow.holds Try.pinned (OpenSpec.ofChange cellUnlikeSpec)

/-- ITS FALSE NEIGHBOUR: 'it returns false'. Refute it at one input. -/
def cellUnlikeWrong : ChangeSpec := { name := "cellUnlike", fn := fun _ => fun
  | [d1, d2, d3, d4, d5, d6] => { results := [.lit (.bool false)], args := [d1, d2, d3, d4, d5, d6] }
  | _ => none }
def CellUnlikeWrongFalsely : Prop := cellUnlikeRow.holds Try.pinned (OpenSpec.ofChange cellUnlikeWrong)

/-- 'mhtop.Names': WHATEVER THE INPUT: true; the input reads as it did. -/
def namesSpec : ChangeSpec := { name := "names", fn := fun _ => fun
  | [] => { results := [.lit (.bool true)], args := [] }
  | _ => none }
def namesRow : OpenClaim := { program := "ytobhkdobocjoeaa", sum := "54daedc986081757e1551ab16827c00595522c9b96f14e11f49d69e5b264c83d", func := "mirrorheal/mhtop.Names", spec := "names", apart := false }
def NamesSaid : Prop := namesRow.holds Try.pinned (OpenSpec.ofChange namesSpec)

/-- ITS FALSE NEIGHBOUR: 'it returns false'. Refute it at one input. -/
def namesWrong : ChangeSpec := { name := "names", fn := fun _ => fun
  | [] => { results := [.lit (.bool false)], args := [] }
  | _ => none }
def NamesWrongFalsely : Prop := namesRow.holds Try.pinned (OpenSpec.ofChange namesWrong)

/-- 'mhlaw2.CellByte': WHATEVER THE INPUT: true; the input reads as it did. -/
def cellByteSpec : ChangeSpec := { name := "cellByte", fn := fun _ => fun
  | [d1, d2, d3, d4, d5, d6] => { results := [.lit (.bool true)], args := [d1, d2, d3, d4, d5, d6] }
  | _ => none }
def cellByteRow : OpenClaim := { program := "ytobhkdobocjoeaa", sum := "54daedc986081757e1551ab16827c00595522c9b96f14e11f49d69e5b264c83d", func := "mirrorheal/mhlaw2.CellByte", spec := "cellByte", apart := false }
def CellByteSaid : Prop := cellByteRow.holds Try.pinned (OpenSpec.ofChange cellByteSpec)

/-- ITS FALSE NEIGHBOUR: 'it returns false'. Refute it at one input. -/
def cellByteWrong : ChangeSpec := { name := "cellByte", fn := fun _ => fun
  | [d1, d2, d3, d4, d5, d6] => { results := [.lit (.bool false)], args := [d1, d2, d3, d4, d5, d6] }
  | _ => none }
def CellByteWrongFalsely : Prop := cellByteRow.holds Try.pinned (OpenSpec.ofChange cellByteWrong)

/- THE SECOND FORM. 'bulk': how many values and letters a reading holds, each counted each time it is reached (what is shared counts as often as it is met; a slice's spare places count too). A statement '..UptoSaid' is the law's where the arguments, and the package variables that the reading takes, are together of bulk at most 1048576: NARROWER than '..Said'. Prove '..Said' where nothing that the law and all that it calls make is longer than what came in: it says more and counts as full. Else prove '..UptoSaid'. A law counts once. -/
mutual
def uptoBulk {H : Type} : DataW H → Nat
  | .lit (.string bytes) => bytes.length + 1
  | .lit _ => 1
  | .nil => 1
  | .ptr d => uptoBulk d + 1
  | .slice elems spare => uptoBulkAll elems + uptoBulkAll spare + 1
  | .agg parts => uptoBulkAll parts + 1
  | .iface _ d => uptoBulk d + 1
  | .map entries => uptoBulkEntries entries + 1
  | .held _ => 1
def uptoBulkAll {H : Type} : List (DataW H) → Nat
  | [] => 0
  | d :: r => uptoBulk d + uptoBulkAll r
def uptoBulkEntries {H : Type} : List (Lit × DataW H) → Nat
  | [] => 0
  | x :: r => uptoBulkEntry x + uptoBulkEntries r
def uptoBulkEntry {H : Type} : Lit × DataW H → Nat
  | (.string bytes, d) => bytes.length + uptoBulk d + 1
  | (_, d) => uptoBulk d + 1
 end
def uptoSmall : (H : Type) → List (DataW H) → Bool := fun _ ds => decide (uptoBulkAll ds ≤ 1048576)
def OpenSpec.upto (s : _root_.Go.ChangeSpec) : _root_.Go.OpenSpec := { _root_.Go.OpenSpec.ofChange s with cond := some uptoSmall }

/-- 'mhlaw1.SumTells', WHERE WHAT IT READS IS OF BULK AT MOST 1048576: true; the input reads as it did. -/
def sumTellsUptoRow : OpenClaim := { program := "ytobhkdobocjoeaa", sum := "54daedc986081757e1551ab16827c00595522c9b96f14e11f49d69e5b264c83d", func := "mirrorheal/mhlaw1.SumTells", spec := "sumTells", apart := false, narrowed := true }
def SumTellsUptoSaid : Prop := sumTellsUptoRow.holds Try.pinned (OpenSpec.upto sumTellsSpec)

/-- 'mhlaw1.SumByte', WHERE WHAT IT READS IS OF BULK AT MOST 1048576: true; the input reads as it did. -/
def sumByteUptoRow : OpenClaim := { program := "ytobhkdobocjoeaa", sum := "54daedc986081757e1551ab16827c00595522c9b96f14e11f49d69e5b264c83d", func := "mirrorheal/mhlaw1.SumByte", spec := "sumByte", apart := false, narrowed := true }
def SumByteUptoSaid : Prop := sumByteUptoRow.holds Try.pinned (OpenSpec.upto sumByteSpec)

/-- 'mhlaw3.XorTells', WHERE WHAT IT READS IS OF BULK AT MOST 1048576: true; the input reads as it did. -/
def xorTellsUptoRow : OpenClaim := { program := "ytobhkdobocjoeaa", sum := "54daedc986081757e1551ab16827c00595522c9b96f14e11f49d69e5b264c83d", func := "mirrorheal/mhlaw3.XorTells", spec := "xorTells", apart := false, narrowed := true }
def XorTellsUptoSaid : Prop := xorTellsUptoRow.holds Try.pinned (OpenSpec.upto xorTellsSpec)

/-- 'mhlaw3.XorSame', WHERE WHAT IT READS IS OF BULK AT MOST 1048576: true; the input reads as it did. -/
def xorSameUptoRow : OpenClaim := { program := "ytobhkdobocjoeaa", sum := "54daedc986081757e1551ab16827c00595522c9b96f14e11f49d69e5b264c83d", func := "mirrorheal/mhlaw3.XorSame", spec := "xorSame", apart := false, narrowed := true }
def XorSameUptoSaid : Prop := xorSameUptoRow.holds Try.pinned (OpenSpec.upto xorSameSpec)

/-- 'mhlaw3.XorBack', WHERE WHAT IT READS IS OF BULK AT MOST 1048576: true; the input reads as it did. -/
def xorBackUptoRow : OpenClaim := { program := "ytobhkdobocjoeaa", sum := "54daedc986081757e1551ab16827c00595522c9b96f14e11f49d69e5b264c83d", func := "mirrorheal/mhlaw3.XorBack", spec := "xorBack", apart := false, narrowed := true }
def XorBackUptoSaid : Prop := xorBackUptoRow.holds Try.pinned (OpenSpec.upto xorBackSpec)

/-- 'mhlaw4.PlanTells', WHERE WHAT IT READS IS OF BULK AT MOST 1048576: true; the input reads as it did. -/
def planTellsUptoRow : OpenClaim := { program := "ytobhkdobocjoeaa", sum := "54daedc986081757e1551ab16827c00595522c9b96f14e11f49d69e5b264c83d", func := "mirrorheal/mhlaw4.PlanTells", spec := "planTells", apart := false, narrowed := true }
def PlanTellsUptoSaid : Prop := planTellsUptoRow.holds Try.pinned (OpenSpec.upto planTellsSpec)

/-- 'mhlaw4.PlanBack', WHERE WHAT IT READS IS OF BULK AT MOST 1048576: true; the input reads as it did. -/
def planBackUptoRow : OpenClaim := { program := "ytobhkdobocjoeaa", sum := "54daedc986081757e1551ab16827c00595522c9b96f14e11f49d69e5b264c83d", func := "mirrorheal/mhlaw4.PlanBack", spec := "planBack", apart := false, narrowed := true }
def PlanBackUptoSaid : Prop := planBackUptoRow.holds Try.pinned (OpenSpec.upto planBackSpec)

/-- 'mhlaw4.PlanEach', WHERE WHAT IT READS IS OF BULK AT MOST 1048576: true; the input reads as it did. -/
def planEachUptoRow : OpenClaim := { program := "ytobhkdobocjoeaa", sum := "54daedc986081757e1551ab16827c00595522c9b96f14e11f49d69e5b264c83d", func := "mirrorheal/mhlaw4.PlanEach", spec := "planEach", apart := false, narrowed := true }
def PlanEachUptoSaid : Prop := planEachUptoRow.holds Try.pinned (OpenSpec.upto planEachSpec)

/-- 'mhlaw2.CellTells', WHERE WHAT IT READS IS OF BULK AT MOST 1048576: true; the input reads as it did. -/
def cellTellsUptoRow : OpenClaim := { program := "ytobhkdobocjoeaa", sum := "54daedc986081757e1551ab16827c00595522c9b96f14e11f49d69e5b264c83d", func := "mirrorheal/mhlaw2.CellTells", spec := "cellTells", apart := false, narrowed := true }
def CellTellsUptoSaid : Prop := cellTellsUptoRow.holds Try.pinned (OpenSpec.upto cellTellsSpec)

/-- 'mhlaw2.CellUnlike', WHERE WHAT IT READS IS OF BULK AT MOST 1048576: true; the input reads as it did. -/
def cellUnlikeUptoRow : OpenClaim := { program := "ytobhkdobocjoeaa", sum := "54daedc986081757e1551ab16827c00595522c9b96f14e11f49d69e5b264c83d", func := "mirrorheal/mhlaw2.CellUnlike", spec := "cellUnlike", apart := false, narrowed := true }
def CellUnlikeUptoSaid : Prop := cellUnlikeUptoRow.holds Try.pinned (OpenSpec.upto cellUnlikeSpec)

/-- 'mhtop.Names', WHERE WHAT IT READS IS OF BULK AT MOST 1048576: true; the input reads as it did. -/
def namesUptoRow : OpenClaim := { program := "ytobhkdobocjoeaa", sum := "54daedc986081757e1551ab16827c00595522c9b96f14e11f49d69e5b264c83d", func := "mirrorheal/mhtop.Names", spec := "names", apart := false, narrowed := true }
def NamesUptoSaid : Prop := namesUptoRow.holds Try.pinned (OpenSpec.upto namesSpec)

/-- 'mhlaw2.CellByte', WHERE WHAT IT READS IS OF BULK AT MOST 1048576: true; the input reads as it did. -/
def cellByteUptoRow : OpenClaim := { program := "ytobhkdobocjoeaa", sum := "54daedc986081757e1551ab16827c00595522c9b96f14e11f49d69e5b264c83d", func := "mirrorheal/mhlaw2.CellByte", spec := "cellByte", apart := false, narrowed := true }
def CellByteUptoSaid : Prop := cellByteUptoRow.holds Try.pinned (OpenSpec.upto cellByteSpec)

end Rows
end Go.Proofs.Ytobhkdobocjoeaa
