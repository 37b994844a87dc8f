/-
  No cell of these rows narrows 'for every input' (looked for: loops, veiled, ifaces, maps, wideKeys, modest, calm, conditions, laid).
  DERIVED. THE GIVEN ROWS OF THIS SEAT. 11 by the template 'for every input the law returns true; each argument reads behind the call as it read before'; 0 by the template 'total and deterministic' (their statements: YtoendmbgfbhidaaTotals.lean).
  GIVEN WITH THE SEED: the statements are not yours to turn. If you find one false, say at which input.
  Laid BY PROGRAM, IN A SANDBOX (cutbox-rows.mjs): the forced cells as the released guide's own fill.sh prints them over the translation 40fa7dfdc33df03b… (all of the seat's roots in one cut). By AI agents, Wed Nov 11 2026. No macro, syntax, notation, axiom, sorry.
-/
import Derived.Test.YtoendmbgfbhidaaChecked
import GoSem.Claim
import GoSem.ClaimJoined
import GoSem.ClaimMapViews
import Derived.JoinedTies
import Derived.KernelRfl
namespace Go.Proofs.Ytoendmbgfbhidaa
/- THE CELL 'sum', in the pinned program and in every row, IS THE sha256 OF THE DUMP (.gsa) THAT YtoendmbgfbhidaaProg.lean LOADS. Nothing in Lean hashes anything: it is a label: what it is worth is what the hold of that sum in a sandbox is worth. -/
noncomputable def Try.pinned : Pinned := { name := "ytoendmbgfbhidaa", sum := "40fa7dfdc33df03b4a683c2a406197c355a3026efae4e941d9966431cb620043", checked := Try.checked }
namespace Rows
def none {H : Type} : Left H := { results := [], args := [] }

/-- 'mhlaw8.ArrayTells': WHATEVER THE INPUT: true; the input reads as it did. -/
def arrayTellsSpec : ChangeSpec := { name := "arrayTells", fn := fun _ => fun
  | [d1, d2, d3, d4] => { results := [.lit (.bool true)], args := [d1, d2, d3, d4] }
  | _ => none }
def arrayTellsRow : OpenClaim := { program := "ytoendmbgfbhidaa", sum := "40fa7dfdc33df03b4a683c2a406197c355a3026efae4e941d9966431cb620043", func := "mirrorheal/mhlaw8.ArrayTells", spec := "arrayTells", unfollowed := true, recurses := true, apart := false }
def ArrayTellsSaid : Prop := arrayTellsRow.holds Try.pinned (OpenSpec.ofChange arrayTellsSpec)

/-- ITS FALSE NEIGHBOUR: 'it returns false'. Refute it at one input. -/
def arrayTellsWrong : ChangeSpec := { name := "arrayTells", fn := fun _ => fun
  | [d1, d2, d3, d4] => { results := [.lit (.bool false)], args := [d1, d2, d3, d4] }
  | _ => none }
def ArrayTellsWrongFalsely : Prop := arrayTellsRow.holds Try.pinned (OpenSpec.ofChange arrayTellsWrong)

/-- 'mhlaw8.ArrayModel': WHATEVER THE INPUT: true; the input reads as it did. -/
def arrayModelSpec : ChangeSpec := { name := "arrayModel", fn := fun _ => fun
  | [d1, d2] => { results := [.lit (.bool true)], args := [d1, d2] }
  | _ => none }
def arrayModelRow : OpenClaim := { program := "ytoendmbgfbhidaa", sum := "40fa7dfdc33df03b4a683c2a406197c355a3026efae4e941d9966431cb620043", func := "mirrorheal/mhlaw8.ArrayModel", spec := "arrayModel", unfollowed := true, recurses := true, apart := false }
def ArrayModelSaid : Prop := arrayModelRow.holds Try.pinned (OpenSpec.ofChange arrayModelSpec)

/-- ITS FALSE NEIGHBOUR: 'it returns false'. Refute it at one input. -/
def arrayModelWrong : ChangeSpec := { name := "arrayModel", fn := fun _ => fun
  | [d1, d2] => { results := [.lit (.bool false)], args := [d1, d2] }
  | _ => none }
def ArrayModelWrongFalsely : Prop := arrayModelRow.holds Try.pinned (OpenSpec.ofChange arrayModelWrong)

/-- 'mhlaw8.ArrayStripe': WHATEVER THE INPUT: true; the input reads as it did. -/
def arrayStripeSpec : ChangeSpec := { name := "arrayStripe", fn := fun _ => fun
  | [d1, d2] => { results := [.lit (.bool true)], args := [d1, d2] }
  | _ => none }
def arrayStripeRow : OpenClaim := { program := "ytoendmbgfbhidaa", sum := "40fa7dfdc33df03b4a683c2a406197c355a3026efae4e941d9966431cb620043", func := "mirrorheal/mhlaw8.ArrayStripe", spec := "arrayStripe", unfollowed := true, recurses := true, apart := false }
def ArrayStripeSaid : Prop := arrayStripeRow.holds Try.pinned (OpenSpec.ofChange arrayStripeSpec)

/-- ITS FALSE NEIGHBOUR: 'it returns false'. Refute it at one input. -/
def arrayStripeWrong : ChangeSpec := { name := "arrayStripe", fn := fun _ => fun
  | [d1, d2] => { results := [.lit (.bool false)], args := [d1, d2] }
  | _ => none }
def ArrayStripeWrongFalsely : Prop := arrayStripeRow.holds Try.pinned (OpenSpec.ofChange arrayStripeWrong)

/-- 'mhlaw8.ArrayRead': WHATEVER THE INPUT: true; the input reads as it did. -/
def arrayReadSpec : ChangeSpec := { name := "arrayRead", fn := fun _ => fun
  | [d1, d2] => { results := [.lit (.bool true)], args := [d1, d2] }
  | _ => none }
def arrayReadRow : OpenClaim := { program := "ytoendmbgfbhidaa", sum := "40fa7dfdc33df03b4a683c2a406197c355a3026efae4e941d9966431cb620043", func := "mirrorheal/mhlaw8.ArrayRead", spec := "arrayRead", unfollowed := true, recurses := true, apart := false }
def ArrayReadSaid : Prop := arrayReadRow.holds Try.pinned (OpenSpec.ofChange arrayReadSpec)

/-- ITS FALSE NEIGHBOUR: 'it returns false'. Refute it at one input. -/
def arrayReadWrong : ChangeSpec := { name := "arrayRead", fn := fun _ => fun
  | [d1, d2] => { results := [.lit (.bool false)], args := [d1, d2] }
  | _ => none }
def ArrayReadWrongFalsely : Prop := arrayReadRow.holds Try.pinned (OpenSpec.ofChange arrayReadWrong)

/-- 'mhlaw8.ArrayHalf': WHATEVER THE INPUT: true; the input reads as it did. -/
def arrayHalfSpec : ChangeSpec := { name := "arrayHalf", fn := fun _ => fun
  | [d1, d2, d3] => { results := [.lit (.bool true)], args := [d1, d2, d3] }
  | _ => none }
def arrayHalfRow : OpenClaim := { program := "ytoendmbgfbhidaa", sum := "40fa7dfdc33df03b4a683c2a406197c355a3026efae4e941d9966431cb620043", func := "mirrorheal/mhlaw8.ArrayHalf", spec := "arrayHalf", unfollowed := true, recurses := true, apart := false }
def ArrayHalfSaid : Prop := arrayHalfRow.holds Try.pinned (OpenSpec.ofChange arrayHalfSpec)

/-- ITS FALSE NEIGHBOUR: 'it returns false'. Refute it at one input. -/
def arrayHalfWrong : ChangeSpec := { name := "arrayHalf", fn := fun _ => fun
  | [d1, d2, d3] => { results := [.lit (.bool false)], args := [d1, d2, d3] }
  | _ => none }
def ArrayHalfWrongFalsely : Prop := arrayHalfRow.holds Try.pinned (OpenSpec.ofChange arrayHalfWrong)

/-- 'mhlaw11.PlayTells': WHATEVER THE INPUT: true; the input reads as it did. -/
def playTellsSpec : ChangeSpec := { name := "playTells", fn := fun _ => fun
  | [d1, d2] => { results := [.lit (.bool true)], args := [d1, d2] }
  | _ => none }
def playTellsRow : OpenClaim := { program := "ytoendmbgfbhidaa", sum := "40fa7dfdc33df03b4a683c2a406197c355a3026efae4e941d9966431cb620043", func := "mirrorheal/mhlaw11.PlayTells", spec := "playTells", unfollowed := true, recurses := true, apart := false }
def PlayTellsSaid : Prop := playTellsRow.holds Try.pinned (OpenSpec.ofChange playTellsSpec)

/-- ITS FALSE NEIGHBOUR: 'it returns false'. Refute it at one input. -/
def playTellsWrong : ChangeSpec := { name := "playTells", fn := fun _ => fun
  | [d1, d2] => { results := [.lit (.bool false)], args := [d1, d2] }
  | _ => none }
def PlayTellsWrongFalsely : Prop := playTellsRow.holds Try.pinned (OpenSpec.ofChange playTellsWrong)

/-- 'mhlaw11.PlaySafe': WHATEVER THE INPUT: true; the input reads as it did. -/
def playSafeSpec : ChangeSpec := { name := "playSafe", fn := fun _ => fun
  | [d1, d2, d3, d4] => { results := [.lit (.bool true)], args := [d1, d2, d3, d4] }
  | _ => none }
def playSafeRow : OpenClaim := { program := "ytoendmbgfbhidaa", sum := "40fa7dfdc33df03b4a683c2a406197c355a3026efae4e941d9966431cb620043", func := "mirrorheal/mhlaw11.PlaySafe", spec := "playSafe", unfollowed := true, recurses := true, apart := false }
def PlaySafeSaid : Prop := playSafeRow.holds Try.pinned (OpenSpec.ofChange playSafeSpec)

/-- ITS FALSE NEIGHBOUR: 'it returns false'. Refute it at one input. -/
def playSafeWrong : ChangeSpec := { name := "playSafe", fn := fun _ => fun
  | [d1, d2, d3, d4] => { results := [.lit (.bool false)], args := [d1, d2, d3, d4] }
  | _ => none }
def PlaySafeWrongFalsely : Prop := playSafeRow.holds Try.pinned (OpenSpec.ofChange playSafeWrong)

/-- 'mhlaw11.PlayNone': WHATEVER THE INPUT: true; the input reads as it did. -/
def playNoneSpec : ChangeSpec := { name := "playNone", fn := fun _ => fun
  | [d1, d2] => { results := [.lit (.bool true)], args := [d1, d2] }
  | _ => none }
def playNoneRow : OpenClaim := { program := "ytoendmbgfbhidaa", sum := "40fa7dfdc33df03b4a683c2a406197c355a3026efae4e941d9966431cb620043", func := "mirrorheal/mhlaw11.PlayNone", spec := "playNone", unfollowed := true, recurses := true, apart := false }
def PlayNoneSaid : Prop := playNoneRow.holds Try.pinned (OpenSpec.ofChange playNoneSpec)

/-- ITS FALSE NEIGHBOUR: 'it returns false'. Refute it at one input. -/
def playNoneWrong : ChangeSpec := { name := "playNone", fn := fun _ => fun
  | [d1, d2] => { results := [.lit (.bool false)], args := [d1, d2] }
  | _ => none }
def PlayNoneWrongFalsely : Prop := playNoneRow.holds Try.pinned (OpenSpec.ofChange playNoneWrong)

/-- 'mhlaw12.MayTells': WHATEVER THE INPUT: true; the input reads as it did. -/
def mayTellsSpec : ChangeSpec := { name := "mayTells", fn := fun _ => fun
  | [d1, d2, d3] => { results := [.lit (.bool true)], args := [d1, d2, d3] }
  | _ => none }
def mayTellsRow : OpenClaim := { program := "ytoendmbgfbhidaa", sum := "40fa7dfdc33df03b4a683c2a406197c355a3026efae4e941d9966431cb620043", func := "mirrorheal/mhlaw12.MayTells", spec := "mayTells", unfollowed := true, recurses := true, apart := false }
def MayTellsSaid : Prop := mayTellsRow.holds Try.pinned (OpenSpec.ofChange mayTellsSpec)

/-- ITS FALSE NEIGHBOUR: 'it returns false'. Refute it at one input. -/
def mayTellsWrong : ChangeSpec := { name := "mayTells", fn := fun _ => fun
  | [d1, d2, d3] => { results := [.lit (.bool false)], args := [d1, d2, d3] }
  | _ => none }
def MayTellsWrongFalsely : Prop := mayTellsRow.holds Try.pinned (OpenSpec.ofChange mayTellsWrong)

/-- 'mhlaw12.MayWalk': WHATEVER THE INPUT: true; the input reads as it did. -/
def mayWalkSpec : ChangeSpec := { name := "mayWalk", fn := fun _ => fun
  | [d] => { results := [.lit (.bool true)], args := [d] }
  | _ => none }
def mayWalkRow : OpenClaim := { program := "ytoendmbgfbhidaa", sum := "40fa7dfdc33df03b4a683c2a406197c355a3026efae4e941d9966431cb620043", func := "mirrorheal/mhlaw12.MayWalk", spec := "mayWalk", unfollowed := true, recurses := true, apart := false }
def MayWalkSaid : Prop := mayWalkRow.holds Try.pinned (OpenSpec.ofChange mayWalkSpec)

/-- ITS FALSE NEIGHBOUR: 'it returns false'. Refute it at one input. -/
def mayWalkWrong : ChangeSpec := { name := "mayWalk", fn := fun _ => fun
  | [d] => { results := [.lit (.bool false)], args := [d] }
  | _ => none }
def MayWalkWrongFalsely : Prop := mayWalkRow.holds Try.pinned (OpenSpec.ofChange mayWalkWrong)

/-- 'mhlaw12.MayFew': WHATEVER THE INPUT: true; the input reads as it did. -/
def mayFewSpec : ChangeSpec := { name := "mayFew", fn := fun _ => fun
  | [d1, d2] => { results := [.lit (.bool true)], args := [d1, d2] }
  | _ => none }
def mayFewRow : OpenClaim := { program := "ytoendmbgfbhidaa", sum := "40fa7dfdc33df03b4a683c2a406197c355a3026efae4e941d9966431cb620043", func := "mirrorheal/mhlaw12.MayFew", spec := "mayFew", unfollowed := true, recurses := true, apart := false }
def MayFewSaid : Prop := mayFewRow.holds Try.pinned (OpenSpec.ofChange mayFewSpec)

/-- ITS FALSE NEIGHBOUR: 'it returns false'. Refute it at one input. -/
def mayFewWrong : ChangeSpec := { name := "mayFew", fn := fun _ => fun
  | [d1, d2] => { results := [.lit (.bool false)], args := [d1, d2] }
  | _ => none }
def MayFewWrongFalsely : Prop := mayFewRow.holds Try.pinned (OpenSpec.ofChange mayFewWrong)

/- THE SECOND FORM. 'bulk': how many values and letters a reading holds, each counted each time it is reached (what is shared counts as often as it is met; a slice's spare places count too). A statement '..UptoSaid' is the law's where the arguments, and the package variables that the reading takes, are together of bulk at most 1048576: NARROWER than '..Said'. Prove '..Said' where nothing that the law and all that it calls make is longer than what came in: it says more and counts as full. Else prove '..UptoSaid'. A law counts once. -/
mutual
def uptoBulk {H : Type} : DataW H → Nat
  | .lit (.string bytes) => bytes.length + 1
  | .lit _ => 1
  | .nil => 1
  | .ptr d => uptoBulk d + 1
  | .slice elems spare => uptoBulkAll elems + uptoBulkAll spare + 1
  | .agg parts => uptoBulkAll parts + 1
  | .iface _ d => uptoBulk d + 1
  | .map entries => uptoBulkEntries entries + 1
  | .held _ => 1
def uptoBulkAll {H : Type} : List (DataW H) → Nat
  | [] => 0
  | d :: r => uptoBulk d + uptoBulkAll r
def uptoBulkEntries {H : Type} : List (Lit × DataW H) → Nat
  | [] => 0
  | x :: r => uptoBulkEntry x + uptoBulkEntries r
def uptoBulkEntry {H : Type} : Lit × DataW H → Nat
  | (.string bytes, d) => bytes.length + uptoBulk d + 1
  | (_, d) => uptoBulk d + 1
 end
def uptoSmall : (H : Type) → List (DataW H) → Bool := fun _ ds => decide (uptoBulkAll ds ≤ 1048576)
def OpenSpec.upto (s : _root_.Go.ChangeSpec) : _root_.Go.OpenSpec := { _root_.Go.OpenSpec.ofChange s with cond := some uptoSmall }

/-- 'mhlaw8.ArrayTells', WHERE WHAT IT READS IS OF BULK AT MOST 1048576: true; the input reads as it did. -/
def arrayTellsUptoRow : OpenClaim := { program := "ytoendmbgfbhidaa", sum := "40fa7dfdc33df03b4a683c2a406197c355a3026efae4e941d9966431cb620043", func := "mirrorheal/mhlaw8.ArrayTells", spec := "arrayTells", unfollowed := true, recurses := true, apart := false, narrowed := true }
def ArrayTellsUptoSaid : Prop := arrayTellsUptoRow.holds Try.pinned (OpenSpec.upto arrayTellsSpec)

/-- 'mhlaw8.ArrayModel', WHERE WHAT IT READS IS OF BULK AT MOST 1048576: true; the input reads as it did. -/
def arrayModelUptoRow : OpenClaim := { program := "ytoendmbgfbhidaa", sum := "40fa7dfdc33df03b4a683c2a406197c355a3026efae4e941d9966431cb620043", func := "mirrorheal/mhlaw8.ArrayModel", spec := "arrayModel", unfollowed := true, recurses := true, apart := false, narrowed := true }
def ArrayModelUptoSaid : Prop := arrayModelUptoRow.holds Try.pinned (OpenSpec.upto arrayModelSpec)

/-- 'mhlaw8.ArrayStripe', WHERE WHAT IT READS IS OF BULK AT MOST 1048576: true; the input reads as it did. -/
def arrayStripeUptoRow : OpenClaim := { program := "ytoendmbgfbhidaa", sum := "40fa7dfdc33df03b4a683c2a406197c355a3026efae4e941d9966431cb620043", func := "mirrorheal/mhlaw8.ArrayStripe", spec := "arrayStripe", unfollowed := true, recurses := true, apart := false, narrowed := true }
def ArrayStripeUptoSaid : Prop := arrayStripeUptoRow.holds Try.pinned (OpenSpec.upto arrayStripeSpec)

/-- 'mhlaw8.ArrayRead', WHERE WHAT IT READS IS OF BULK AT MOST 1048576: true; the input reads as it did. -/
def arrayReadUptoRow : OpenClaim := { program := "ytoendmbgfbhidaa", sum := "40fa7dfdc33df03b4a683c2a406197c355a3026efae4e941d9966431cb620043", func := "mirrorheal/mhlaw8.ArrayRead", spec := "arrayRead", unfollowed := true, recurses := true, apart := false, narrowed := true }
def ArrayReadUptoSaid : Prop := arrayReadUptoRow.holds Try.pinned (OpenSpec.upto arrayReadSpec)

/-- 'mhlaw8.ArrayHalf', WHERE WHAT IT READS IS OF BULK AT MOST 1048576: true; the input reads as it did. -/
def arrayHalfUptoRow : OpenClaim := { program := "ytoendmbgfbhidaa", sum := "40fa7dfdc33df03b4a683c2a406197c355a3026efae4e941d9966431cb620043", func := "mirrorheal/mhlaw8.ArrayHalf", spec := "arrayHalf", unfollowed := true, recurses := true, apart := false, narrowed := true }
def ArrayHalfUptoSaid : Prop := arrayHalfUptoRow.holds Try.pinned (OpenSpec.upto arrayHalfSpec)

/-- 'mhlaw11.PlayTells', WHERE WHAT IT READS IS OF BULK AT MOST 1048576: true; the input reads as it did. -/
def playTellsUptoRow : OpenClaim := { program := "ytoendmbgfbhidaa", sum := "40fa7dfdc33df03b4a683c2a406197c355a3026efae4e941d9966431cb620043", func := "mirrorheal/mhlaw11.PlayTells", spec := "playTells", unfollowed := true, recurses := true, apart := false, narrowed := true }
def PlayTellsUptoSaid : Prop := playTellsUptoRow.holds Try.pinned (OpenSpec.upto playTellsSpec)

/-- 'mhlaw11.PlaySafe', WHERE WHAT IT READS IS OF BULK AT MOST 1048576: true; the input reads as it did. -/
def playSafeUptoRow : OpenClaim := { program := "ytoendmbgfbhidaa", sum := "40fa7dfdc33df03b4a683c2a406197c355a3026efae4e941d9966431cb620043", func := "mirrorheal/mhlaw11.PlaySafe", spec := "playSafe", unfollowed := true, recurses := true, apart := false, narrowed := true }
def PlaySafeUptoSaid : Prop := playSafeUptoRow.holds Try.pinned (OpenSpec.upto playSafeSpec)

/-- 'mhlaw11.PlayNone', WHERE WHAT IT READS IS OF BULK AT MOST 1048576: true; the input reads as it did. -/
def playNoneUptoRow : OpenClaim := { program := "ytoendmbgfbhidaa", sum := "40fa7dfdc33df03b4a683c2a406197c355a3026efae4e941d9966431cb620043", func := "mirrorheal/mhlaw11.PlayNone", spec := "playNone", unfollowed := true, recurses := true, apart := false, narrowed := true }
def PlayNoneUptoSaid : Prop := playNoneUptoRow.holds Try.pinned (OpenSpec.upto playNoneSpec)

/-- 'mhlaw12.MayTells', WHERE WHAT IT READS IS OF BULK AT MOST 1048576: true; the input reads as it did. -/
def mayTellsUptoRow : OpenClaim := { program := "ytoendmbgfbhidaa", sum := "40fa7dfdc33df03b4a683c2a406197c355a3026efae4e941d9966431cb620043", func := "mirrorheal/mhlaw12.MayTells", spec := "mayTells", unfollowed := true, recurses := true, apart := false, narrowed := true }
def MayTellsUptoSaid : Prop := mayTellsUptoRow.holds Try.pinned (OpenSpec.upto mayTellsSpec)

/-- 'mhlaw12.MayWalk', WHERE WHAT IT READS IS OF BULK AT MOST 1048576: true; the input reads as it did. -/
def mayWalkUptoRow : OpenClaim := { program := "ytoendmbgfbhidaa", sum := "40fa7dfdc33df03b4a683c2a406197c355a3026efae4e941d9966431cb620043", func := "mirrorheal/mhlaw12.MayWalk", spec := "mayWalk", unfollowed := true, recurses := true, apart := false, narrowed := true }
def MayWalkUptoSaid : Prop := mayWalkUptoRow.holds Try.pinned (OpenSpec.upto mayWalkSpec)

/-- 'mhlaw12.MayFew', WHERE WHAT IT READS IS OF BULK AT MOST 1048576: true; the input reads as it did. -/
def mayFewUptoRow : OpenClaim := { program := "ytoendmbgfbhidaa", sum := "40fa7dfdc33df03b4a683c2a406197c355a3026efae4e941d9966431cb620043", func := "mirrorheal/mhlaw12.MayFew", spec := "mayFew", unfollowed := true, recurses := true, apart := false, narrowed := true }
def MayFewUptoSaid : Prop := mayFewUptoRow.holds Try.pinned (OpenSpec.upto mayFewSpec)

end Rows
end Go.Proofs.Ytoendmbgfbhidaa
