/-
  No cell of these rows narrows 'for every input' (looked for: loops, veiled, ifaces, maps, wideKeys, modest, calm, conditions, laid).
  DERIVED. THE GIVEN ROWS OF THIS SEAT. 12 by the template 'for every input the law returns true; each argument reads behind the call as it read before'; 0 by the template 'total and deterministic' (their statements: YtlbnkoahkfhimaaTotals.lean).
  GIVEN WITH THE SEED: the statements are not yours to turn. If you find one false, say at which input.
  Laid BY PROGRAM, IN A SANDBOX (cutbox-rows.mjs): the forced cells as the released guide's own fill.sh prints them over the translation 0fd077e236bc36e0… (all of the seat's roots in one cut). By AI agents, Wed Nov 11 2026. No macro, syntax, notation, axiom, sorry.
-/
import Derived.Test.YtlbnkoahkfhimaaChecked
import GoSem.Claim
import GoSem.ClaimJoined
import GoSem.ClaimMapViews
import Derived.JoinedTies
import Derived.KernelRfl
namespace Go.Proofs.Ytlbnkoahkfhimaa
/- THE CELL 'sum', in the pinned program and in every row, IS THE sha256 OF THE DUMP (.gsa) THAT YtlbnkoahkfhimaaProg.lean LOADS. Nothing in Lean hashes anything: it is a label: what it is worth is what the hold of that sum in a sandbox is worth. -/
noncomputable def Try.pinned : Pinned := { name := "ytlbnkoahkfhimaa", sum := "0fd077e236bc36e0a04ccb3fc8d243a29bb45de2cf9d353c7b8d21b1e0ad6347", checked := Try.checked }
namespace Rows
def none {H : Type} : Left H := { results := [], args := [] }

/-- 'mhlaw5.ModelTells': WHATEVER THE INPUT: true; the input reads as it did. -/
def modelTellsSpec : ChangeSpec := { name := "modelTells", fn := fun _ => fun
  | [d1, d2, d3] => { results := [.lit (.bool true)], args := [d1, d2, d3] }
  | _ => none }
def modelTellsRow : OpenClaim := { program := "ytlbnkoahkfhimaa", sum := "0fd077e236bc36e0a04ccb3fc8d243a29bb45de2cf9d353c7b8d21b1e0ad6347", func := "mirrorheal/mhlaw5.ModelTells", spec := "modelTells", unfollowed := true, recurses := true, apart := false }
def ModelTellsSaid : Prop := modelTellsRow.holds Try.pinned (OpenSpec.ofChange modelTellsSpec)

/-- ITS FALSE NEIGHBOUR: 'it returns false'. Refute it at one input. -/
def modelTellsWrong : ChangeSpec := { name := "modelTells", fn := fun _ => fun
  | [d1, d2, d3] => { results := [.lit (.bool false)], args := [d1, d2, d3] }
  | _ => none }
def ModelTellsWrongFalsely : Prop := modelTellsRow.holds Try.pinned (OpenSpec.ofChange modelTellsWrong)

/-- 'mhlaw5.ModelApart': WHATEVER THE INPUT: true; the input reads as it did. -/
def modelApartSpec : ChangeSpec := { name := "modelApart", fn := fun _ => fun
  | [d1, d2, d3] => { results := [.lit (.bool true)], args := [d1, d2, d3] }
  | _ => none }
def modelApartRow : OpenClaim := { program := "ytlbnkoahkfhimaa", sum := "0fd077e236bc36e0a04ccb3fc8d243a29bb45de2cf9d353c7b8d21b1e0ad6347", func := "mirrorheal/mhlaw5.ModelApart", spec := "modelApart", unfollowed := true, recurses := true, apart := false }
def ModelApartSaid : Prop := modelApartRow.holds Try.pinned (OpenSpec.ofChange modelApartSpec)

/-- ITS FALSE NEIGHBOUR: 'it returns false'. Refute it at one input. -/
def modelApartWrong : ChangeSpec := { name := "modelApart", fn := fun _ => fun
  | [d1, d2, d3] => { results := [.lit (.bool false)], args := [d1, d2, d3] }
  | _ => none }
def ModelApartWrongFalsely : Prop := modelApartRow.holds Try.pinned (OpenSpec.ofChange modelApartWrong)

/-- 'mhlaw5.ModelSwap': WHATEVER THE INPUT: true; the input reads as it did. -/
def modelSwapSpec : ChangeSpec := { name := "modelSwap", fn := fun _ => fun
  | [d1, d2] => { results := [.lit (.bool true)], args := [d1, d2] }
  | _ => none }
def modelSwapRow : OpenClaim := { program := "ytlbnkoahkfhimaa", sum := "0fd077e236bc36e0a04ccb3fc8d243a29bb45de2cf9d353c7b8d21b1e0ad6347", func := "mirrorheal/mhlaw5.ModelSwap", spec := "modelSwap", unfollowed := true, recurses := true, apart := false }
def ModelSwapSaid : Prop := modelSwapRow.holds Try.pinned (OpenSpec.ofChange modelSwapSpec)

/-- ITS FALSE NEIGHBOUR: 'it returns false'. Refute it at one input. -/
def modelSwapWrong : ChangeSpec := { name := "modelSwap", fn := fun _ => fun
  | [d1, d2] => { results := [.lit (.bool false)], args := [d1, d2] }
  | _ => none }
def ModelSwapWrongFalsely : Prop := modelSwapRow.holds Try.pinned (OpenSpec.ofChange modelSwapWrong)

/-- 'mhlaw7.StripeTells': WHATEVER THE INPUT: true; the input reads as it did. -/
def stripeTellsSpec : ChangeSpec := { name := "stripeTells", fn := fun _ => fun
  | [d1, d2, d3, d4] => { results := [.lit (.bool true)], args := [d1, d2, d3, d4] }
  | _ => none }
def stripeTellsRow : OpenClaim := { program := "ytlbnkoahkfhimaa", sum := "0fd077e236bc36e0a04ccb3fc8d243a29bb45de2cf9d353c7b8d21b1e0ad6347", func := "mirrorheal/mhlaw7.StripeTells", spec := "stripeTells", apart := false }
def StripeTellsSaid : Prop := stripeTellsRow.holds Try.pinned (OpenSpec.ofChange stripeTellsSpec)

/-- ITS FALSE NEIGHBOUR: 'it returns false'. Refute it at one input. -/
def stripeTellsWrong : ChangeSpec := { name := "stripeTells", fn := fun _ => fun
  | [d1, d2, d3, d4] => { results := [.lit (.bool false)], args := [d1, d2, d3, d4] }
  | _ => none }
def StripeTellsWrongFalsely : Prop := stripeTellsRow.holds Try.pinned (OpenSpec.ofChange stripeTellsWrong)

/-- 'mhlaw7.StripeTwo': WHATEVER THE INPUT: true; the input reads as it did. -/
def stripeTwoSpec : ChangeSpec := { name := "stripeTwo", fn := fun _ => fun
  | [d1, d2, d3, d4] => { results := [.lit (.bool true)], args := [d1, d2, d3, d4] }
  | _ => none }
def stripeTwoRow : OpenClaim := { program := "ytlbnkoahkfhimaa", sum := "0fd077e236bc36e0a04ccb3fc8d243a29bb45de2cf9d353c7b8d21b1e0ad6347", func := "mirrorheal/mhlaw7.StripeTwo", spec := "stripeTwo", apart := false }
def StripeTwoSaid : Prop := stripeTwoRow.holds Try.pinned (OpenSpec.ofChange stripeTwoSpec)

/-- ITS FALSE NEIGHBOUR: 'it returns false'. Refute it at one input. -/
def stripeTwoWrong : ChangeSpec := { name := "stripeTwo", fn := fun _ => fun
  | [d1, d2, d3, d4] => { results := [.lit (.bool false)], args := [d1, d2, d3, d4] }
  | _ => none }
def StripeTwoWrongFalsely : Prop := stripeTwoRow.holds Try.pinned (OpenSpec.ofChange stripeTwoWrong)

/-- 'mhlaw7.StripeOne': WHATEVER THE INPUT: true; the input reads as it did. -/
def stripeOneSpec : ChangeSpec := { name := "stripeOne", fn := fun _ => fun
  | [d1, d2, d3] => { results := [.lit (.bool true)], args := [d1, d2, d3] }
  | _ => none }
def stripeOneRow : OpenClaim := { program := "ytlbnkoahkfhimaa", sum := "0fd077e236bc36e0a04ccb3fc8d243a29bb45de2cf9d353c7b8d21b1e0ad6347", func := "mirrorheal/mhlaw7.StripeOne", spec := "stripeOne", apart := false }
def StripeOneSaid : Prop := stripeOneRow.holds Try.pinned (OpenSpec.ofChange stripeOneSpec)

/-- ITS FALSE NEIGHBOUR: 'it returns false'. Refute it at one input. -/
def stripeOneWrong : ChangeSpec := { name := "stripeOne", fn := fun _ => fun
  | [d1, d2, d3] => { results := [.lit (.bool false)], args := [d1, d2, d3] }
  | _ => none }
def StripeOneWrongFalsely : Prop := stripeOneRow.holds Try.pinned (OpenSpec.ofChange stripeOneWrong)

/-- 'mhlaw10.HarmTells': WHATEVER THE INPUT: true; the input reads as it did. -/
def harmTellsSpec : ChangeSpec := { name := "harmTells", fn := fun _ => fun
  | [d1, d2, d3, d4] => { results := [.lit (.bool true)], args := [d1, d2, d3, d4] }
  | _ => none }
def harmTellsRow : OpenClaim := { program := "ytlbnkoahkfhimaa", sum := "0fd077e236bc36e0a04ccb3fc8d243a29bb45de2cf9d353c7b8d21b1e0ad6347", func := "mirrorheal/mhlaw10.HarmTells", spec := "harmTells", apart := false }
def HarmTellsSaid : Prop := harmTellsRow.holds Try.pinned (OpenSpec.ofChange harmTellsSpec)

/-- ITS FALSE NEIGHBOUR: 'it returns false'. Refute it at one input. -/
def harmTellsWrong : ChangeSpec := { name := "harmTells", fn := fun _ => fun
  | [d1, d2, d3, d4] => { results := [.lit (.bool false)], args := [d1, d2, d3, d4] }
  | _ => none }
def HarmTellsWrongFalsely : Prop := harmTellsRow.holds Try.pinned (OpenSpec.ofChange harmTellsWrong)

/-- 'mhlaw10.HarmBack': WHATEVER THE INPUT: true; the input reads as it did. -/
def harmBackSpec : ChangeSpec := { name := "harmBack", fn := fun _ => fun
  | [d1, d2, d3, d4] => { results := [.lit (.bool true)], args := [d1, d2, d3, d4] }
  | _ => none }
def harmBackRow : OpenClaim := { program := "ytlbnkoahkfhimaa", sum := "0fd077e236bc36e0a04ccb3fc8d243a29bb45de2cf9d353c7b8d21b1e0ad6347", func := "mirrorheal/mhlaw10.HarmBack", spec := "harmBack", apart := false }
def HarmBackSaid : Prop := harmBackRow.holds Try.pinned (OpenSpec.ofChange harmBackSpec)

/-- ITS FALSE NEIGHBOUR: 'it returns false'. Refute it at one input. -/
def harmBackWrong : ChangeSpec := { name := "harmBack", fn := fun _ => fun
  | [d1, d2, d3, d4] => { results := [.lit (.bool false)], args := [d1, d2, d3, d4] }
  | _ => none }
def HarmBackWrongFalsely : Prop := harmBackRow.holds Try.pinned (OpenSpec.ofChange harmBackWrong)

/-- 'mhlaw10.HarmOne': WHATEVER THE INPUT: true; the input reads as it did. -/
def harmOneSpec : ChangeSpec := { name := "harmOne", fn := fun _ => fun
  | [d1, d2, d3, d4, d5] => { results := [.lit (.bool true)], args := [d1, d2, d3, d4, d5] }
  | _ => none }
def harmOneRow : OpenClaim := { program := "ytlbnkoahkfhimaa", sum := "0fd077e236bc36e0a04ccb3fc8d243a29bb45de2cf9d353c7b8d21b1e0ad6347", func := "mirrorheal/mhlaw10.HarmOne", spec := "harmOne", apart := false }
def HarmOneSaid : Prop := harmOneRow.holds Try.pinned (OpenSpec.ofChange harmOneSpec)

/-- ITS FALSE NEIGHBOUR: 'it returns false'. Refute it at one input. -/
def harmOneWrong : ChangeSpec := { name := "harmOne", fn := fun _ => fun
  | [d1, d2, d3, d4, d5] => { results := [.lit (.bool false)], args := [d1, d2, d3, d4, d5] }
  | _ => none }
def HarmOneWrongFalsely : Prop := harmOneRow.holds Try.pinned (OpenSpec.ofChange harmOneWrong)

/-- 'mhlaw9.MendTells': WHATEVER THE INPUT: true; the input reads as it did. -/
def mendTellsSpec : ChangeSpec := { name := "mendTells", fn := fun _ => fun
  | [d1, d2] => { results := [.lit (.bool true)], args := [d1, d2] }
  | _ => none }
def mendTellsRow : OpenClaim := { program := "ytlbnkoahkfhimaa", sum := "0fd077e236bc36e0a04ccb3fc8d243a29bb45de2cf9d353c7b8d21b1e0ad6347", func := "mirrorheal/mhlaw9.MendTells", spec := "mendTells", apart := false }
def MendTellsSaid : Prop := mendTellsRow.holds Try.pinned (OpenSpec.ofChange mendTellsSpec)

/-- ITS FALSE NEIGHBOUR: 'it returns false'. Refute it at one input. -/
def mendTellsWrong : ChangeSpec := { name := "mendTells", fn := fun _ => fun
  | [d1, d2] => { results := [.lit (.bool false)], args := [d1, d2] }
  | _ => none }
def MendTellsWrongFalsely : Prop := mendTellsRow.holds Try.pinned (OpenSpec.ofChange mendTellsWrong)

/-- 'mhlaw9.MendWell': WHATEVER THE INPUT: true; the input reads as it did. -/
def mendWellSpec : ChangeSpec := { name := "mendWell", fn := fun _ => fun
  | [d] => { results := [.lit (.bool true)], args := [d] }
  | _ => none }
def mendWellRow : OpenClaim := { program := "ytlbnkoahkfhimaa", sum := "0fd077e236bc36e0a04ccb3fc8d243a29bb45de2cf9d353c7b8d21b1e0ad6347", func := "mirrorheal/mhlaw9.MendWell", spec := "mendWell", apart := false }
def MendWellSaid : Prop := mendWellRow.holds Try.pinned (OpenSpec.ofChange mendWellSpec)

/-- ITS FALSE NEIGHBOUR: 'it returns false'. Refute it at one input. -/
def mendWellWrong : ChangeSpec := { name := "mendWell", fn := fun _ => fun
  | [d] => { results := [.lit (.bool false)], args := [d] }
  | _ => none }
def MendWellWrongFalsely : Prop := mendWellRow.holds Try.pinned (OpenSpec.ofChange mendWellWrong)

/-- 'mhlaw9.MendOnly': WHATEVER THE INPUT: true; the input reads as it did. -/
def mendOnlySpec : ChangeSpec := { name := "mendOnly", fn := fun _ => fun
  | [d1, d2] => { results := [.lit (.bool true)], args := [d1, d2] }
  | _ => none }
def mendOnlyRow : OpenClaim := { program := "ytlbnkoahkfhimaa", sum := "0fd077e236bc36e0a04ccb3fc8d243a29bb45de2cf9d353c7b8d21b1e0ad6347", func := "mirrorheal/mhlaw9.MendOnly", spec := "mendOnly", apart := false }
def MendOnlySaid : Prop := mendOnlyRow.holds Try.pinned (OpenSpec.ofChange mendOnlySpec)

/-- ITS FALSE NEIGHBOUR: 'it returns false'. Refute it at one input. -/
def mendOnlyWrong : ChangeSpec := { name := "mendOnly", fn := fun _ => fun
  | [d1, d2] => { results := [.lit (.bool false)], args := [d1, d2] }
  | _ => none }
def MendOnlyWrongFalsely : Prop := mendOnlyRow.holds Try.pinned (OpenSpec.ofChange mendOnlyWrong)

/- THE SECOND FORM. 'bulk': how many values and letters a reading holds, each counted each time it is reached (what is shared counts as often as it is met; a slice's spare places count too). A statement '..UptoSaid' is the law's where the arguments, and the package variables that the reading takes, are together of bulk at most 1048576: NARROWER than '..Said'. Prove '..Said' where nothing that the law and all that it calls make is longer than what came in: it says more and counts as full. Else prove '..UptoSaid'. A law counts once. -/
mutual
def uptoBulk {H : Type} : DataW H → Nat
  | .lit (.string bytes) => bytes.length + 1
  | .lit _ => 1
  | .nil => 1
  | .ptr d => uptoBulk d + 1
  | .slice elems spare => uptoBulkAll elems + uptoBulkAll spare + 1
  | .agg parts => uptoBulkAll parts + 1
  | .iface _ d => uptoBulk d + 1
  | .map entries => uptoBulkEntries entries + 1
  | .held _ => 1
def uptoBulkAll {H : Type} : List (DataW H) → Nat
  | [] => 0
  | d :: r => uptoBulk d + uptoBulkAll r
def uptoBulkEntries {H : Type} : List (Lit × DataW H) → Nat
  | [] => 0
  | x :: r => uptoBulkEntry x + uptoBulkEntries r
def uptoBulkEntry {H : Type} : Lit × DataW H → Nat
  | (.string bytes, d) => bytes.length + uptoBulk d + 1
  | (_, d) => uptoBulk d + 1
 end
def uptoSmall : (H : Type) → List (DataW H) → Bool := fun _ ds => decide (uptoBulkAll ds ≤ 1048576)
def OpenSpec.upto (s : _root_.Go.ChangeSpec) : _root_.Go.OpenSpec := { _root_.Go.OpenSpec.ofChange s with cond := some uptoSmall }

/-- 'mhlaw5.ModelTells', WHERE WHAT IT READS IS OF BULK AT MOST 1048576: true; the input reads as it did. -/
def modelTellsUptoRow : OpenClaim := { program := "ytlbnkoahkfhimaa", sum := "0fd077e236bc36e0a04ccb3fc8d243a29bb45de2cf9d353c7b8d21b1e0ad6347", func := "mirrorheal/mhlaw5.ModelTells", spec := "modelTells", unfollowed := true, recurses := true, apart := false, narrowed := true }
def ModelTellsUptoSaid : Prop := modelTellsUptoRow.holds Try.pinned (OpenSpec.upto modelTellsSpec)

/-- 'mhlaw5.ModelApart', WHERE WHAT IT READS IS OF BULK AT MOST 1048576: true; the input reads as it did. -/
def modelApartUptoRow : OpenClaim := { program := "ytlbnkoahkfhimaa", sum := "0fd077e236bc36e0a04ccb3fc8d243a29bb45de2cf9d353c7b8d21b1e0ad6347", func := "mirrorheal/mhlaw5.ModelApart", spec := "modelApart", unfollowed := true, recurses := true, apart := false, narrowed := true }
def ModelApartUptoSaid : Prop := modelApartUptoRow.holds Try.pinned (OpenSpec.upto modelApartSpec)

/-- 'mhlaw5.ModelSwap', WHERE WHAT IT READS IS OF BULK AT MOST 1048576: true; the input reads as it did. -/
def modelSwapUptoRow : OpenClaim := { program := "ytlbnkoahkfhimaa", sum := "0fd077e236bc36e0a04ccb3fc8d243a29bb45de2cf9d353c7b8d21b1e0ad6347", func := "mirrorheal/mhlaw5.ModelSwap", spec := "modelSwap", unfollowed := true, recurses := true, apart := false, narrowed := true }
def ModelSwapUptoSaid : Prop := modelSwapUptoRow.holds Try.pinned (OpenSpec.upto modelSwapSpec)

/-- 'mhlaw7.StripeTells', WHERE WHAT IT READS IS OF BULK AT MOST 1048576: true; the input reads as it did. -/
def stripeTellsUptoRow : OpenClaim := { program := "ytlbnkoahkfhimaa", sum := "0fd077e236bc36e0a04ccb3fc8d243a29bb45de2cf9d353c7b8d21b1e0ad6347", func := "mirrorheal/mhlaw7.StripeTells", spec := "stripeTells", apart := false, narrowed := true }
def StripeTellsUptoSaid : Prop := stripeTellsUptoRow.holds Try.pinned (OpenSpec.upto stripeTellsSpec)

/-- 'mhlaw7.StripeTwo', WHERE WHAT IT READS IS OF BULK AT MOST 1048576: true; the input reads as it did. -/
def stripeTwoUptoRow : OpenClaim := { program := "ytlbnkoahkfhimaa", sum := "0fd077e236bc36e0a04ccb3fc8d243a29bb45de2cf9d353c7b8d21b1e0ad6347", func := "mirrorheal/mhlaw7.StripeTwo", spec := "stripeTwo", apart := false, narrowed := true }
def StripeTwoUptoSaid : Prop := stripeTwoUptoRow.holds Try.pinned (OpenSpec.upto stripeTwoSpec)

/-- 'mhlaw7.StripeOne', WHERE WHAT IT READS IS OF BULK AT MOST 1048576: true; the input reads as it did. -/
def stripeOneUptoRow : OpenClaim := { program := "ytlbnkoahkfhimaa", sum := "0fd077e236bc36e0a04ccb3fc8d243a29bb45de2cf9d353c7b8d21b1e0ad6347", func := "mirrorheal/mhlaw7.StripeOne", spec := "stripeOne", apart := false, narrowed := true }
def StripeOneUptoSaid : Prop := stripeOneUptoRow.holds Try.pinned (OpenSpec.upto stripeOneSpec)

/-- 'mhlaw10.HarmTells', WHERE WHAT IT READS IS OF BULK AT MOST 1048576: true; the input reads as it did. -/
def harmTellsUptoRow : OpenClaim := { program := "ytlbnkoahkfhimaa", sum := "0fd077e236bc36e0a04ccb3fc8d243a29bb45de2cf9d353c7b8d21b1e0ad6347", func := "mirrorheal/mhlaw10.HarmTells", spec := "harmTells", apart := false, narrowed := true }
def HarmTellsUptoSaid : Prop := harmTellsUptoRow.holds Try.pinned (OpenSpec.upto harmTellsSpec)

/-- 'mhlaw10.HarmBack', WHERE WHAT IT READS IS OF BULK AT MOST 1048576: true; the input reads as it did. -/
def harmBackUptoRow : OpenClaim := { program := "ytlbnkoahkfhimaa", sum := "0fd077e236bc36e0a04ccb3fc8d243a29bb45de2cf9d353c7b8d21b1e0ad6347", func := "mirrorheal/mhlaw10.HarmBack", spec := "harmBack", apart := false, narrowed := true }
def HarmBackUptoSaid : Prop := harmBackUptoRow.holds Try.pinned (OpenSpec.upto harmBackSpec)

/-- 'mhlaw10.HarmOne', WHERE WHAT IT READS IS OF BULK AT MOST 1048576: true; the input reads as it did. -/
def harmOneUptoRow : OpenClaim := { program := "ytlbnkoahkfhimaa", sum := "0fd077e236bc36e0a04ccb3fc8d243a29bb45de2cf9d353c7b8d21b1e0ad6347", func := "mirrorheal/mhlaw10.HarmOne", spec := "harmOne", apart := false, narrowed := true }
def HarmOneUptoSaid : Prop := harmOneUptoRow.holds Try.pinned (OpenSpec.upto harmOneSpec)

/-- 'mhlaw9.MendTells', WHERE WHAT IT READS IS OF BULK AT MOST 1048576: true; the input reads as it did. -/
def mendTellsUptoRow : OpenClaim := { program := "ytlbnkoahkfhimaa", sum := "0fd077e236bc36e0a04ccb3fc8d243a29bb45de2cf9d353c7b8d21b1e0ad6347", func := "mirrorheal/mhlaw9.MendTells", spec := "mendTells", apart := false, narrowed := true }
def MendTellsUptoSaid : Prop := mendTellsUptoRow.holds Try.pinned (OpenSpec.upto mendTellsSpec)

/-- 'mhlaw9.MendWell', WHERE WHAT IT READS IS OF BULK AT MOST 1048576: true; the input reads as it did. -/
def mendWellUptoRow : OpenClaim := { program := "ytlbnkoahkfhimaa", sum := "0fd077e236bc36e0a04ccb3fc8d243a29bb45de2cf9d353c7b8d21b1e0ad6347", func := "mirrorheal/mhlaw9.MendWell", spec := "mendWell", apart := false, narrowed := true }
def MendWellUptoSaid : Prop := mendWellUptoRow.holds Try.pinned (OpenSpec.upto mendWellSpec)

/-- 'mhlaw9.MendOnly', WHERE WHAT IT READS IS OF BULK AT MOST 1048576: true; the input reads as it did. -/
def mendOnlyUptoRow : OpenClaim := { program := "ytlbnkoahkfhimaa", sum := "0fd077e236bc36e0a04ccb3fc8d243a29bb45de2cf9d353c7b8d21b1e0ad6347", func := "mirrorheal/mhlaw9.MendOnly", spec := "mendOnly", apart := false, narrowed := true }
def MendOnlyUptoSaid : Prop := mendOnlyUptoRow.holds Try.pinned (OpenSpec.upto mendOnlySpec)

end Rows
end Go.Proofs.Ytlbnkoahkfhimaa
