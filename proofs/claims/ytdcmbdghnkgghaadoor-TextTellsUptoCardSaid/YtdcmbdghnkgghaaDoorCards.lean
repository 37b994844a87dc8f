/-
  DERIVED. GIVEN WITH THE SEED: THE CARDS: each row of YtdcmbdghnkgghaaDoorRows.lean that lists a variable, with what it lists TIED to the program's text (the seventh form; the later family's looks); each row that meets fmt, with fmt's text TOLD by the authors' own Lean function (tested against real Go, not proved from fmt's source: count such statements apart). THE CARD IS WHAT COUNTS. Prove the row's statement (the work); the ties are given (YtdcmbdghnkgghaaDoorTie.lean); close each card by the builder's one call (the guide's Derived/Test/ToyasCard.lean, 'card_holds'). Laid BY PROGRAM, IN A SANDBOX (cutbox-door.mjs). By AI agents, Wed Nov 11 2026. No macro, syntax, notation, axiom, sorry.
-/
import Derived.Test.YtdcmbdghnkgghaaDoorRows
import GoSem.ClaimSeven
namespace Go.Proofs.YtdcmbdghnkgghaaDoor
namespace Rows

/-- THE TIED CARD OF 'mhlaw6.TextTells'. -/
def textTellsCard : Claim7 := { stood := { row := textTellsRow, standIns := [], harness := (true, "da7bce1eed758fe6e5c4b6ef35515ca3c0eaeb619618ed462926bdfcfea2f294"), looks := true }, kinds := [], alts := [], laidByText := true, laidKinds := [.data, .data, .data, .data, .sentinel, .sentinel, .pinned], laidTests := true, laidLooks := .later }
def TextTellsCardSaid : Prop := Claim7.holds Tryd.pinned (.plain (OpenSpec.ofChange textTellsSpec)) textTellsCard

/-- THE TIED CARD OF 'mhlaw6.TextTurns'. -/
def textTurnsCard : Claim7 := { stood := { row := textTurnsRow, standIns := [], harness := (true, "da7bce1eed758fe6e5c4b6ef35515ca3c0eaeb619618ed462926bdfcfea2f294"), looks := true }, kinds := [], alts := [], laidByText := true, laidKinds := [.data, .data, .data, .data, .sentinel, .sentinel, .pinned], laidTests := true, laidLooks := .later }
def TextTurnsCardSaid : Prop := Claim7.holds Tryd.pinned (.plain (OpenSpec.ofChange textTurnsSpec)) textTurnsCard

/-- THE TIED CARD OF 'mhtop.TopTwo'. -/
def topTwoCard : Claim7 := { stood := { row := topTwoRow, standIns := [], harness := (true, "da7bce1eed758fe6e5c4b6ef35515ca3c0eaeb619618ed462926bdfcfea2f294"), looks := true }, kinds := [], alts := [], laidByText := true, laidKinds := [.data, .data, .data, .data, .sentinel, .sentinel, .pinned], laidTests := true, laidLooks := .later }
def TopTwoCardSaid : Prop := Claim7.holds Tryd.pinned (.plain (OpenSpec.ofChange topTwoSpec)) topTwoCard

/-- THE TIED CARD OF 'mhtop.TopHole'. -/
def topHoleCard : Claim7 := { stood := { row := topHoleRow, standIns := [], harness := (true, "da7bce1eed758fe6e5c4b6ef35515ca3c0eaeb619618ed462926bdfcfea2f294"), looks := true }, kinds := [], alts := [], laidByText := true, laidKinds := [.data, .data, .data, .data, .sentinel, .sentinel, .pinned], laidTests := true, laidLooks := .later }
def TopHoleCardSaid : Prop := Claim7.holds Tryd.pinned (.plain (OpenSpec.ofChange topHoleSpec)) topHoleCard

/-- THE TIED CARD OF 'mhtop.TopDisks'. -/
def topDisksCard : Claim7 := { stood := { row := topDisksRow, standIns := [], harness := (true, "da7bce1eed758fe6e5c4b6ef35515ca3c0eaeb619618ed462926bdfcfea2f294"), looks := true }, kinds := [], alts := [], laidByText := true, laidKinds := [.data, .data, .data, .data, .sentinel, .sentinel, .pinned], laidTests := true, laidLooks := .later }
def TopDisksCardSaid : Prop := Claim7.holds Tryd.pinned (.plain (OpenSpec.ofChange topDisksSpec)) topDisksCard

/-- THE TIED CARD OF 'mhtop.TopRot'. -/
def topRotCard : Claim7 := { stood := { row := topRotRow, standIns := [], harness := (true, "da7bce1eed758fe6e5c4b6ef35515ca3c0eaeb619618ed462926bdfcfea2f294"), looks := true }, kinds := [], alts := [], laidByText := true, laidKinds := [.data, .data, .data, .data, .sentinel, .sentinel, .pinned], laidTests := true, laidLooks := .later }
def TopRotCardSaid : Prop := Claim7.holds Tryd.pinned (.plain (OpenSpec.ofChange topRotSpec)) topRotCard

/-- THE SECOND FORM's CARD OF 'mhlaw6.TextTells'. -/
def textTellsUptoCard : Claim7 := { stood := { row := textTellsUptoRow, standIns := [], harness := (true, "da7bce1eed758fe6e5c4b6ef35515ca3c0eaeb619618ed462926bdfcfea2f294"), looks := true }, kinds := [], alts := [], laidByText := true, laidKinds := [.data, .data, .data, .data, .sentinel, .sentinel, .pinned], laidTests := true, laidLooks := .later }
def TextTellsUptoCardSaid : Prop := Claim7.holds Tryd.pinned (.plain (OpenSpec.upto textTellsSpec)) textTellsUptoCard

/-- THE SECOND FORM's CARD OF 'mhlaw6.TextTurns'. -/
def textTurnsUptoCard : Claim7 := { stood := { row := textTurnsUptoRow, standIns := [], harness := (true, "da7bce1eed758fe6e5c4b6ef35515ca3c0eaeb619618ed462926bdfcfea2f294"), looks := true }, kinds := [], alts := [], laidByText := true, laidKinds := [.data, .data, .data, .data, .sentinel, .sentinel, .pinned], laidTests := true, laidLooks := .later }
def TextTurnsUptoCardSaid : Prop := Claim7.holds Tryd.pinned (.plain (OpenSpec.upto textTurnsSpec)) textTurnsUptoCard

/-- THE SECOND FORM's CARD OF 'mhtop.TopTwo'. -/
def topTwoUptoCard : Claim7 := { stood := { row := topTwoUptoRow, standIns := [], harness := (true, "da7bce1eed758fe6e5c4b6ef35515ca3c0eaeb619618ed462926bdfcfea2f294"), looks := true }, kinds := [], alts := [], laidByText := true, laidKinds := [.data, .data, .data, .data, .sentinel, .sentinel, .pinned], laidTests := true, laidLooks := .later }
def TopTwoUptoCardSaid : Prop := Claim7.holds Tryd.pinned (.plain (OpenSpec.upto topTwoSpec)) topTwoUptoCard

/-- THE SECOND FORM's CARD OF 'mhtop.TopHole'. -/
def topHoleUptoCard : Claim7 := { stood := { row := topHoleUptoRow, standIns := [], harness := (true, "da7bce1eed758fe6e5c4b6ef35515ca3c0eaeb619618ed462926bdfcfea2f294"), looks := true }, kinds := [], alts := [], laidByText := true, laidKinds := [.data, .data, .data, .data, .sentinel, .sentinel, .pinned], laidTests := true, laidLooks := .later }
def TopHoleUptoCardSaid : Prop := Claim7.holds Tryd.pinned (.plain (OpenSpec.upto topHoleSpec)) topHoleUptoCard

/-- THE SECOND FORM's CARD OF 'mhtop.TopDisks'. -/
def topDisksUptoCard : Claim7 := { stood := { row := topDisksUptoRow, standIns := [], harness := (true, "da7bce1eed758fe6e5c4b6ef35515ca3c0eaeb619618ed462926bdfcfea2f294"), looks := true }, kinds := [], alts := [], laidByText := true, laidKinds := [.data, .data, .data, .data, .sentinel, .sentinel, .pinned], laidTests := true, laidLooks := .later }
def TopDisksUptoCardSaid : Prop := Claim7.holds Tryd.pinned (.plain (OpenSpec.upto topDisksSpec)) topDisksUptoCard

/-- THE SECOND FORM's CARD OF 'mhtop.TopRot'. -/
def topRotUptoCard : Claim7 := { stood := { row := topRotUptoRow, standIns := [], harness := (true, "da7bce1eed758fe6e5c4b6ef35515ca3c0eaeb619618ed462926bdfcfea2f294"), looks := true }, kinds := [], alts := [], laidByText := true, laidKinds := [.data, .data, .data, .data, .sentinel, .sentinel, .pinned], laidTests := true, laidLooks := .later }
def TopRotUptoCardSaid : Prop := Claim7.holds Tryd.pinned (.plain (OpenSpec.upto topRotSpec)) topRotUptoCard
end Rows
end Go.Proofs.YtdcmbdghnkgghaaDoor
