/-
  DERIVED. GIVEN WITH THE SEED: THE CARDS: each row of YtihbammfchnjgaaDoorRows.lean that lists a variable, with what it lists TIED to the program's text (the seventh form; the later family's looks); each row that meets fmt, with fmt's text TOLD by the authors' own Lean function (tested against real Go, not proved from fmt's source: count such statements apart). THE CARD IS WHAT COUNTS. Prove the row's statement (the work); the ties are given (YtihbammfchnjgaaDoorTie.lean); close each card by the builder's one call (the guide's Derived/Test/ToyasCard.lean, 'card_holds'). Laid BY PROGRAM, IN A SANDBOX (cutbox-door.mjs). By AI agents, Wed Nov 11 2026. No macro, syntax, notation, axiom, sorry.
-/
import Derived.Test.YtihbammfchnjgaaDoorRows
import GoSem.ClaimSeven
namespace Go.Proofs.YtihbammfchnjgaaDoor
namespace Rows

/-- THE TIED CARD OF 'junctionboxlaw28.QueryPages'. -/
def queryPagesCard : Claim7 := { stood := { row := queryPagesRow, standIns := [], harness := (true, "695913bda67d565da42c847afaebd99ad4eb5217e9961ec85b5d3e1f4d4d8a7f"), looks := false }, kinds := [], alts := [], laidByText := true, laidKinds := [.data], laidTests := true, laidLooks := .later }
def QueryPagesCardSaid : Prop := Claim7.holds Tryd.pinned (.plain (OpenSpec.ofChange queryPagesSpec)) queryPagesCard

/-- THE TIED CARD OF 'junctionboxlaw28.QueryFree'. -/
def queryFreeCard : Claim7 := { stood := { row := queryFreeRow, standIns := [], harness := (true, "695913bda67d565da42c847afaebd99ad4eb5217e9961ec85b5d3e1f4d4d8a7f"), looks := false }, kinds := [], alts := [], laidByText := true, laidKinds := [.data], laidTests := true, laidLooks := .later }
def QueryFreeCardSaid : Prop := Claim7.holds Tryd.pinned (.plain (OpenSpec.ofChange queryFreeSpec)) queryFreeCard

/-- THE TIED CARD OF 'junctionboxlaw28.QueryWhole'. -/
def queryWholeCard : Claim7 := { stood := { row := queryWholeRow, standIns := [], harness := (true, "695913bda67d565da42c847afaebd99ad4eb5217e9961ec85b5d3e1f4d4d8a7f"), looks := false }, kinds := [], alts := [], laidByText := true, laidKinds := [.data], laidTests := true, laidLooks := .later }
def QueryWholeCardSaid : Prop := Claim7.holds Tryd.pinned (.plain (OpenSpec.ofChange queryWholeSpec)) queryWholeCard

/-- THE TIED CARD OF 'junctionboxlaw28.QueryRows'. -/
def queryRowsCard : Claim7 := { stood := { row := queryRowsRow, standIns := [], harness := (true, "695913bda67d565da42c847afaebd99ad4eb5217e9961ec85b5d3e1f4d4d8a7f"), looks := false }, kinds := [], alts := [], laidByText := true, laidKinds := [.data], laidTests := true, laidLooks := .later }
def QueryRowsCardSaid : Prop := Claim7.holds Tryd.pinned (.plain (OpenSpec.ofChange queryRowsSpec)) queryRowsCard

/-- THE TIED CARD OF 'junctionboxlaw28.QueryAddrs'. -/
def queryAddrsCard : Claim7 := { stood := { row := queryAddrsRow, standIns := [], harness := (true, "695913bda67d565da42c847afaebd99ad4eb5217e9961ec85b5d3e1f4d4d8a7f"), looks := false }, kinds := [], alts := [], laidByText := true, laidKinds := [.data], laidTests := true, laidLooks := .later }
def QueryAddrsCardSaid : Prop := Claim7.holds Tryd.pinned (.plain (OpenSpec.ofChange queryAddrsSpec)) queryAddrsCard

/-- THE TIED CARD OF 'junctionboxlaw28.QueryLongest'. -/
def queryLongestCard : Claim7 := { stood := { row := queryLongestRow, standIns := [], harness := (true, "695913bda67d565da42c847afaebd99ad4eb5217e9961ec85b5d3e1f4d4d8a7f"), looks := false }, kinds := [], alts := [], laidByText := true, laidKinds := [.data], laidTests := true, laidLooks := .later }
def QueryLongestCardSaid : Prop := Claim7.holds Tryd.pinned (.plain (OpenSpec.ofChange queryLongestSpec)) queryLongestCard

/-- THE TIED CARD OF 'junctionboxlaw28.QueryMay'. -/
def queryMayCard : Claim7 := { stood := { row := queryMayRow, standIns := [], harness := (true, "695913bda67d565da42c847afaebd99ad4eb5217e9961ec85b5d3e1f4d4d8a7f"), looks := false }, kinds := [], alts := [], laidByText := true, laidKinds := [.data], laidTests := true, laidLooks := .later }
def QueryMayCardSaid : Prop := Claim7.holds Tryd.pinned (.plain (OpenSpec.ofChange queryMaySpec)) queryMayCard

/-- THE TIED CARD OF 'junctionboxlaw28.QueryChanges'. -/
def queryChangesCard : Claim7 := { stood := { row := queryChangesRow, standIns := [], harness := (true, "695913bda67d565da42c847afaebd99ad4eb5217e9961ec85b5d3e1f4d4d8a7f"), looks := false }, kinds := [], alts := [], laidByText := true, laidKinds := [.data], laidTests := true, laidLooks := .later }
def QueryChangesCardSaid : Prop := Claim7.holds Tryd.pinned (.plain (OpenSpec.ofChange queryChangesSpec)) queryChangesCard

/-- THE SECOND FORM's CARD OF 'junctionboxlaw28.QueryPages'. -/
def queryPagesUptoCard : Claim7 := { stood := { row := queryPagesUptoRow, standIns := [], harness := (true, "695913bda67d565da42c847afaebd99ad4eb5217e9961ec85b5d3e1f4d4d8a7f"), looks := false }, kinds := [], alts := [], laidByText := true, laidKinds := [.data], laidTests := true, laidLooks := .later }
def QueryPagesUptoCardSaid : Prop := Claim7.holds Tryd.pinned (.plain (OpenSpec.upto queryPagesSpec)) queryPagesUptoCard

/-- THE SECOND FORM's CARD OF 'junctionboxlaw28.QueryFree'. -/
def queryFreeUptoCard : Claim7 := { stood := { row := queryFreeUptoRow, standIns := [], harness := (true, "695913bda67d565da42c847afaebd99ad4eb5217e9961ec85b5d3e1f4d4d8a7f"), looks := false }, kinds := [], alts := [], laidByText := true, laidKinds := [.data], laidTests := true, laidLooks := .later }
def QueryFreeUptoCardSaid : Prop := Claim7.holds Tryd.pinned (.plain (OpenSpec.upto queryFreeSpec)) queryFreeUptoCard

/-- THE SECOND FORM's CARD OF 'junctionboxlaw28.QueryWhole'. -/
def queryWholeUptoCard : Claim7 := { stood := { row := queryWholeUptoRow, standIns := [], harness := (true, "695913bda67d565da42c847afaebd99ad4eb5217e9961ec85b5d3e1f4d4d8a7f"), looks := false }, kinds := [], alts := [], laidByText := true, laidKinds := [.data], laidTests := true, laidLooks := .later }
def QueryWholeUptoCardSaid : Prop := Claim7.holds Tryd.pinned (.plain (OpenSpec.upto queryWholeSpec)) queryWholeUptoCard

/-- THE SECOND FORM's CARD OF 'junctionboxlaw28.QueryRows'. -/
def queryRowsUptoCard : Claim7 := { stood := { row := queryRowsUptoRow, standIns := [], harness := (true, "695913bda67d565da42c847afaebd99ad4eb5217e9961ec85b5d3e1f4d4d8a7f"), looks := false }, kinds := [], alts := [], laidByText := true, laidKinds := [.data], laidTests := true, laidLooks := .later }
def QueryRowsUptoCardSaid : Prop := Claim7.holds Tryd.pinned (.plain (OpenSpec.upto queryRowsSpec)) queryRowsUptoCard

/-- THE SECOND FORM's CARD OF 'junctionboxlaw28.QueryAddrs'. -/
def queryAddrsUptoCard : Claim7 := { stood := { row := queryAddrsUptoRow, standIns := [], harness := (true, "695913bda67d565da42c847afaebd99ad4eb5217e9961ec85b5d3e1f4d4d8a7f"), looks := false }, kinds := [], alts := [], laidByText := true, laidKinds := [.data], laidTests := true, laidLooks := .later }
def QueryAddrsUptoCardSaid : Prop := Claim7.holds Tryd.pinned (.plain (OpenSpec.upto queryAddrsSpec)) queryAddrsUptoCard

/-- THE SECOND FORM's CARD OF 'junctionboxlaw28.QueryLongest'. -/
def queryLongestUptoCard : Claim7 := { stood := { row := queryLongestUptoRow, standIns := [], harness := (true, "695913bda67d565da42c847afaebd99ad4eb5217e9961ec85b5d3e1f4d4d8a7f"), looks := false }, kinds := [], alts := [], laidByText := true, laidKinds := [.data], laidTests := true, laidLooks := .later }
def QueryLongestUptoCardSaid : Prop := Claim7.holds Tryd.pinned (.plain (OpenSpec.upto queryLongestSpec)) queryLongestUptoCard

/-- THE SECOND FORM's CARD OF 'junctionboxlaw28.QueryMay'. -/
def queryMayUptoCard : Claim7 := { stood := { row := queryMayUptoRow, standIns := [], harness := (true, "695913bda67d565da42c847afaebd99ad4eb5217e9961ec85b5d3e1f4d4d8a7f"), looks := false }, kinds := [], alts := [], laidByText := true, laidKinds := [.data], laidTests := true, laidLooks := .later }
def QueryMayUptoCardSaid : Prop := Claim7.holds Tryd.pinned (.plain (OpenSpec.upto queryMaySpec)) queryMayUptoCard

/-- THE SECOND FORM's CARD OF 'junctionboxlaw28.QueryChanges'. -/
def queryChangesUptoCard : Claim7 := { stood := { row := queryChangesUptoRow, standIns := [], harness := (true, "695913bda67d565da42c847afaebd99ad4eb5217e9961ec85b5d3e1f4d4d8a7f"), looks := false }, kinds := [], alts := [], laidByText := true, laidKinds := [.data], laidTests := true, laidLooks := .later }
def QueryChangesUptoCardSaid : Prop := Claim7.holds Tryd.pinned (.plain (OpenSpec.upto queryChangesSpec)) queryChangesUptoCard
end Rows
end Go.Proofs.YtihbammfchnjgaaDoor
