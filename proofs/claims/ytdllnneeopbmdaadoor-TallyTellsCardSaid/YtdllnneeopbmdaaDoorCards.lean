/-
  DERIVED. GIVEN WITH THE SEED: THE CARDS: each row of YtdllnneeopbmdaaDoorRows.lean that lists a variable, with what it lists TIED to the program's text (the seventh form; the later family's looks); each row that meets fmt, with fmt's text TOLD by the authors' own Lean function (tested against real Go, not proved from fmt's source: count such statements apart). THE CARD IS WHAT COUNTS. Prove the row's statement (the work); the ties are given (YtdllnneeopbmdaaDoorTie.lean); close each card by the builder's one call (the guide's Derived/Test/ToyasCard.lean, 'card_holds'). Laid BY PROGRAM, IN A SANDBOX (cutbox-door.mjs). By AI agents, Wed Nov 11 2026. No macro, syntax, notation, axiom, sorry.
-/
import Derived.Test.YtdllnneeopbmdaaDoorRows
import GoSem.ClaimSeven
namespace Go.Proofs.YtdllnneeopbmdaaDoor
namespace Rows

/-- THE TIED CARD OF 'junctionboxlaw31.TallyPasses'. -/
def tallyPassesCard : Claim7 := { stood := { row := tallyPassesRow, standIns := [], harness := (true, "655947527dd25cc41bc9420163214db6b1d2c799332526504b7e5071bf693f09"), looks := false }, kinds := [], alts := [], laidByText := true, laidKinds := [.data], laidTests := true, laidLooks := .later }
def TallyPassesCardSaid : Prop := Claim7.holds Tryd.pinned (.plain (OpenSpec.ofChange tallyPassesSpec)) tallyPassesCard

/-- THE TIED CARD OF 'junctionboxlaw31.TallyMoves'. -/
def tallyMovesCard : Claim7 := { stood := { row := tallyMovesRow, standIns := [], harness := (true, "655947527dd25cc41bc9420163214db6b1d2c799332526504b7e5071bf693f09"), looks := false }, kinds := [], alts := [], laidByText := true, laidKinds := [.data], laidTests := true, laidLooks := .later }
def TallyMovesCardSaid : Prop := Claim7.holds Tryd.pinned (.plain (OpenSpec.ofChange tallyMovesSpec)) tallyMovesCard

/-- THE TIED CARD OF 'junctionboxlaw31.TallyJoins'. -/
def tallyJoinsCard : Claim7 := { stood := { row := tallyJoinsRow, standIns := [], harness := (true, "655947527dd25cc41bc9420163214db6b1d2c799332526504b7e5071bf693f09"), looks := false }, kinds := [], alts := [], laidByText := true, laidKinds := [.data], laidTests := true, laidLooks := .later }
def TallyJoinsCardSaid : Prop := Claim7.holds Tryd.pinned (.plain (OpenSpec.ofChange tallyJoinsSpec)) tallyJoinsCard

/-- THE TIED CARD OF 'junctionboxlaw31.TallyApart'. -/
def tallyApartCard : Claim7 := { stood := { row := tallyApartRow, standIns := [], harness := (true, "655947527dd25cc41bc9420163214db6b1d2c799332526504b7e5071bf693f09"), looks := false }, kinds := [], alts := [], laidByText := true, laidKinds := [.data], laidTests := true, laidLooks := .later }
def TallyApartCardSaid : Prop := Claim7.holds Tryd.pinned (.plain (OpenSpec.ofChange tallyApartSpec)) tallyApartCard

/-- THE TIED CARD OF 'junctionboxlaw31.TallyAll'. -/
def tallyAllCard : Claim7 := { stood := { row := tallyAllRow, standIns := [], harness := (true, "655947527dd25cc41bc9420163214db6b1d2c799332526504b7e5071bf693f09"), looks := false }, kinds := [], alts := [], laidByText := true, laidKinds := [.data], laidTests := true, laidLooks := .later }
def TallyAllCardSaid : Prop := Claim7.holds Tryd.pinned (.plain (OpenSpec.ofChange tallyAllSpec)) tallyAllCard

/-- THE TIED CARD OF 'junctionboxlaw31.TallyMost'. -/
def tallyMostCard : Claim7 := { stood := { row := tallyMostRow, standIns := [], harness := (true, "655947527dd25cc41bc9420163214db6b1d2c799332526504b7e5071bf693f09"), looks := false }, kinds := [], alts := [], laidByText := true, laidKinds := [.data], laidTests := true, laidLooks := .later }
def TallyMostCardSaid : Prop := Claim7.holds Tryd.pinned (.plain (OpenSpec.ofChange tallyMostSpec)) tallyMostCard

/-- THE TIED CARD OF 'junctionboxlaw31.TallyTells'. -/
def tallyTellsCard : Claim7 := { stood := { row := tallyTellsRow, standIns := [], harness := (true, "655947527dd25cc41bc9420163214db6b1d2c799332526504b7e5071bf693f09"), looks := false }, kinds := [], alts := [], laidByText := true, laidKinds := [.data], laidTests := true, laidLooks := .later }
def TallyTellsCardSaid : Prop := Claim7.holds Tryd.pinned (.plain (OpenSpec.ofChange tallyTellsSpec)) tallyTellsCard

/-- THE SECOND FORM's CARD OF 'junctionboxlaw31.TallyPasses'. -/
def tallyPassesUptoCard : Claim7 := { stood := { row := tallyPassesUptoRow, standIns := [], harness := (true, "655947527dd25cc41bc9420163214db6b1d2c799332526504b7e5071bf693f09"), looks := false }, kinds := [], alts := [], laidByText := true, laidKinds := [.data], laidTests := true, laidLooks := .later }
def TallyPassesUptoCardSaid : Prop := Claim7.holds Tryd.pinned (.plain (OpenSpec.upto tallyPassesSpec)) tallyPassesUptoCard

/-- THE SECOND FORM's CARD OF 'junctionboxlaw31.TallyMoves'. -/
def tallyMovesUptoCard : Claim7 := { stood := { row := tallyMovesUptoRow, standIns := [], harness := (true, "655947527dd25cc41bc9420163214db6b1d2c799332526504b7e5071bf693f09"), looks := false }, kinds := [], alts := [], laidByText := true, laidKinds := [.data], laidTests := true, laidLooks := .later }
def TallyMovesUptoCardSaid : Prop := Claim7.holds Tryd.pinned (.plain (OpenSpec.upto tallyMovesSpec)) tallyMovesUptoCard

/-- THE SECOND FORM's CARD OF 'junctionboxlaw31.TallyJoins'. -/
def tallyJoinsUptoCard : Claim7 := { stood := { row := tallyJoinsUptoRow, standIns := [], harness := (true, "655947527dd25cc41bc9420163214db6b1d2c799332526504b7e5071bf693f09"), looks := false }, kinds := [], alts := [], laidByText := true, laidKinds := [.data], laidTests := true, laidLooks := .later }
def TallyJoinsUptoCardSaid : Prop := Claim7.holds Tryd.pinned (.plain (OpenSpec.upto tallyJoinsSpec)) tallyJoinsUptoCard

/-- THE SECOND FORM's CARD OF 'junctionboxlaw31.TallyApart'. -/
def tallyApartUptoCard : Claim7 := { stood := { row := tallyApartUptoRow, standIns := [], harness := (true, "655947527dd25cc41bc9420163214db6b1d2c799332526504b7e5071bf693f09"), looks := false }, kinds := [], alts := [], laidByText := true, laidKinds := [.data], laidTests := true, laidLooks := .later }
def TallyApartUptoCardSaid : Prop := Claim7.holds Tryd.pinned (.plain (OpenSpec.upto tallyApartSpec)) tallyApartUptoCard

/-- THE SECOND FORM's CARD OF 'junctionboxlaw31.TallyAll'. -/
def tallyAllUptoCard : Claim7 := { stood := { row := tallyAllUptoRow, standIns := [], harness := (true, "655947527dd25cc41bc9420163214db6b1d2c799332526504b7e5071bf693f09"), looks := false }, kinds := [], alts := [], laidByText := true, laidKinds := [.data], laidTests := true, laidLooks := .later }
def TallyAllUptoCardSaid : Prop := Claim7.holds Tryd.pinned (.plain (OpenSpec.upto tallyAllSpec)) tallyAllUptoCard

/-- THE SECOND FORM's CARD OF 'junctionboxlaw31.TallyMost'. -/
def tallyMostUptoCard : Claim7 := { stood := { row := tallyMostUptoRow, standIns := [], harness := (true, "655947527dd25cc41bc9420163214db6b1d2c799332526504b7e5071bf693f09"), looks := false }, kinds := [], alts := [], laidByText := true, laidKinds := [.data], laidTests := true, laidLooks := .later }
def TallyMostUptoCardSaid : Prop := Claim7.holds Tryd.pinned (.plain (OpenSpec.upto tallyMostSpec)) tallyMostUptoCard

/-- THE SECOND FORM's CARD OF 'junctionboxlaw31.TallyTells'. -/
def tallyTellsUptoCard : Claim7 := { stood := { row := tallyTellsUptoRow, standIns := [], harness := (true, "655947527dd25cc41bc9420163214db6b1d2c799332526504b7e5071bf693f09"), looks := false }, kinds := [], alts := [], laidByText := true, laidKinds := [.data], laidTests := true, laidLooks := .later }
def TallyTellsUptoCardSaid : Prop := Claim7.holds Tryd.pinned (.plain (OpenSpec.upto tallyTellsSpec)) tallyTellsUptoCard
end Rows
end Go.Proofs.YtdllnneeopbmdaaDoor
