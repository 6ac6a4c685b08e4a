/-
  DERIVED. GIVEN WITH THE SEED: THE CARDS: each row of YtnpdaegfmfkghaaDoorRows.lean that lists a variable, with what it lists TIED to the program's text (the seventh form; the later family's looks); each row that meets fmt, with fmt's text TOLD by the authors' own Lean function (tested against real Go, not proved from fmt's source: count such statements apart). THE CARD IS WHAT COUNTS. Prove the row's statement (the work); the ties are given (YtnpdaegfmfkghaaDoorTie.lean); close each card by the builder's one call (the guide's Derived/Test/ToyasCard.lean, 'card_holds'). Laid BY PROGRAM, IN A SANDBOX (cutbox-door.mjs). By AI agents, Wed Nov 11 2026. No macro, syntax, notation, axiom, sorry.
-/
import Derived.Test.YtnpdaegfmfkghaaDoorRows
import GoSem.ClaimSeven
namespace Go.Proofs.YtnpdaegfmfkghaaDoor
namespace Rows

/-- THE TIED CARD OF 'junctionboxlaw24.CoverOnes'. -/
def coverOnesCard : Claim7 := { stood := { row := coverOnesRow, standIns := [], harness := (true, "28f438c7b2fce4c3ae993138fefd986f0441fc15ed5329f86fad10784112a7d3"), looks := false }, kinds := [], alts := [], laidByText := true, laidKinds := [.data], laidTests := true, laidLooks := .later }
def CoverOnesCardSaid : Prop := Claim7.holds Tryd.pinned (.plain (OpenSpec.ofChange coverOnesSpec)) coverOnesCard

/-- THE TIED CARD OF 'junctionboxlaw24.CoverLeast'. -/
def coverLeastCard : Claim7 := { stood := { row := coverLeastRow, standIns := [], harness := (true, "28f438c7b2fce4c3ae993138fefd986f0441fc15ed5329f86fad10784112a7d3"), looks := false }, kinds := [], alts := [], laidByText := true, laidKinds := [.data], laidTests := true, laidLooks := .later }
def CoverLeastCardSaid : Prop := Claim7.holds Tryd.pinned (.plain (OpenSpec.ofChange coverLeastSpec)) coverLeastCard

/-- THE TIED CARD OF 'junctionboxlaw24.CoverDoes'. -/
def coverDoesCard : Claim7 := { stood := { row := coverDoesRow, standIns := [], harness := (true, "28f438c7b2fce4c3ae993138fefd986f0441fc15ed5329f86fad10784112a7d3"), looks := false }, kinds := [], alts := [], laidByText := true, laidKinds := [.data], laidTests := true, laidLooks := .later }
def CoverDoesCardSaid : Prop := Claim7.holds Tryd.pinned (.plain (OpenSpec.ofChange coverDoesSpec)) coverDoesCard

/-- THE TIED CARD OF 'junctionboxlaw24.CoverMembers'. -/
def coverMembersCard : Claim7 := { stood := { row := coverMembersRow, standIns := [], harness := (true, "28f438c7b2fce4c3ae993138fefd986f0441fc15ed5329f86fad10784112a7d3"), looks := false }, kinds := [], alts := [], laidByText := true, laidKinds := [.data], laidTests := true, laidLooks := .later }
def CoverMembersCardSaid : Prop := Claim7.holds Tryd.pinned (.plain (OpenSpec.ofChange coverMembersSpec)) coverMembersCard

/-- THE TIED CARD OF 'junctionboxlaw24.CoverParts'. -/
def coverPartsCard : Claim7 := { stood := { row := coverPartsRow, standIns := [], harness := (true, "28f438c7b2fce4c3ae993138fefd986f0441fc15ed5329f86fad10784112a7d3"), looks := false }, kinds := [], alts := [], laidByText := true, laidKinds := [.data], laidTests := true, laidLooks := .later }
def CoverPartsCardSaid : Prop := Claim7.holds Tryd.pinned (.plain (OpenSpec.ofChange coverPartsSpec)) coverPartsCard

/-- THE TIED CARD OF 'junctionboxlaw24.CoverSame'. -/
def coverSameCard : Claim7 := { stood := { row := coverSameRow, standIns := [], harness := (true, "28f438c7b2fce4c3ae993138fefd986f0441fc15ed5329f86fad10784112a7d3"), looks := false }, kinds := [], alts := [], laidByText := true, laidKinds := [.data], laidTests := true, laidLooks := .later }
def CoverSameCardSaid : Prop := Claim7.holds Tryd.pinned (.plain (OpenSpec.ofChange coverSameSpec)) coverSameCard

/-- THE SECOND FORM's CARD OF 'junctionboxlaw24.CoverOnes'. -/
def coverOnesUptoCard : Claim7 := { stood := { row := coverOnesUptoRow, standIns := [], harness := (true, "28f438c7b2fce4c3ae993138fefd986f0441fc15ed5329f86fad10784112a7d3"), looks := false }, kinds := [], alts := [], laidByText := true, laidKinds := [.data], laidTests := true, laidLooks := .later }
def CoverOnesUptoCardSaid : Prop := Claim7.holds Tryd.pinned (.plain (OpenSpec.upto coverOnesSpec)) coverOnesUptoCard

/-- THE SECOND FORM's CARD OF 'junctionboxlaw24.CoverLeast'. -/
def coverLeastUptoCard : Claim7 := { stood := { row := coverLeastUptoRow, standIns := [], harness := (true, "28f438c7b2fce4c3ae993138fefd986f0441fc15ed5329f86fad10784112a7d3"), looks := false }, kinds := [], alts := [], laidByText := true, laidKinds := [.data], laidTests := true, laidLooks := .later }
def CoverLeastUptoCardSaid : Prop := Claim7.holds Tryd.pinned (.plain (OpenSpec.upto coverLeastSpec)) coverLeastUptoCard

/-- THE SECOND FORM's CARD OF 'junctionboxlaw24.CoverDoes'. -/
def coverDoesUptoCard : Claim7 := { stood := { row := coverDoesUptoRow, standIns := [], harness := (true, "28f438c7b2fce4c3ae993138fefd986f0441fc15ed5329f86fad10784112a7d3"), looks := false }, kinds := [], alts := [], laidByText := true, laidKinds := [.data], laidTests := true, laidLooks := .later }
def CoverDoesUptoCardSaid : Prop := Claim7.holds Tryd.pinned (.plain (OpenSpec.upto coverDoesSpec)) coverDoesUptoCard

/-- THE SECOND FORM's CARD OF 'junctionboxlaw24.CoverMembers'. -/
def coverMembersUptoCard : Claim7 := { stood := { row := coverMembersUptoRow, standIns := [], harness := (true, "28f438c7b2fce4c3ae993138fefd986f0441fc15ed5329f86fad10784112a7d3"), looks := false }, kinds := [], alts := [], laidByText := true, laidKinds := [.data], laidTests := true, laidLooks := .later }
def CoverMembersUptoCardSaid : Prop := Claim7.holds Tryd.pinned (.plain (OpenSpec.upto coverMembersSpec)) coverMembersUptoCard

/-- THE SECOND FORM's CARD OF 'junctionboxlaw24.CoverParts'. -/
def coverPartsUptoCard : Claim7 := { stood := { row := coverPartsUptoRow, standIns := [], harness := (true, "28f438c7b2fce4c3ae993138fefd986f0441fc15ed5329f86fad10784112a7d3"), looks := false }, kinds := [], alts := [], laidByText := true, laidKinds := [.data], laidTests := true, laidLooks := .later }
def CoverPartsUptoCardSaid : Prop := Claim7.holds Tryd.pinned (.plain (OpenSpec.upto coverPartsSpec)) coverPartsUptoCard

/-- THE SECOND FORM's CARD OF 'junctionboxlaw24.CoverSame'. -/
def coverSameUptoCard : Claim7 := { stood := { row := coverSameUptoRow, standIns := [], harness := (true, "28f438c7b2fce4c3ae993138fefd986f0441fc15ed5329f86fad10784112a7d3"), looks := false }, kinds := [], alts := [], laidByText := true, laidKinds := [.data], laidTests := true, laidLooks := .later }
def CoverSameUptoCardSaid : Prop := Claim7.holds Tryd.pinned (.plain (OpenSpec.upto coverSameSpec)) coverSameUptoCard
end Rows
end Go.Proofs.YtnpdaegfmfkghaaDoor
