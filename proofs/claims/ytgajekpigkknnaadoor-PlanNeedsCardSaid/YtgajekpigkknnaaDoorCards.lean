/-
  DERIVED. GIVEN WITH THE SEED: THE CARDS: each row of YtgajekpigkknnaaDoorRows.lean that lists a variable, with what it lists TIED to the program's text (the seventh form; the later family's looks); each row that meets fmt, with fmt's text TOLD by the authors' own Lean function (tested against real Go, not proved from fmt's source: count such statements apart). THE CARD IS WHAT COUNTS. Prove the row's statement (the work); the ties are given (YtgajekpigkknnaaDoorTie.lean); close each card by the builder's one call (the guide's Derived/Test/ToyasCard.lean, 'card_holds'). Laid BY PROGRAM, IN A SANDBOX (cutbox-door.mjs). By AI agents, Wed Nov 11 2026. No macro, syntax, notation, axiom, sorry.
-/
import Derived.Test.YtgajekpigkknnaaDoorRows
import GoSem.ClaimSeven
namespace Go.Proofs.YtgajekpigkknnaaDoor
namespace Rows

/-- THE TIED CARD OF 'junctionboxlaw32.PlanCuts'. -/
def planCutsCard : Claim7 := { stood := { row := planCutsRow, standIns := [], harness := (true, "ae6e98193a0b7baa674413dbb39b503fd8ee00c2dd08da644d65af8369aa3035"), looks := false }, kinds := [], alts := [], laidByText := true, laidKinds := [.data], laidTests := true, laidLooks := .later }
def PlanCutsCardSaid : Prop := Claim7.holds Tryd.pinned (.plain (OpenSpec.ofChange planCutsSpec)) planCutsCard

/-- THE TIED CARD OF 'junctionboxlaw32.PlanDoes'. -/
def planDoesCard : Claim7 := { stood := { row := planDoesRow, standIns := [], harness := (true, "ae6e98193a0b7baa674413dbb39b503fd8ee00c2dd08da644d65af8369aa3035"), looks := false }, kinds := [], alts := [], laidByText := true, laidKinds := [.data], laidTests := true, laidLooks := .later }
def PlanDoesCardSaid : Prop := Claim7.holds Tryd.pinned (.plain (OpenSpec.ofChange planDoesSpec)) planDoesCard

/-- THE TIED CARD OF 'junctionboxlaw32.PlanNeeds'. -/
def planNeedsCard : Claim7 := { stood := { row := planNeedsRow, standIns := [], harness := (true, "ae6e98193a0b7baa674413dbb39b503fd8ee00c2dd08da644d65af8369aa3035"), looks := false }, kinds := [], alts := [], laidByText := true, laidKinds := [.data], laidTests := true, laidLooks := .later }
def PlanNeedsCardSaid : Prop := Claim7.holds Tryd.pinned (.plain (OpenSpec.ofChange planNeedsSpec)) planNeedsCard

/-- THE TIED CARD OF 'junctionboxlaw32.PlanLeads'. -/
def planLeadsCard : Claim7 := { stood := { row := planLeadsRow, standIns := [], harness := (true, "ae6e98193a0b7baa674413dbb39b503fd8ee00c2dd08da644d65af8369aa3035"), looks := false }, kinds := [], alts := [], laidByText := true, laidKinds := [.data], laidTests := true, laidLooks := .later }
def PlanLeadsCardSaid : Prop := Claim7.holds Tryd.pinned (.plain (OpenSpec.ofChange planLeadsSpec)) planLeadsCard

/-- THE TIED CARD OF 'junctionboxlaw32.PlanComes'. -/
def planComesCard : Claim7 := { stood := { row := planComesRow, standIns := [], harness := (true, "ae6e98193a0b7baa674413dbb39b503fd8ee00c2dd08da644d65af8369aa3035"), looks := false }, kinds := [], alts := [], laidByText := true, laidKinds := [.data], laidTests := true, laidLooks := .later }
def PlanComesCardSaid : Prop := Claim7.holds Tryd.pinned (.plain (OpenSpec.ofChange planComesSpec)) planComesCard

/-- THE TIED CARD OF 'junctionboxlaw32.PlanWay'. -/
def planWayCard : Claim7 := { stood := { row := planWayRow, standIns := [], harness := (true, "ae6e98193a0b7baa674413dbb39b503fd8ee00c2dd08da644d65af8369aa3035"), looks := false }, kinds := [], alts := [], laidByText := true, laidKinds := [.data], laidTests := true, laidLooks := .later }
def PlanWayCardSaid : Prop := Claim7.holds Tryd.pinned (.plain (OpenSpec.ofChange planWaySpec)) planWayCard

/-- THE SECOND FORM's CARD OF 'junctionboxlaw32.PlanCuts'. -/
def planCutsUptoCard : Claim7 := { stood := { row := planCutsUptoRow, standIns := [], harness := (true, "ae6e98193a0b7baa674413dbb39b503fd8ee00c2dd08da644d65af8369aa3035"), looks := false }, kinds := [], alts := [], laidByText := true, laidKinds := [.data], laidTests := true, laidLooks := .later }
def PlanCutsUptoCardSaid : Prop := Claim7.holds Tryd.pinned (.plain (OpenSpec.upto planCutsSpec)) planCutsUptoCard

/-- THE SECOND FORM's CARD OF 'junctionboxlaw32.PlanDoes'. -/
def planDoesUptoCard : Claim7 := { stood := { row := planDoesUptoRow, standIns := [], harness := (true, "ae6e98193a0b7baa674413dbb39b503fd8ee00c2dd08da644d65af8369aa3035"), looks := false }, kinds := [], alts := [], laidByText := true, laidKinds := [.data], laidTests := true, laidLooks := .later }
def PlanDoesUptoCardSaid : Prop := Claim7.holds Tryd.pinned (.plain (OpenSpec.upto planDoesSpec)) planDoesUptoCard

/-- THE SECOND FORM's CARD OF 'junctionboxlaw32.PlanNeeds'. -/
def planNeedsUptoCard : Claim7 := { stood := { row := planNeedsUptoRow, standIns := [], harness := (true, "ae6e98193a0b7baa674413dbb39b503fd8ee00c2dd08da644d65af8369aa3035"), looks := false }, kinds := [], alts := [], laidByText := true, laidKinds := [.data], laidTests := true, laidLooks := .later }
def PlanNeedsUptoCardSaid : Prop := Claim7.holds Tryd.pinned (.plain (OpenSpec.upto planNeedsSpec)) planNeedsUptoCard

/-- THE SECOND FORM's CARD OF 'junctionboxlaw32.PlanLeads'. -/
def planLeadsUptoCard : Claim7 := { stood := { row := planLeadsUptoRow, standIns := [], harness := (true, "ae6e98193a0b7baa674413dbb39b503fd8ee00c2dd08da644d65af8369aa3035"), looks := false }, kinds := [], alts := [], laidByText := true, laidKinds := [.data], laidTests := true, laidLooks := .later }
def PlanLeadsUptoCardSaid : Prop := Claim7.holds Tryd.pinned (.plain (OpenSpec.upto planLeadsSpec)) planLeadsUptoCard

/-- THE SECOND FORM's CARD OF 'junctionboxlaw32.PlanComes'. -/
def planComesUptoCard : Claim7 := { stood := { row := planComesUptoRow, standIns := [], harness := (true, "ae6e98193a0b7baa674413dbb39b503fd8ee00c2dd08da644d65af8369aa3035"), looks := false }, kinds := [], alts := [], laidByText := true, laidKinds := [.data], laidTests := true, laidLooks := .later }
def PlanComesUptoCardSaid : Prop := Claim7.holds Tryd.pinned (.plain (OpenSpec.upto planComesSpec)) planComesUptoCard

/-- THE SECOND FORM's CARD OF 'junctionboxlaw32.PlanWay'. -/
def planWayUptoCard : Claim7 := { stood := { row := planWayUptoRow, standIns := [], harness := (true, "ae6e98193a0b7baa674413dbb39b503fd8ee00c2dd08da644d65af8369aa3035"), looks := false }, kinds := [], alts := [], laidByText := true, laidKinds := [.data], laidTests := true, laidLooks := .later }
def PlanWayUptoCardSaid : Prop := Claim7.holds Tryd.pinned (.plain (OpenSpec.upto planWaySpec)) planWayUptoCard
end Rows
end Go.Proofs.YtgajekpigkknnaaDoor
