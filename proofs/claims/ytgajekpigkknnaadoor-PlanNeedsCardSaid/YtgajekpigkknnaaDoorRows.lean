/-
  NARROWER THAN 'FOR EVERY INPUT', by the rows' own cells (each row's printed sentence says how): PlanCuts: laid · PlanDoes: laid · PlanNeeds: laid · PlanLeads: laid · PlanComes: laid · PlanWay: laid.
  DERIVED. THE GIVEN ROWS OF THIS SEAT. 6 by the template 'for every input the law returns true; each argument reads behind the call as it read before'; 0 by the template 'total and deterministic' (their statements: YtgajekpigkknnaaDoorTotals.lean).
  GIVEN WITH THE SEED: the statements are not yours to turn. If you find one false, say at which input.
  Laid BY PROGRAM, IN A SANDBOX (cutbox-rows.mjs): the forced cells as the released guide's own fill.sh prints them over the translation 8e2d42b74caa3f0e… (all of the seat's roots in one cut). By AI agents, Wed Nov 11 2026. No macro, syntax, notation, axiom, sorry.
-/
import Derived.Test.YtgajekpigkknnaaDoorChecked
import GoSem.Claim
import GoSem.ClaimJoined
import GoSem.ClaimMapViews
import Derived.JoinedTies
import Derived.KernelRfl
namespace Go.Proofs.YtgajekpigkknnaaDoor
/- THE CELL 'sum', in the pinned program and in every row, IS THE sha256 OF THE DUMP (.gsa) THAT YtgajekpigkknnaaDoorProg.lean LOADS. Nothing in Lean hashes anything: it is a label: what it is worth is what the hold of that sum in a sandbox is worth. -/
noncomputable def Tryd.pinned : Pinned := { name := "ytgajekpigkknnaadoor", sum := "8e2d42b74caa3f0e8d95a14a3033a1f1ba734cd52df18423736c8482af69347b", checked := Tryd.checked }
namespace Rows
def none {H : Type} : Left H := { results := [], args := [] }

/- WHAT THE LISTED PACKAGE-LEVEL VARIABLES READ AS WHEN THE CALL BEGINS. Each datum BY PROGRAM (the guide's laid-datum.mjs) off the statement by which the dump's own 'gosem.cut.vars' lays the variable. In a bare row this is a premise. The card (YtgajekpigkknnaaDoorCards.lean) ties it to the program's text. -/
def laid_junctionbox_prefix_widths {H : Type} : DataW H := .agg [.lit (.int .i64 0), .lit (.int .i64 0), .lit (.int .i64 0), .lit (.int .i64 0), .lit (.int .i64 32), .lit (.int .i64 0), .lit (.int .i64 128)]

/-- 'junctionboxlaw32.PlanCuts': WHATEVER THE INPUT: true; the input reads as it did. -/
def planCutsSpec : ChangeSpec := { name := "planCuts", fn := fun _ => fun
  | [d] => { results := [.lit (.bool true)], args := [d] }
  | _ => none }
def planCutsRow : OpenClaim := { program := "ytgajekpigkknnaadoor", sum := "8e2d42b74caa3f0e8d95a14a3033a1f1ba734cd52df18423736c8482af69347b", func := "junctionbox/junctionboxlaw32.PlanCuts", spec := "planCuts", inPlace := ["internal/bytealg.Compare", "slices.overlaps[junctionbox/api.Route]"], unfollowed := true, recurses := true, named := ["junctionbox/prefix.widths"], apart := false, laid := [("junctionbox/prefix.widths", laid_junctionbox_prefix_widths)] }
def PlanCutsSaid : Prop := planCutsRow.holds Tryd.pinned (OpenSpec.ofChange planCutsSpec)

/-- ITS FALSE NEIGHBOUR: 'it returns false'. Refute it at one input. -/
def planCutsWrong : ChangeSpec := { name := "planCuts", fn := fun _ => fun
  | [d] => { results := [.lit (.bool false)], args := [d] }
  | _ => none }
def PlanCutsWrongFalsely : Prop := planCutsRow.holds Tryd.pinned (OpenSpec.ofChange planCutsWrong)

/-- 'junctionboxlaw32.PlanDoes': WHATEVER THE INPUT: true; the input reads as it did. -/
def planDoesSpec : ChangeSpec := { name := "planDoes", fn := fun _ => fun
  | [d1, d2] => { results := [.lit (.bool true)], args := [d1, d2] }
  | _ => none }
def planDoesRow : OpenClaim := { program := "ytgajekpigkknnaadoor", sum := "8e2d42b74caa3f0e8d95a14a3033a1f1ba734cd52df18423736c8482af69347b", func := "junctionbox/junctionboxlaw32.PlanDoes", spec := "planDoes", inPlace := ["internal/bytealg.Compare", "slices.overlaps[junctionbox/api.Route]"], unfollowed := true, recurses := true, named := ["junctionbox/prefix.widths"], apart := false, laid := [("junctionbox/prefix.widths", laid_junctionbox_prefix_widths)] }
def PlanDoesSaid : Prop := planDoesRow.holds Tryd.pinned (OpenSpec.ofChange planDoesSpec)

/-- ITS FALSE NEIGHBOUR: 'it returns false'. Refute it at one input. -/
def planDoesWrong : ChangeSpec := { name := "planDoes", fn := fun _ => fun
  | [d1, d2] => { results := [.lit (.bool false)], args := [d1, d2] }
  | _ => none }
def PlanDoesWrongFalsely : Prop := planDoesRow.holds Tryd.pinned (OpenSpec.ofChange planDoesWrong)

/-- 'junctionboxlaw32.PlanNeeds': WHATEVER THE INPUT: true; the input reads as it did. -/
def planNeedsSpec : ChangeSpec := { name := "planNeeds", fn := fun _ => fun
  | [d1, d2] => { results := [.lit (.bool true)], args := [d1, d2] }
  | _ => none }
def planNeedsRow : OpenClaim := { program := "ytgajekpigkknnaadoor", sum := "8e2d42b74caa3f0e8d95a14a3033a1f1ba734cd52df18423736c8482af69347b", func := "junctionbox/junctionboxlaw32.PlanNeeds", spec := "planNeeds", inPlace := ["internal/bytealg.Compare", "slices.overlaps[junctionbox/api.Route]"], unfollowed := true, recurses := true, named := ["junctionbox/prefix.widths"], apart := false, laid := [("junctionbox/prefix.widths", laid_junctionbox_prefix_widths)] }
def PlanNeedsSaid : Prop := planNeedsRow.holds Tryd.pinned (OpenSpec.ofChange planNeedsSpec)

/-- ITS FALSE NEIGHBOUR: 'it returns false'. Refute it at one input. -/
def planNeedsWrong : ChangeSpec := { name := "planNeeds", fn := fun _ => fun
  | [d1, d2] => { results := [.lit (.bool false)], args := [d1, d2] }
  | _ => none }
def PlanNeedsWrongFalsely : Prop := planNeedsRow.holds Tryd.pinned (OpenSpec.ofChange planNeedsWrong)

/-- 'junctionboxlaw32.PlanLeads': WHATEVER THE INPUT: true; the input reads as it did. -/
def planLeadsSpec : ChangeSpec := { name := "planLeads", fn := fun _ => fun
  | [d1, d2, d3] => { results := [.lit (.bool true)], args := [d1, d2, d3] }
  | _ => none }
def planLeadsRow : OpenClaim := { program := "ytgajekpigkknnaadoor", sum := "8e2d42b74caa3f0e8d95a14a3033a1f1ba734cd52df18423736c8482af69347b", func := "junctionbox/junctionboxlaw32.PlanLeads", spec := "planLeads", inPlace := ["internal/bytealg.Compare", "slices.overlaps[junctionbox/api.Route]"], unfollowed := true, recurses := true, named := ["junctionbox/prefix.widths"], apart := false, laid := [("junctionbox/prefix.widths", laid_junctionbox_prefix_widths)] }
def PlanLeadsSaid : Prop := planLeadsRow.holds Tryd.pinned (OpenSpec.ofChange planLeadsSpec)

/-- ITS FALSE NEIGHBOUR: 'it returns false'. Refute it at one input. -/
def planLeadsWrong : ChangeSpec := { name := "planLeads", fn := fun _ => fun
  | [d1, d2, d3] => { results := [.lit (.bool false)], args := [d1, d2, d3] }
  | _ => none }
def PlanLeadsWrongFalsely : Prop := planLeadsRow.holds Tryd.pinned (OpenSpec.ofChange planLeadsWrong)

/-- 'junctionboxlaw32.PlanComes': WHATEVER THE INPUT: true; the input reads as it did. -/
def planComesSpec : ChangeSpec := { name := "planComes", fn := fun _ => fun
  | [d1, d2, d3] => { results := [.lit (.bool true)], args := [d1, d2, d3] }
  | _ => none }
def planComesRow : OpenClaim := { program := "ytgajekpigkknnaadoor", sum := "8e2d42b74caa3f0e8d95a14a3033a1f1ba734cd52df18423736c8482af69347b", func := "junctionbox/junctionboxlaw32.PlanComes", spec := "planComes", inPlace := ["internal/bytealg.Compare", "slices.overlaps[junctionbox/api.Route]"], unfollowed := true, recurses := true, named := ["junctionbox/prefix.widths"], apart := false, laid := [("junctionbox/prefix.widths", laid_junctionbox_prefix_widths)] }
def PlanComesSaid : Prop := planComesRow.holds Tryd.pinned (OpenSpec.ofChange planComesSpec)

/-- ITS FALSE NEIGHBOUR: 'it returns false'. Refute it at one input. -/
def planComesWrong : ChangeSpec := { name := "planComes", fn := fun _ => fun
  | [d1, d2, d3] => { results := [.lit (.bool false)], args := [d1, d2, d3] }
  | _ => none }
def PlanComesWrongFalsely : Prop := planComesRow.holds Tryd.pinned (OpenSpec.ofChange planComesWrong)

/-- 'junctionboxlaw32.PlanWay': WHATEVER THE INPUT: true; the input reads as it did. -/
def planWaySpec : ChangeSpec := { name := "planWay", fn := fun _ => fun
  | [d1, d2] => { results := [.lit (.bool true)], args := [d1, d2] }
  | _ => none }
def planWayRow : OpenClaim := { program := "ytgajekpigkknnaadoor", sum := "8e2d42b74caa3f0e8d95a14a3033a1f1ba734cd52df18423736c8482af69347b", func := "junctionbox/junctionboxlaw32.PlanWay", spec := "planWay", inPlace := ["internal/bytealg.Compare", "slices.overlaps[junctionbox/api.Route]"], unfollowed := true, recurses := true, named := ["junctionbox/prefix.widths"], apart := false, laid := [("junctionbox/prefix.widths", laid_junctionbox_prefix_widths)] }
def PlanWaySaid : Prop := planWayRow.holds Tryd.pinned (OpenSpec.ofChange planWaySpec)

/-- ITS FALSE NEIGHBOUR: 'it returns false'. Refute it at one input. -/
def planWayWrong : ChangeSpec := { name := "planWay", fn := fun _ => fun
  | [d1, d2] => { results := [.lit (.bool false)], args := [d1, d2] }
  | _ => none }
def PlanWayWrongFalsely : Prop := planWayRow.holds Tryd.pinned (OpenSpec.ofChange planWayWrong)

/- THE SECOND FORM. 'bulk': how many values and letters a reading holds, each counted each time it is reached (what is shared counts as often as it is met; a slice's spare places count too). A statement '..UptoSaid' is the law's where the arguments, and the package variables that the reading takes, are together of bulk at most 1048576: NARROWER than '..Said'. Prove '..Said' where nothing that the law and all that it calls make is longer than what came in: it says more and counts as full. Else prove '..UptoSaid'. A law counts once. -/
mutual
def uptoBulk {H : Type} : DataW H → Nat
  | .lit (.string bytes) => bytes.length + 1
  | .lit _ => 1
  | .nil => 1
  | .ptr d => uptoBulk d + 1
  | .slice elems spare => uptoBulkAll elems + uptoBulkAll spare + 1
  | .agg parts => uptoBulkAll parts + 1
  | .iface _ d => uptoBulk d + 1
  | .map entries => uptoBulkEntries entries + 1
  | .held _ => 1
def uptoBulkAll {H : Type} : List (DataW H) → Nat
  | [] => 0
  | d :: r => uptoBulk d + uptoBulkAll r
def uptoBulkEntries {H : Type} : List (Lit × DataW H) → Nat
  | [] => 0
  | x :: r => uptoBulkEntry x + uptoBulkEntries r
def uptoBulkEntry {H : Type} : Lit × DataW H → Nat
  | (.string bytes, d) => bytes.length + uptoBulk d + 1
  | (_, d) => uptoBulk d + 1
 end
def uptoSmall : (H : Type) → List (DataW H) → Bool := fun _ ds => decide (uptoBulkAll ds ≤ 1048576)
def OpenSpec.upto (s : _root_.Go.ChangeSpec) : _root_.Go.OpenSpec := { _root_.Go.OpenSpec.ofChange s with cond := some uptoSmall }

/-- 'junctionboxlaw32.PlanCuts', WHERE WHAT IT READS IS OF BULK AT MOST 1048576: true; the input reads as it did. -/
def planCutsUptoRow : OpenClaim := { program := "ytgajekpigkknnaadoor", sum := "8e2d42b74caa3f0e8d95a14a3033a1f1ba734cd52df18423736c8482af69347b", func := "junctionbox/junctionboxlaw32.PlanCuts", spec := "planCuts", inPlace := ["internal/bytealg.Compare", "slices.overlaps[junctionbox/api.Route]"], unfollowed := true, recurses := true, named := ["junctionbox/prefix.widths"], apart := false, laid := [("junctionbox/prefix.widths", laid_junctionbox_prefix_widths)], narrowed := true }
def PlanCutsUptoSaid : Prop := planCutsUptoRow.holds Tryd.pinned (OpenSpec.upto planCutsSpec)

/-- 'junctionboxlaw32.PlanDoes', WHERE WHAT IT READS IS OF BULK AT MOST 1048576: true; the input reads as it did. -/
def planDoesUptoRow : OpenClaim := { program := "ytgajekpigkknnaadoor", sum := "8e2d42b74caa3f0e8d95a14a3033a1f1ba734cd52df18423736c8482af69347b", func := "junctionbox/junctionboxlaw32.PlanDoes", spec := "planDoes", inPlace := ["internal/bytealg.Compare", "slices.overlaps[junctionbox/api.Route]"], unfollowed := true, recurses := true, named := ["junctionbox/prefix.widths"], apart := false, laid := [("junctionbox/prefix.widths", laid_junctionbox_prefix_widths)], narrowed := true }
def PlanDoesUptoSaid : Prop := planDoesUptoRow.holds Tryd.pinned (OpenSpec.upto planDoesSpec)

/-- 'junctionboxlaw32.PlanNeeds', WHERE WHAT IT READS IS OF BULK AT MOST 1048576: true; the input reads as it did. -/
def planNeedsUptoRow : OpenClaim := { program := "ytgajekpigkknnaadoor", sum := "8e2d42b74caa3f0e8d95a14a3033a1f1ba734cd52df18423736c8482af69347b", func := "junctionbox/junctionboxlaw32.PlanNeeds", spec := "planNeeds", inPlace := ["internal/bytealg.Compare", "slices.overlaps[junctionbox/api.Route]"], unfollowed := true, recurses := true, named := ["junctionbox/prefix.widths"], apart := false, laid := [("junctionbox/prefix.widths", laid_junctionbox_prefix_widths)], narrowed := true }
def PlanNeedsUptoSaid : Prop := planNeedsUptoRow.holds Tryd.pinned (OpenSpec.upto planNeedsSpec)

/-- 'junctionboxlaw32.PlanLeads', WHERE WHAT IT READS IS OF BULK AT MOST 1048576: true; the input reads as it did. -/
def planLeadsUptoRow : OpenClaim := { program := "ytgajekpigkknnaadoor", sum := "8e2d42b74caa3f0e8d95a14a3033a1f1ba734cd52df18423736c8482af69347b", func := "junctionbox/junctionboxlaw32.PlanLeads", spec := "planLeads", inPlace := ["internal/bytealg.Compare", "slices.overlaps[junctionbox/api.Route]"], unfollowed := true, recurses := true, named := ["junctionbox/prefix.widths"], apart := false, laid := [("junctionbox/prefix.widths", laid_junctionbox_prefix_widths)], narrowed := true }
def PlanLeadsUptoSaid : Prop := planLeadsUptoRow.holds Tryd.pinned (OpenSpec.upto planLeadsSpec)

/-- 'junctionboxlaw32.PlanComes', WHERE WHAT IT READS IS OF BULK AT MOST 1048576: true; the input reads as it did. -/
def planComesUptoRow : OpenClaim := { program := "ytgajekpigkknnaadoor", sum := "8e2d42b74caa3f0e8d95a14a3033a1f1ba734cd52df18423736c8482af69347b", func := "junctionbox/junctionboxlaw32.PlanComes", spec := "planComes", inPlace := ["internal/bytealg.Compare", "slices.overlaps[junctionbox/api.Route]"], unfollowed := true, recurses := true, named := ["junctionbox/prefix.widths"], apart := false, laid := [("junctionbox/prefix.widths", laid_junctionbox_prefix_widths)], narrowed := true }
def PlanComesUptoSaid : Prop := planComesUptoRow.holds Tryd.pinned (OpenSpec.upto planComesSpec)

/-- 'junctionboxlaw32.PlanWay', WHERE WHAT IT READS IS OF BULK AT MOST 1048576: true; the input reads as it did. -/
def planWayUptoRow : OpenClaim := { program := "ytgajekpigkknnaadoor", sum := "8e2d42b74caa3f0e8d95a14a3033a1f1ba734cd52df18423736c8482af69347b", func := "junctionbox/junctionboxlaw32.PlanWay", spec := "planWay", inPlace := ["internal/bytealg.Compare", "slices.overlaps[junctionbox/api.Route]"], unfollowed := true, recurses := true, named := ["junctionbox/prefix.widths"], apart := false, laid := [("junctionbox/prefix.widths", laid_junctionbox_prefix_widths)], narrowed := true }
def PlanWayUptoSaid : Prop := planWayUptoRow.holds Tryd.pinned (OpenSpec.upto planWaySpec)

end Rows
end Go.Proofs.YtgajekpigkknnaaDoor
