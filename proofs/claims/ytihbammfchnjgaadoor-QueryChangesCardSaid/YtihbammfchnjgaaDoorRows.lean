/-
  NARROWER THAN 'FOR EVERY INPUT', by the rows' own cells (each row's printed sentence says how): QueryPages: laid · QueryFree: laid · QueryWhole: laid · QueryRows: laid · QueryAddrs: laid · QueryLongest: laid · QueryMay: laid · QueryChanges: laid.
  DERIVED. THE GIVEN ROWS OF THIS SEAT. 8 by the template 'for every input the law returns true; each argument reads behind the call as it read before'; 0 by the template 'total and deterministic' (their statements: YtihbammfchnjgaaDoorTotals.lean).
  GIVEN WITH THE SEED: the statements are not yours to turn. If you find one false, say at which input.
  Laid BY PROGRAM, IN A SANDBOX (cutbox-rows.mjs): the forced cells as the released guide's own fill.sh prints them over the translation dc797b41b126da6d… (all of the seat's roots in one cut). By AI agents, Wed Nov 11 2026. No macro, syntax, notation, axiom, sorry.
-/
import Derived.Test.YtihbammfchnjgaaDoorChecked
import GoSem.Claim
import GoSem.ClaimJoined
import GoSem.ClaimMapViews
import Derived.JoinedTies
import Derived.KernelRfl
namespace Go.Proofs.YtihbammfchnjgaaDoor
/- THE CELL 'sum', in the pinned program and in every row, IS THE sha256 OF THE DUMP (.gsa) THAT YtihbammfchnjgaaDoorProg.lean LOADS. Nothing in Lean hashes anything: it is a label: what it is worth is what the hold of that sum in a sandbox is worth. -/
noncomputable def Tryd.pinned : Pinned := { name := "ytihbammfchnjgaadoor", sum := "dc797b41b126da6dea3b5ce1213c36fbf436f096c2f32186a165c5ffd312ec5d", checked := Tryd.checked }
namespace Rows
def none {H : Type} : Left H := { results := [], args := [] }

/- WHAT THE LISTED PACKAGE-LEVEL VARIABLES READ AS WHEN THE CALL BEGINS. Each datum BY PROGRAM (the guide's laid-datum.mjs) off the statement by which the dump's own 'gosem.cut.vars' lays the variable. In a bare row this is a premise. The card (YtihbammfchnjgaaDoorCards.lean) ties it to the program's text. -/
def laid_junctionbox_prefix_widths {H : Type} : DataW H := .agg [.lit (.int .i64 0), .lit (.int .i64 0), .lit (.int .i64 0), .lit (.int .i64 0), .lit (.int .i64 32), .lit (.int .i64 0), .lit (.int .i64 128)]

/-- 'junctionboxlaw28.QueryPages': WHATEVER THE INPUT: true; the input reads as it did. -/
def queryPagesSpec : ChangeSpec := { name := "queryPages", fn := fun _ => fun
  | [d1, d2] => { results := [.lit (.bool true)], args := [d1, d2] }
  | _ => none }
def queryPagesRow : OpenClaim := { program := "ytihbammfchnjgaadoor", sum := "dc797b41b126da6dea3b5ce1213c36fbf436f096c2f32186a165c5ffd312ec5d", func := "junctionbox/junctionboxlaw28.QueryPages", spec := "queryPages", inPlace := ["internal/bytealg.Compare"], unfollowed := true, recurses := true, named := ["junctionbox/prefix.widths"], apart := false, laid := [("junctionbox/prefix.widths", laid_junctionbox_prefix_widths)] }
def QueryPagesSaid : Prop := queryPagesRow.holds Tryd.pinned (OpenSpec.ofChange queryPagesSpec)

/-- ITS FALSE NEIGHBOUR: 'it returns false'. Refute it at one input. -/
def queryPagesWrong : ChangeSpec := { name := "queryPages", fn := fun _ => fun
  | [d1, d2] => { results := [.lit (.bool false)], args := [d1, d2] }
  | _ => none }
def QueryPagesWrongFalsely : Prop := queryPagesRow.holds Tryd.pinned (OpenSpec.ofChange queryPagesWrong)

/-- 'junctionboxlaw28.QueryFree': WHATEVER THE INPUT: true; the input reads as it did. -/
def queryFreeSpec : ChangeSpec := { name := "queryFree", fn := fun _ => fun
  | [d1, d2, d3] => { results := [.lit (.bool true)], args := [d1, d2, d3] }
  | _ => none }
def queryFreeRow : OpenClaim := { program := "ytihbammfchnjgaadoor", sum := "dc797b41b126da6dea3b5ce1213c36fbf436f096c2f32186a165c5ffd312ec5d", func := "junctionbox/junctionboxlaw28.QueryFree", spec := "queryFree", inPlace := ["internal/bytealg.Compare"], unfollowed := true, recurses := true, named := ["junctionbox/prefix.widths"], apart := false, laid := [("junctionbox/prefix.widths", laid_junctionbox_prefix_widths)] }
def QueryFreeSaid : Prop := queryFreeRow.holds Tryd.pinned (OpenSpec.ofChange queryFreeSpec)

/-- ITS FALSE NEIGHBOUR: 'it returns false'. Refute it at one input. -/
def queryFreeWrong : ChangeSpec := { name := "queryFree", fn := fun _ => fun
  | [d1, d2, d3] => { results := [.lit (.bool false)], args := [d1, d2, d3] }
  | _ => none }
def QueryFreeWrongFalsely : Prop := queryFreeRow.holds Tryd.pinned (OpenSpec.ofChange queryFreeWrong)

/-- 'junctionboxlaw28.QueryWhole': WHATEVER THE INPUT: true; the input reads as it did. -/
def queryWholeSpec : ChangeSpec := { name := "queryWhole", fn := fun _ => fun
  | [d1, d2, d3] => { results := [.lit (.bool true)], args := [d1, d2, d3] }
  | _ => none }
def queryWholeRow : OpenClaim := { program := "ytihbammfchnjgaadoor", sum := "dc797b41b126da6dea3b5ce1213c36fbf436f096c2f32186a165c5ffd312ec5d", func := "junctionbox/junctionboxlaw28.QueryWhole", spec := "queryWhole", inPlace := ["internal/bytealg.Compare"], unfollowed := true, recurses := true, named := ["junctionbox/prefix.widths"], apart := false, laid := [("junctionbox/prefix.widths", laid_junctionbox_prefix_widths)] }
def QueryWholeSaid : Prop := queryWholeRow.holds Tryd.pinned (OpenSpec.ofChange queryWholeSpec)

/-- ITS FALSE NEIGHBOUR: 'it returns false'. Refute it at one input. -/
def queryWholeWrong : ChangeSpec := { name := "queryWhole", fn := fun _ => fun
  | [d1, d2, d3] => { results := [.lit (.bool false)], args := [d1, d2, d3] }
  | _ => none }
def QueryWholeWrongFalsely : Prop := queryWholeRow.holds Tryd.pinned (OpenSpec.ofChange queryWholeWrong)

/-- 'junctionboxlaw28.QueryRows': WHATEVER THE INPUT: true; the input reads as it did. -/
def queryRowsSpec : ChangeSpec := { name := "queryRows", fn := fun _ => fun
  | [d1, d2] => { results := [.lit (.bool true)], args := [d1, d2] }
  | _ => none }
def queryRowsRow : OpenClaim := { program := "ytihbammfchnjgaadoor", sum := "dc797b41b126da6dea3b5ce1213c36fbf436f096c2f32186a165c5ffd312ec5d", func := "junctionbox/junctionboxlaw28.QueryRows", spec := "queryRows", inPlace := ["internal/bytealg.Compare"], unfollowed := true, recurses := true, named := ["junctionbox/prefix.widths"], apart := false, laid := [("junctionbox/prefix.widths", laid_junctionbox_prefix_widths)] }
def QueryRowsSaid : Prop := queryRowsRow.holds Tryd.pinned (OpenSpec.ofChange queryRowsSpec)

/-- ITS FALSE NEIGHBOUR: 'it returns false'. Refute it at one input. -/
def queryRowsWrong : ChangeSpec := { name := "queryRows", fn := fun _ => fun
  | [d1, d2] => { results := [.lit (.bool false)], args := [d1, d2] }
  | _ => none }
def QueryRowsWrongFalsely : Prop := queryRowsRow.holds Tryd.pinned (OpenSpec.ofChange queryRowsWrong)

/-- 'junctionboxlaw28.QueryAddrs': WHATEVER THE INPUT: true; the input reads as it did. -/
def queryAddrsSpec : ChangeSpec := { name := "queryAddrs", fn := fun _ => fun
  | [d1, d2] => { results := [.lit (.bool true)], args := [d1, d2] }
  | _ => none }
def queryAddrsRow : OpenClaim := { program := "ytihbammfchnjgaadoor", sum := "dc797b41b126da6dea3b5ce1213c36fbf436f096c2f32186a165c5ffd312ec5d", func := "junctionbox/junctionboxlaw28.QueryAddrs", spec := "queryAddrs", inPlace := ["internal/bytealg.Compare"], unfollowed := true, recurses := true, named := ["junctionbox/prefix.widths"], apart := false, laid := [("junctionbox/prefix.widths", laid_junctionbox_prefix_widths)] }
def QueryAddrsSaid : Prop := queryAddrsRow.holds Tryd.pinned (OpenSpec.ofChange queryAddrsSpec)

/-- ITS FALSE NEIGHBOUR: 'it returns false'. Refute it at one input. -/
def queryAddrsWrong : ChangeSpec := { name := "queryAddrs", fn := fun _ => fun
  | [d1, d2] => { results := [.lit (.bool false)], args := [d1, d2] }
  | _ => none }
def QueryAddrsWrongFalsely : Prop := queryAddrsRow.holds Tryd.pinned (OpenSpec.ofChange queryAddrsWrong)

/-- 'junctionboxlaw28.QueryLongest': WHATEVER THE INPUT: true; the input reads as it did. -/
def queryLongestSpec : ChangeSpec := { name := "queryLongest", fn := fun _ => fun
  | [d1, d2] => { results := [.lit (.bool true)], args := [d1, d2] }
  | _ => none }
def queryLongestRow : OpenClaim := { program := "ytihbammfchnjgaadoor", sum := "dc797b41b126da6dea3b5ce1213c36fbf436f096c2f32186a165c5ffd312ec5d", func := "junctionbox/junctionboxlaw28.QueryLongest", spec := "queryLongest", inPlace := ["internal/bytealg.Compare"], unfollowed := true, recurses := true, named := ["junctionbox/prefix.widths"], apart := false, laid := [("junctionbox/prefix.widths", laid_junctionbox_prefix_widths)] }
def QueryLongestSaid : Prop := queryLongestRow.holds Tryd.pinned (OpenSpec.ofChange queryLongestSpec)

/-- ITS FALSE NEIGHBOUR: 'it returns false'. Refute it at one input. -/
def queryLongestWrong : ChangeSpec := { name := "queryLongest", fn := fun _ => fun
  | [d1, d2] => { results := [.lit (.bool false)], args := [d1, d2] }
  | _ => none }
def QueryLongestWrongFalsely : Prop := queryLongestRow.holds Tryd.pinned (OpenSpec.ofChange queryLongestWrong)

/-- 'junctionboxlaw28.QueryMay': WHATEVER THE INPUT: true; the input reads as it did. -/
def queryMaySpec : ChangeSpec := { name := "queryMay", fn := fun _ => fun
  | [d1, d2, d3] => { results := [.lit (.bool true)], args := [d1, d2, d3] }
  | _ => none }
def queryMayRow : OpenClaim := { program := "ytihbammfchnjgaadoor", sum := "dc797b41b126da6dea3b5ce1213c36fbf436f096c2f32186a165c5ffd312ec5d", func := "junctionbox/junctionboxlaw28.QueryMay", spec := "queryMay", inPlace := ["internal/bytealg.Compare", "slices.overlaps[junctionbox/api.Row]"], unfollowed := true, recurses := true, named := ["junctionbox/prefix.widths"], apart := false, laid := [("junctionbox/prefix.widths", laid_junctionbox_prefix_widths)] }
def QueryMaySaid : Prop := queryMayRow.holds Tryd.pinned (OpenSpec.ofChange queryMaySpec)

/-- ITS FALSE NEIGHBOUR: 'it returns false'. Refute it at one input. -/
def queryMayWrong : ChangeSpec := { name := "queryMay", fn := fun _ => fun
  | [d1, d2, d3] => { results := [.lit (.bool false)], args := [d1, d2, d3] }
  | _ => none }
def QueryMayWrongFalsely : Prop := queryMayRow.holds Tryd.pinned (OpenSpec.ofChange queryMayWrong)

/-- 'junctionboxlaw28.QueryChanges': WHATEVER THE INPUT: true; the input reads as it did. -/
def queryChangesSpec : ChangeSpec := { name := "queryChanges", fn := fun _ => fun
  | [d1, d2, d3] => { results := [.lit (.bool true)], args := [d1, d2, d3] }
  | _ => none }
def queryChangesRow : OpenClaim := { program := "ytihbammfchnjgaadoor", sum := "dc797b41b126da6dea3b5ce1213c36fbf436f096c2f32186a165c5ffd312ec5d", func := "junctionbox/junctionboxlaw28.QueryChanges", spec := "queryChanges", inPlace := ["internal/bytealg.Compare", "slices.overlaps[junctionbox/api.Row]"], unfollowed := true, recurses := true, named := ["junctionbox/prefix.widths"], apart := false, laid := [("junctionbox/prefix.widths", laid_junctionbox_prefix_widths)] }
def QueryChangesSaid : Prop := queryChangesRow.holds Tryd.pinned (OpenSpec.ofChange queryChangesSpec)

/-- ITS FALSE NEIGHBOUR: 'it returns false'. Refute it at one input. -/
def queryChangesWrong : ChangeSpec := { name := "queryChanges", fn := fun _ => fun
  | [d1, d2, d3] => { results := [.lit (.bool false)], args := [d1, d2, d3] }
  | _ => none }
def QueryChangesWrongFalsely : Prop := queryChangesRow.holds Tryd.pinned (OpenSpec.ofChange queryChangesWrong)

/- THE SECOND FORM. 'bulk': how many values and letters a reading holds, each counted each time it is reached (what is shared counts as often as it is met; a slice's spare places count too). A statement '..UptoSaid' is the law's where the arguments, and the package variables that the reading takes, are together of bulk at most 1048576: NARROWER than '..Said'. Prove '..Said' where nothing that the law and all that it calls make is longer than what came in: it says more and counts as full. Else prove '..UptoSaid'. A law counts once. -/
mutual
def uptoBulk {H : Type} : DataW H → Nat
  | .lit (.string bytes) => bytes.length + 1
  | .lit _ => 1
  | .nil => 1
  | .ptr d => uptoBulk d + 1
  | .slice elems spare => uptoBulkAll elems + uptoBulkAll spare + 1
  | .agg parts => uptoBulkAll parts + 1
  | .iface _ d => uptoBulk d + 1
  | .map entries => uptoBulkEntries entries + 1
  | .held _ => 1
def uptoBulkAll {H : Type} : List (DataW H) → Nat
  | [] => 0
  | d :: r => uptoBulk d + uptoBulkAll r
def uptoBulkEntries {H : Type} : List (Lit × DataW H) → Nat
  | [] => 0
  | x :: r => uptoBulkEntry x + uptoBulkEntries r
def uptoBulkEntry {H : Type} : Lit × DataW H → Nat
  | (.string bytes, d) => bytes.length + uptoBulk d + 1
  | (_, d) => uptoBulk d + 1
 end
def uptoSmall : (H : Type) → List (DataW H) → Bool := fun _ ds => decide (uptoBulkAll ds ≤ 1048576)
def OpenSpec.upto (s : _root_.Go.ChangeSpec) : _root_.Go.OpenSpec := { _root_.Go.OpenSpec.ofChange s with cond := some uptoSmall }

/-- 'junctionboxlaw28.QueryPages', WHERE WHAT IT READS IS OF BULK AT MOST 1048576: true; the input reads as it did. -/
def queryPagesUptoRow : OpenClaim := { program := "ytihbammfchnjgaadoor", sum := "dc797b41b126da6dea3b5ce1213c36fbf436f096c2f32186a165c5ffd312ec5d", func := "junctionbox/junctionboxlaw28.QueryPages", spec := "queryPages", inPlace := ["internal/bytealg.Compare"], unfollowed := true, recurses := true, named := ["junctionbox/prefix.widths"], apart := false, laid := [("junctionbox/prefix.widths", laid_junctionbox_prefix_widths)], narrowed := true }
def QueryPagesUptoSaid : Prop := queryPagesUptoRow.holds Tryd.pinned (OpenSpec.upto queryPagesSpec)

/-- 'junctionboxlaw28.QueryFree', WHERE WHAT IT READS IS OF BULK AT MOST 1048576: true; the input reads as it did. -/
def queryFreeUptoRow : OpenClaim := { program := "ytihbammfchnjgaadoor", sum := "dc797b41b126da6dea3b5ce1213c36fbf436f096c2f32186a165c5ffd312ec5d", func := "junctionbox/junctionboxlaw28.QueryFree", spec := "queryFree", inPlace := ["internal/bytealg.Compare"], unfollowed := true, recurses := true, named := ["junctionbox/prefix.widths"], apart := false, laid := [("junctionbox/prefix.widths", laid_junctionbox_prefix_widths)], narrowed := true }
def QueryFreeUptoSaid : Prop := queryFreeUptoRow.holds Tryd.pinned (OpenSpec.upto queryFreeSpec)

/-- 'junctionboxlaw28.QueryWhole', WHERE WHAT IT READS IS OF BULK AT MOST 1048576: true; the input reads as it did. -/
def queryWholeUptoRow : OpenClaim := { program := "ytihbammfchnjgaadoor", sum := "dc797b41b126da6dea3b5ce1213c36fbf436f096c2f32186a165c5ffd312ec5d", func := "junctionbox/junctionboxlaw28.QueryWhole", spec := "queryWhole", inPlace := ["internal/bytealg.Compare"], unfollowed := true, recurses := true, named := ["junctionbox/prefix.widths"], apart := false, laid := [("junctionbox/prefix.widths", laid_junctionbox_prefix_widths)], narrowed := true }
def QueryWholeUptoSaid : Prop := queryWholeUptoRow.holds Tryd.pinned (OpenSpec.upto queryWholeSpec)

/-- 'junctionboxlaw28.QueryRows', WHERE WHAT IT READS IS OF BULK AT MOST 1048576: true; the input reads as it did. -/
def queryRowsUptoRow : OpenClaim := { program := "ytihbammfchnjgaadoor", sum := "dc797b41b126da6dea3b5ce1213c36fbf436f096c2f32186a165c5ffd312ec5d", func := "junctionbox/junctionboxlaw28.QueryRows", spec := "queryRows", inPlace := ["internal/bytealg.Compare"], unfollowed := true, recurses := true, named := ["junctionbox/prefix.widths"], apart := false, laid := [("junctionbox/prefix.widths", laid_junctionbox_prefix_widths)], narrowed := true }
def QueryRowsUptoSaid : Prop := queryRowsUptoRow.holds Tryd.pinned (OpenSpec.upto queryRowsSpec)

/-- 'junctionboxlaw28.QueryAddrs', WHERE WHAT IT READS IS OF BULK AT MOST 1048576: true; the input reads as it did. -/
def queryAddrsUptoRow : OpenClaim := { program := "ytihbammfchnjgaadoor", sum := "dc797b41b126da6dea3b5ce1213c36fbf436f096c2f32186a165c5ffd312ec5d", func := "junctionbox/junctionboxlaw28.QueryAddrs", spec := "queryAddrs", inPlace := ["internal/bytealg.Compare"], unfollowed := true, recurses := true, named := ["junctionbox/prefix.widths"], apart := false, laid := [("junctionbox/prefix.widths", laid_junctionbox_prefix_widths)], narrowed := true }
def QueryAddrsUptoSaid : Prop := queryAddrsUptoRow.holds Tryd.pinned (OpenSpec.upto queryAddrsSpec)

/-- 'junctionboxlaw28.QueryLongest', WHERE WHAT IT READS IS OF BULK AT MOST 1048576: true; the input reads as it did. -/
def queryLongestUptoRow : OpenClaim := { program := "ytihbammfchnjgaadoor", sum := "dc797b41b126da6dea3b5ce1213c36fbf436f096c2f32186a165c5ffd312ec5d", func := "junctionbox/junctionboxlaw28.QueryLongest", spec := "queryLongest", inPlace := ["internal/bytealg.Compare"], unfollowed := true, recurses := true, named := ["junctionbox/prefix.widths"], apart := false, laid := [("junctionbox/prefix.widths", laid_junctionbox_prefix_widths)], narrowed := true }
def QueryLongestUptoSaid : Prop := queryLongestUptoRow.holds Tryd.pinned (OpenSpec.upto queryLongestSpec)

/-- 'junctionboxlaw28.QueryMay', WHERE WHAT IT READS IS OF BULK AT MOST 1048576: true; the input reads as it did. -/
def queryMayUptoRow : OpenClaim := { program := "ytihbammfchnjgaadoor", sum := "dc797b41b126da6dea3b5ce1213c36fbf436f096c2f32186a165c5ffd312ec5d", func := "junctionbox/junctionboxlaw28.QueryMay", spec := "queryMay", inPlace := ["internal/bytealg.Compare", "slices.overlaps[junctionbox/api.Row]"], unfollowed := true, recurses := true, named := ["junctionbox/prefix.widths"], apart := false, laid := [("junctionbox/prefix.widths", laid_junctionbox_prefix_widths)], narrowed := true }
def QueryMayUptoSaid : Prop := queryMayUptoRow.holds Tryd.pinned (OpenSpec.upto queryMaySpec)

/-- 'junctionboxlaw28.QueryChanges', WHERE WHAT IT READS IS OF BULK AT MOST 1048576: true; the input reads as it did. -/
def queryChangesUptoRow : OpenClaim := { program := "ytihbammfchnjgaadoor", sum := "dc797b41b126da6dea3b5ce1213c36fbf436f096c2f32186a165c5ffd312ec5d", func := "junctionbox/junctionboxlaw28.QueryChanges", spec := "queryChanges", inPlace := ["internal/bytealg.Compare", "slices.overlaps[junctionbox/api.Row]"], unfollowed := true, recurses := true, named := ["junctionbox/prefix.widths"], apart := false, laid := [("junctionbox/prefix.widths", laid_junctionbox_prefix_widths)], narrowed := true }
def QueryChangesUptoSaid : Prop := queryChangesUptoRow.holds Tryd.pinned (OpenSpec.upto queryChangesSpec)

end Rows
end Go.Proofs.YtihbammfchnjgaaDoor
