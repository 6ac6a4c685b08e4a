/-
  NARROWER THAN 'FOR EVERY INPUT', by the rows' own cells (each row's printed sentence says how): TallyPasses: laid · TallyMoves: laid · TallyJoins: laid · TallyApart: laid · TallyAll: laid · TallyMost: laid · TallyTells: laid.
  DERIVED. THE GIVEN ROWS OF THIS SEAT. 7 by the template 'for every input the law returns true; each argument reads behind the call as it read before'; 0 by the template 'total and deterministic' (their statements: YtdllnneeopbmdaaDoorTotals.lean).
  GIVEN WITH THE SEED: the statements are not yours to turn. If you find one false, say at which input.
  Laid BY PROGRAM, IN A SANDBOX (cutbox-rows.mjs): the forced cells as the released guide's own fill.sh prints them over the translation a8b990252fcfff5c… (all of the seat's roots in one cut). By AI agents, Wed Nov 11 2026. No macro, syntax, notation, axiom, sorry.
-/
import Derived.Test.YtdllnneeopbmdaaDoorChecked
import GoSem.Claim
import GoSem.ClaimJoined
import GoSem.ClaimMapViews
import Derived.JoinedTies
import Derived.KernelRfl
namespace Go.Proofs.YtdllnneeopbmdaaDoor
/- THE CELL 'sum', in the pinned program and in every row, IS THE sha256 OF THE DUMP (.gsa) THAT YtdllnneeopbmdaaDoorProg.lean LOADS. Nothing in Lean hashes anything: it is a label: what it is worth is what the hold of that sum in a sandbox is worth. -/
noncomputable def Tryd.pinned : Pinned := { name := "ytdllnneeopbmdaadoor", sum := "a8b990252fcfff5ce793fbe64acd61e65cd4d6e47512a3c2f07e5fbff249a803", checked := Tryd.checked }
namespace Rows
def none {H : Type} : Left H := { results := [], args := [] }

/- WHAT THE LISTED PACKAGE-LEVEL VARIABLES READ AS WHEN THE CALL BEGINS. Each datum BY PROGRAM (the guide's laid-datum.mjs) off the statement by which the dump's own 'gosem.cut.vars' lays the variable. In a bare row this is a premise. The card (YtdllnneeopbmdaaDoorCards.lean) ties it to the program's text. -/
def laid_junctionbox_prefix_widths {H : Type} : DataW H := .agg [.lit (.int .i64 0), .lit (.int .i64 0), .lit (.int .i64 0), .lit (.int .i64 0), .lit (.int .i64 32), .lit (.int .i64 0), .lit (.int .i64 128)]

/-- 'junctionboxlaw31.TallyPasses': WHATEVER THE INPUT: true; the input reads as it did. -/
def tallyPassesSpec : ChangeSpec := { name := "tallyPasses", fn := fun _ => fun
  | [d1, d2, d3] => { results := [.lit (.bool true)], args := [d1, d2, d3] }
  | _ => none }
def tallyPassesRow : OpenClaim := { program := "ytdllnneeopbmdaadoor", sum := "a8b990252fcfff5ce793fbe64acd61e65cd4d6e47512a3c2f07e5fbff249a803", func := "junctionbox/junctionboxlaw31.TallyPasses", spec := "tallyPasses", inPlace := ["internal/bytealg.Compare"], unfollowed := true, recurses := true, named := ["junctionbox/prefix.widths"], plainKeys := false, apart := false, laid := [("junctionbox/prefix.widths", laid_junctionbox_prefix_widths)] }
def TallyPassesSaid : Prop := tallyPassesRow.holds Tryd.pinned (OpenSpec.ofChange tallyPassesSpec)

/-- ITS FALSE NEIGHBOUR: 'it returns false'. Refute it at one input. -/
def tallyPassesWrong : ChangeSpec := { name := "tallyPasses", fn := fun _ => fun
  | [d1, d2, d3] => { results := [.lit (.bool false)], args := [d1, d2, d3] }
  | _ => none }
def TallyPassesWrongFalsely : Prop := tallyPassesRow.holds Tryd.pinned (OpenSpec.ofChange tallyPassesWrong)

/-- 'junctionboxlaw31.TallyMoves': WHATEVER THE INPUT: true; the input reads as it did. -/
def tallyMovesSpec : ChangeSpec := { name := "tallyMoves", fn := fun _ => fun
  | [d1, d2] => { results := [.lit (.bool true)], args := [d1, d2] }
  | _ => none }
def tallyMovesRow : OpenClaim := { program := "ytdllnneeopbmdaadoor", sum := "a8b990252fcfff5ce793fbe64acd61e65cd4d6e47512a3c2f07e5fbff249a803", func := "junctionbox/junctionboxlaw31.TallyMoves", spec := "tallyMoves", inPlace := ["internal/bytealg.Compare"], unfollowed := true, recurses := true, named := ["junctionbox/prefix.widths"], plainKeys := false, apart := false, laid := [("junctionbox/prefix.widths", laid_junctionbox_prefix_widths)] }
def TallyMovesSaid : Prop := tallyMovesRow.holds Tryd.pinned (OpenSpec.ofChange tallyMovesSpec)

/-- ITS FALSE NEIGHBOUR: 'it returns false'. Refute it at one input. -/
def tallyMovesWrong : ChangeSpec := { name := "tallyMoves", fn := fun _ => fun
  | [d1, d2] => { results := [.lit (.bool false)], args := [d1, d2] }
  | _ => none }
def TallyMovesWrongFalsely : Prop := tallyMovesRow.holds Tryd.pinned (OpenSpec.ofChange tallyMovesWrong)

/-- 'junctionboxlaw31.TallyJoins': WHATEVER THE INPUT: true; the input reads as it did. -/
def tallyJoinsSpec : ChangeSpec := { name := "tallyJoins", fn := fun _ => fun
  | [d1, d2, d3] => { results := [.lit (.bool true)], args := [d1, d2, d3] }
  | _ => none }
def tallyJoinsRow : OpenClaim := { program := "ytdllnneeopbmdaadoor", sum := "a8b990252fcfff5ce793fbe64acd61e65cd4d6e47512a3c2f07e5fbff249a803", func := "junctionbox/junctionboxlaw31.TallyJoins", spec := "tallyJoins", inPlace := ["internal/bytealg.Compare"], unfollowed := true, recurses := true, named := ["junctionbox/prefix.widths"], plainKeys := false, apart := false, laid := [("junctionbox/prefix.widths", laid_junctionbox_prefix_widths)] }
def TallyJoinsSaid : Prop := tallyJoinsRow.holds Tryd.pinned (OpenSpec.ofChange tallyJoinsSpec)

/-- ITS FALSE NEIGHBOUR: 'it returns false'. Refute it at one input. -/
def tallyJoinsWrong : ChangeSpec := { name := "tallyJoins", fn := fun _ => fun
  | [d1, d2, d3] => { results := [.lit (.bool false)], args := [d1, d2, d3] }
  | _ => none }
def TallyJoinsWrongFalsely : Prop := tallyJoinsRow.holds Tryd.pinned (OpenSpec.ofChange tallyJoinsWrong)

/-- 'junctionboxlaw31.TallyApart': WHATEVER THE INPUT: true; the input reads as it did. -/
def tallyApartSpec : ChangeSpec := { name := "tallyApart", fn := fun _ => fun
  | [d1, d2, d3] => { results := [.lit (.bool true)], args := [d1, d2, d3] }
  | _ => none }
def tallyApartRow : OpenClaim := { program := "ytdllnneeopbmdaadoor", sum := "a8b990252fcfff5ce793fbe64acd61e65cd4d6e47512a3c2f07e5fbff249a803", func := "junctionbox/junctionboxlaw31.TallyApart", spec := "tallyApart", inPlace := ["internal/bytealg.Compare"], unfollowed := true, recurses := true, named := ["junctionbox/prefix.widths"], plainKeys := false, apart := false, laid := [("junctionbox/prefix.widths", laid_junctionbox_prefix_widths)] }
def TallyApartSaid : Prop := tallyApartRow.holds Tryd.pinned (OpenSpec.ofChange tallyApartSpec)

/-- ITS FALSE NEIGHBOUR: 'it returns false'. Refute it at one input. -/
def tallyApartWrong : ChangeSpec := { name := "tallyApart", fn := fun _ => fun
  | [d1, d2, d3] => { results := [.lit (.bool false)], args := [d1, d2, d3] }
  | _ => none }
def TallyApartWrongFalsely : Prop := tallyApartRow.holds Tryd.pinned (OpenSpec.ofChange tallyApartWrong)

/-- 'junctionboxlaw31.TallyAll': WHATEVER THE INPUT: true; the input reads as it did. -/
def tallyAllSpec : ChangeSpec := { name := "tallyAll", fn := fun _ => fun
  | [d] => { results := [.lit (.bool true)], args := [d] }
  | _ => none }
def tallyAllRow : OpenClaim := { program := "ytdllnneeopbmdaadoor", sum := "a8b990252fcfff5ce793fbe64acd61e65cd4d6e47512a3c2f07e5fbff249a803", func := "junctionbox/junctionboxlaw31.TallyAll", spec := "tallyAll", inPlace := ["internal/bytealg.Compare", "slices.overlaps[junctionbox/api.Row]"], unfollowed := true, recurses := true, named := ["junctionbox/prefix.widths"], plainKeys := false, apart := false, laid := [("junctionbox/prefix.widths", laid_junctionbox_prefix_widths)] }
def TallyAllSaid : Prop := tallyAllRow.holds Tryd.pinned (OpenSpec.ofChange tallyAllSpec)

/-- ITS FALSE NEIGHBOUR: 'it returns false'. Refute it at one input. -/
def tallyAllWrong : ChangeSpec := { name := "tallyAll", fn := fun _ => fun
  | [d] => { results := [.lit (.bool false)], args := [d] }
  | _ => none }
def TallyAllWrongFalsely : Prop := tallyAllRow.holds Tryd.pinned (OpenSpec.ofChange tallyAllWrong)

/-- 'junctionboxlaw31.TallyMost': WHATEVER THE INPUT: true; the input reads as it did. -/
def tallyMostSpec : ChangeSpec := { name := "tallyMost", fn := fun _ => fun
  | [d1, d2] => { results := [.lit (.bool true)], args := [d1, d2] }
  | _ => none }
def tallyMostRow : OpenClaim := { program := "ytdllnneeopbmdaadoor", sum := "a8b990252fcfff5ce793fbe64acd61e65cd4d6e47512a3c2f07e5fbff249a803", func := "junctionbox/junctionboxlaw31.TallyMost", spec := "tallyMost", inPlace := ["internal/bytealg.Compare"], unfollowed := true, recurses := true, named := ["junctionbox/prefix.widths"], plainKeys := false, apart := false, laid := [("junctionbox/prefix.widths", laid_junctionbox_prefix_widths)] }
def TallyMostSaid : Prop := tallyMostRow.holds Tryd.pinned (OpenSpec.ofChange tallyMostSpec)

/-- ITS FALSE NEIGHBOUR: 'it returns false'. Refute it at one input. -/
def tallyMostWrong : ChangeSpec := { name := "tallyMost", fn := fun _ => fun
  | [d1, d2] => { results := [.lit (.bool false)], args := [d1, d2] }
  | _ => none }
def TallyMostWrongFalsely : Prop := tallyMostRow.holds Tryd.pinned (OpenSpec.ofChange tallyMostWrong)

/-- 'junctionboxlaw31.TallyTells': WHATEVER THE INPUT: true; the input reads as it did. -/
def tallyTellsSpec : ChangeSpec := { name := "tallyTells", fn := fun _ => fun
  | [d1, d2, d3] => { results := [.lit (.bool true)], args := [d1, d2, d3] }
  | _ => none }
def tallyTellsRow : OpenClaim := { program := "ytdllnneeopbmdaadoor", sum := "a8b990252fcfff5ce793fbe64acd61e65cd4d6e47512a3c2f07e5fbff249a803", func := "junctionbox/junctionboxlaw31.TallyTells", spec := "tallyTells", inPlace := ["internal/bytealg.Compare"], unfollowed := true, recurses := true, named := ["junctionbox/prefix.widths"], plainKeys := false, apart := false, laid := [("junctionbox/prefix.widths", laid_junctionbox_prefix_widths)] }
def TallyTellsSaid : Prop := tallyTellsRow.holds Tryd.pinned (OpenSpec.ofChange tallyTellsSpec)

/-- ITS FALSE NEIGHBOUR: 'it returns false'. Refute it at one input. -/
def tallyTellsWrong : ChangeSpec := { name := "tallyTells", fn := fun _ => fun
  | [d1, d2, d3] => { results := [.lit (.bool false)], args := [d1, d2, d3] }
  | _ => none }
def TallyTellsWrongFalsely : Prop := tallyTellsRow.holds Tryd.pinned (OpenSpec.ofChange tallyTellsWrong)

/- THE SECOND FORM. 'bulk': how many values and letters a reading holds, each counted each time it is reached (what is shared counts as often as it is met; a slice's spare places count too). A statement '..UptoSaid' is the law's where the arguments, and the package variables that the reading takes, are together of bulk at most 1048576: NARROWER than '..Said'. Prove '..Said' where nothing that the law and all that it calls make is longer than what came in: it says more and counts as full. Else prove '..UptoSaid'. A law counts once. -/
mutual
def uptoBulk {H : Type} : DataW H → Nat
  | .lit (.string bytes) => bytes.length + 1
  | .lit _ => 1
  | .nil => 1
  | .ptr d => uptoBulk d + 1
  | .slice elems spare => uptoBulkAll elems + uptoBulkAll spare + 1
  | .agg parts => uptoBulkAll parts + 1
  | .iface _ d => uptoBulk d + 1
  | .map entries => uptoBulkEntries entries + 1
  | .held _ => 1
def uptoBulkAll {H : Type} : List (DataW H) → Nat
  | [] => 0
  | d :: r => uptoBulk d + uptoBulkAll r
def uptoBulkEntries {H : Type} : List (Lit × DataW H) → Nat
  | [] => 0
  | x :: r => uptoBulkEntry x + uptoBulkEntries r
def uptoBulkEntry {H : Type} : Lit × DataW H → Nat
  | (.string bytes, d) => bytes.length + uptoBulk d + 1
  | (_, d) => uptoBulk d + 1
 end
def uptoSmall : (H : Type) → List (DataW H) → Bool := fun _ ds => decide (uptoBulkAll ds ≤ 1048576)
def OpenSpec.upto (s : _root_.Go.ChangeSpec) : _root_.Go.OpenSpec := { _root_.Go.OpenSpec.ofChange s with cond := some uptoSmall }

/-- 'junctionboxlaw31.TallyPasses', WHERE WHAT IT READS IS OF BULK AT MOST 1048576: true; the input reads as it did. -/
def tallyPassesUptoRow : OpenClaim := { program := "ytdllnneeopbmdaadoor", sum := "a8b990252fcfff5ce793fbe64acd61e65cd4d6e47512a3c2f07e5fbff249a803", func := "junctionbox/junctionboxlaw31.TallyPasses", spec := "tallyPasses", inPlace := ["internal/bytealg.Compare"], unfollowed := true, recurses := true, named := ["junctionbox/prefix.widths"], plainKeys := false, apart := false, laid := [("junctionbox/prefix.widths", laid_junctionbox_prefix_widths)], narrowed := true }
def TallyPassesUptoSaid : Prop := tallyPassesUptoRow.holds Tryd.pinned (OpenSpec.upto tallyPassesSpec)

/-- 'junctionboxlaw31.TallyMoves', WHERE WHAT IT READS IS OF BULK AT MOST 1048576: true; the input reads as it did. -/
def tallyMovesUptoRow : OpenClaim := { program := "ytdllnneeopbmdaadoor", sum := "a8b990252fcfff5ce793fbe64acd61e65cd4d6e47512a3c2f07e5fbff249a803", func := "junctionbox/junctionboxlaw31.TallyMoves", spec := "tallyMoves", inPlace := ["internal/bytealg.Compare"], unfollowed := true, recurses := true, named := ["junctionbox/prefix.widths"], plainKeys := false, apart := false, laid := [("junctionbox/prefix.widths", laid_junctionbox_prefix_widths)], narrowed := true }
def TallyMovesUptoSaid : Prop := tallyMovesUptoRow.holds Tryd.pinned (OpenSpec.upto tallyMovesSpec)

/-- 'junctionboxlaw31.TallyJoins', WHERE WHAT IT READS IS OF BULK AT MOST 1048576: true; the input reads as it did. -/
def tallyJoinsUptoRow : OpenClaim := { program := "ytdllnneeopbmdaadoor", sum := "a8b990252fcfff5ce793fbe64acd61e65cd4d6e47512a3c2f07e5fbff249a803", func := "junctionbox/junctionboxlaw31.TallyJoins", spec := "tallyJoins", inPlace := ["internal/bytealg.Compare"], unfollowed := true, recurses := true, named := ["junctionbox/prefix.widths"], plainKeys := false, apart := false, laid := [("junctionbox/prefix.widths", laid_junctionbox_prefix_widths)], narrowed := true }
def TallyJoinsUptoSaid : Prop := tallyJoinsUptoRow.holds Tryd.pinned (OpenSpec.upto tallyJoinsSpec)

/-- 'junctionboxlaw31.TallyApart', WHERE WHAT IT READS IS OF BULK AT MOST 1048576: true; the input reads as it did. -/
def tallyApartUptoRow : OpenClaim := { program := "ytdllnneeopbmdaadoor", sum := "a8b990252fcfff5ce793fbe64acd61e65cd4d6e47512a3c2f07e5fbff249a803", func := "junctionbox/junctionboxlaw31.TallyApart", spec := "tallyApart", inPlace := ["internal/bytealg.Compare"], unfollowed := true, recurses := true, named := ["junctionbox/prefix.widths"], plainKeys := false, apart := false, laid := [("junctionbox/prefix.widths", laid_junctionbox_prefix_widths)], narrowed := true }
def TallyApartUptoSaid : Prop := tallyApartUptoRow.holds Tryd.pinned (OpenSpec.upto tallyApartSpec)

/-- 'junctionboxlaw31.TallyAll', WHERE WHAT IT READS IS OF BULK AT MOST 1048576: true; the input reads as it did. -/
def tallyAllUptoRow : OpenClaim := { program := "ytdllnneeopbmdaadoor", sum := "a8b990252fcfff5ce793fbe64acd61e65cd4d6e47512a3c2f07e5fbff249a803", func := "junctionbox/junctionboxlaw31.TallyAll", spec := "tallyAll", inPlace := ["internal/bytealg.Compare", "slices.overlaps[junctionbox/api.Row]"], unfollowed := true, recurses := true, named := ["junctionbox/prefix.widths"], plainKeys := false, apart := false, laid := [("junctionbox/prefix.widths", laid_junctionbox_prefix_widths)], narrowed := true }
def TallyAllUptoSaid : Prop := tallyAllUptoRow.holds Tryd.pinned (OpenSpec.upto tallyAllSpec)

/-- 'junctionboxlaw31.TallyMost', WHERE WHAT IT READS IS OF BULK AT MOST 1048576: true; the input reads as it did. -/
def tallyMostUptoRow : OpenClaim := { program := "ytdllnneeopbmdaadoor", sum := "a8b990252fcfff5ce793fbe64acd61e65cd4d6e47512a3c2f07e5fbff249a803", func := "junctionbox/junctionboxlaw31.TallyMost", spec := "tallyMost", inPlace := ["internal/bytealg.Compare"], unfollowed := true, recurses := true, named := ["junctionbox/prefix.widths"], plainKeys := false, apart := false, laid := [("junctionbox/prefix.widths", laid_junctionbox_prefix_widths)], narrowed := true }
def TallyMostUptoSaid : Prop := tallyMostUptoRow.holds Tryd.pinned (OpenSpec.upto tallyMostSpec)

/-- 'junctionboxlaw31.TallyTells', WHERE WHAT IT READS IS OF BULK AT MOST 1048576: true; the input reads as it did. -/
def tallyTellsUptoRow : OpenClaim := { program := "ytdllnneeopbmdaadoor", sum := "a8b990252fcfff5ce793fbe64acd61e65cd4d6e47512a3c2f07e5fbff249a803", func := "junctionbox/junctionboxlaw31.TallyTells", spec := "tallyTells", inPlace := ["internal/bytealg.Compare"], unfollowed := true, recurses := true, named := ["junctionbox/prefix.widths"], plainKeys := false, apart := false, laid := [("junctionbox/prefix.widths", laid_junctionbox_prefix_widths)], narrowed := true }
def TallyTellsUptoSaid : Prop := tallyTellsUptoRow.holds Tryd.pinned (OpenSpec.upto tallyTellsSpec)

end Rows
end Go.Proofs.YtdllnneeopbmdaaDoor
