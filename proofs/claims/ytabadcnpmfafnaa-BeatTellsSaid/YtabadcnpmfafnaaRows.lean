/-
  No cell of these rows narrows 'for every input' (looked for: loops, veiled, ifaces, maps, wideKeys, modest, calm, conditions, laid).
  DERIVED. THE GIVEN ROWS OF THIS SEAT. 5 by the template 'for every input the law returns true; each argument reads behind the call as it read before'; 0 by the template 'total and deterministic' (their statements: YtabadcnpmfafnaaTotals.lean).
  GIVEN WITH THE SEED: the statements are not yours to turn. If you find one false, say at which input.
  Laid BY PROGRAM, IN A SANDBOX (cutbox-rows.mjs): the forced cells as the released guide's own fill.sh prints them over the translation 4a85c2ab3931cfe9… (all of the seat's roots in one cut). By AI agents, Wed Nov 11 2026. No macro, syntax, notation, axiom, sorry.
-/
import Derived.Test.YtabadcnpmfafnaaChecked
import GoSem.Claim
import GoSem.ClaimJoined
import GoSem.ClaimMapViews
import Derived.JoinedTies
import Derived.KernelRfl
namespace Go.Proofs.Ytabadcnpmfafnaa
/- THE CELL 'sum', in the pinned program and in every row, IS THE sha256 OF THE DUMP (.gsa) THAT YtabadcnpmfafnaaProg.lean LOADS. Nothing in Lean hashes anything: it is a label: what it is worth is what the hold of that sum in a sandbox is worth. -/
noncomputable def Try.pinned : Pinned := { name := "ytabadcnpmfafnaa", sum := "4a85c2ab3931cfe944073adb164291e0173dd460924f920c861443261da498c6", checked := Try.checked }
namespace Rows
def none {H : Type} : Left H := { results := [], args := [] }

/-- 'junctionboxlaw29.BeatPasses': WHATEVER THE INPUT: true; the input reads as it did. -/
def beatPassesSpec : ChangeSpec := { name := "beatPasses", fn := fun _ => fun
  | [d1, d2] => { results := [.lit (.bool true)], args := [d1, d2] }
  | _ => none }
def beatPassesRow : OpenClaim := { program := "ytabadcnpmfafnaa", sum := "4a85c2ab3931cfe944073adb164291e0173dd460924f920c861443261da498c6", func := "junctionbox/junctionboxlaw29.BeatPasses", spec := "beatPasses", inPlace := ["slices.overlaps[junctionbox/api.Pulse]"], unfollowed := true, recurses := true, apart := false }
def BeatPassesSaid : Prop := beatPassesRow.holds Try.pinned (OpenSpec.ofChange beatPassesSpec)

/-- ITS FALSE NEIGHBOUR: 'it returns false'. Refute it at one input. -/
def beatPassesWrong : ChangeSpec := { name := "beatPasses", fn := fun _ => fun
  | [d1, d2] => { results := [.lit (.bool false)], args := [d1, d2] }
  | _ => none }
def BeatPassesWrongFalsely : Prop := beatPassesRow.holds Try.pinned (OpenSpec.ofChange beatPassesWrong)

/-- 'junctionboxlaw29.BeatPeers': WHATEVER THE INPUT: true; the input reads as it did. -/
def beatPeersSpec : ChangeSpec := { name := "beatPeers", fn := fun _ => fun
  | [d1, d2] => { results := [.lit (.bool true)], args := [d1, d2] }
  | _ => none }
def beatPeersRow : OpenClaim := { program := "ytabadcnpmfafnaa", sum := "4a85c2ab3931cfe944073adb164291e0173dd460924f920c861443261da498c6", func := "junctionbox/junctionboxlaw29.BeatPeers", spec := "beatPeers", inPlace := ["slices.overlaps[junctionbox/api.Pulse]"], unfollowed := true, recurses := true, apart := false }
def BeatPeersSaid : Prop := beatPeersRow.holds Try.pinned (OpenSpec.ofChange beatPeersSpec)

/-- ITS FALSE NEIGHBOUR: 'it returns false'. Refute it at one input. -/
def beatPeersWrong : ChangeSpec := { name := "beatPeers", fn := fun _ => fun
  | [d1, d2] => { results := [.lit (.bool false)], args := [d1, d2] }
  | _ => none }
def BeatPeersWrongFalsely : Prop := beatPeersRow.holds Try.pinned (OpenSpec.ofChange beatPeersWrong)

/-- 'junctionboxlaw29.BeatTwice': WHATEVER THE INPUT: true; the input reads as it did. -/
def beatTwiceSpec : ChangeSpec := { name := "beatTwice", fn := fun _ => fun
  | [d1, d2, d3] => { results := [.lit (.bool true)], args := [d1, d2, d3] }
  | _ => none }
def beatTwiceRow : OpenClaim := { program := "ytabadcnpmfafnaa", sum := "4a85c2ab3931cfe944073adb164291e0173dd460924f920c861443261da498c6", func := "junctionbox/junctionboxlaw29.BeatTwice", spec := "beatTwice", inPlace := ["slices.overlaps[junctionbox/api.Pulse]"], unfollowed := true, recurses := true, apart := false }
def BeatTwiceSaid : Prop := beatTwiceRow.holds Try.pinned (OpenSpec.ofChange beatTwiceSpec)

/-- ITS FALSE NEIGHBOUR: 'it returns false'. Refute it at one input. -/
def beatTwiceWrong : ChangeSpec := { name := "beatTwice", fn := fun _ => fun
  | [d1, d2, d3] => { results := [.lit (.bool false)], args := [d1, d2, d3] }
  | _ => none }
def BeatTwiceWrongFalsely : Prop := beatTwiceRow.holds Try.pinned (OpenSpec.ofChange beatTwiceWrong)

/-- 'junctionboxlaw29.BeatFair': WHATEVER THE INPUT: true; the input reads as it did. -/
def beatFairSpec : ChangeSpec := { name := "beatFair", fn := fun _ => fun
  | [d] => { results := [.lit (.bool true)], args := [d] }
  | _ => none }
def beatFairRow : OpenClaim := { program := "ytabadcnpmfafnaa", sum := "4a85c2ab3931cfe944073adb164291e0173dd460924f920c861443261da498c6", func := "junctionbox/junctionboxlaw29.BeatFair", spec := "beatFair", inPlace := ["slices.overlaps[junctionbox/api.Pulse]"], unfollowed := true, recurses := true, apart := false }
def BeatFairSaid : Prop := beatFairRow.holds Try.pinned (OpenSpec.ofChange beatFairSpec)

/-- ITS FALSE NEIGHBOUR: 'it returns false'. Refute it at one input. -/
def beatFairWrong : ChangeSpec := { name := "beatFair", fn := fun _ => fun
  | [d] => { results := [.lit (.bool false)], args := [d] }
  | _ => none }
def BeatFairWrongFalsely : Prop := beatFairRow.holds Try.pinned (OpenSpec.ofChange beatFairWrong)

/-- 'junctionboxlaw29.BeatTells': WHATEVER THE INPUT: true; the input reads as it did. -/
def beatTellsSpec : ChangeSpec := { name := "beatTells", fn := fun _ => fun
  | [d1, d2, d3] => { results := [.lit (.bool true)], args := [d1, d2, d3] }
  | _ => none }
def beatTellsRow : OpenClaim := { program := "ytabadcnpmfafnaa", sum := "4a85c2ab3931cfe944073adb164291e0173dd460924f920c861443261da498c6", func := "junctionbox/junctionboxlaw29.BeatTells", spec := "beatTells", inPlace := ["slices.overlaps[junctionbox/api.Pulse]"], unfollowed := true, recurses := true, apart := false }
def BeatTellsSaid : Prop := beatTellsRow.holds Try.pinned (OpenSpec.ofChange beatTellsSpec)

/-- ITS FALSE NEIGHBOUR: 'it returns false'. Refute it at one input. -/
def beatTellsWrong : ChangeSpec := { name := "beatTells", fn := fun _ => fun
  | [d1, d2, d3] => { results := [.lit (.bool false)], args := [d1, d2, d3] }
  | _ => none }
def BeatTellsWrongFalsely : Prop := beatTellsRow.holds Try.pinned (OpenSpec.ofChange beatTellsWrong)

/- THE SECOND FORM. 'bulk': how many values and letters a reading holds, each counted each time it is reached (what is shared counts as often as it is met; a slice's spare places count too). A statement '..UptoSaid' is the law's where the arguments, and the package variables that the reading takes, are together of bulk at most 1048576: NARROWER than '..Said'. Prove '..Said' where nothing that the law and all that it calls make is longer than what came in: it says more and counts as full. Else prove '..UptoSaid'. A law counts once. -/
mutual
def uptoBulk {H : Type} : DataW H → Nat
  | .lit (.string bytes) => bytes.length + 1
  | .lit _ => 1
  | .nil => 1
  | .ptr d => uptoBulk d + 1
  | .slice elems spare => uptoBulkAll elems + uptoBulkAll spare + 1
  | .agg parts => uptoBulkAll parts + 1
  | .iface _ d => uptoBulk d + 1
  | .map entries => uptoBulkEntries entries + 1
  | .held _ => 1
def uptoBulkAll {H : Type} : List (DataW H) → Nat
  | [] => 0
  | d :: r => uptoBulk d + uptoBulkAll r
def uptoBulkEntries {H : Type} : List (Lit × DataW H) → Nat
  | [] => 0
  | x :: r => uptoBulkEntry x + uptoBulkEntries r
def uptoBulkEntry {H : Type} : Lit × DataW H → Nat
  | (.string bytes, d) => bytes.length + uptoBulk d + 1
  | (_, d) => uptoBulk d + 1
 end
def uptoSmall : (H : Type) → List (DataW H) → Bool := fun _ ds => decide (uptoBulkAll ds ≤ 1048576)
def OpenSpec.upto (s : _root_.Go.ChangeSpec) : _root_.Go.OpenSpec := { _root_.Go.OpenSpec.ofChange s with cond := some uptoSmall }

/-- 'junctionboxlaw29.BeatPasses', WHERE WHAT IT READS IS OF BULK AT MOST 1048576: true; the input reads as it did. -/
def beatPassesUptoRow : OpenClaim := { program := "ytabadcnpmfafnaa", sum := "4a85c2ab3931cfe944073adb164291e0173dd460924f920c861443261da498c6", func := "junctionbox/junctionboxlaw29.BeatPasses", spec := "beatPasses", inPlace := ["slices.overlaps[junctionbox/api.Pulse]"], unfollowed := true, recurses := true, apart := false, narrowed := true }
def BeatPassesUptoSaid : Prop := beatPassesUptoRow.holds Try.pinned (OpenSpec.upto beatPassesSpec)

/-- 'junctionboxlaw29.BeatPeers', WHERE WHAT IT READS IS OF BULK AT MOST 1048576: true; the input reads as it did. -/
def beatPeersUptoRow : OpenClaim := { program := "ytabadcnpmfafnaa", sum := "4a85c2ab3931cfe944073adb164291e0173dd460924f920c861443261da498c6", func := "junctionbox/junctionboxlaw29.BeatPeers", spec := "beatPeers", inPlace := ["slices.overlaps[junctionbox/api.Pulse]"], unfollowed := true, recurses := true, apart := false, narrowed := true }
def BeatPeersUptoSaid : Prop := beatPeersUptoRow.holds Try.pinned (OpenSpec.upto beatPeersSpec)

/-- 'junctionboxlaw29.BeatTwice', WHERE WHAT IT READS IS OF BULK AT MOST 1048576: true; the input reads as it did. -/
def beatTwiceUptoRow : OpenClaim := { program := "ytabadcnpmfafnaa", sum := "4a85c2ab3931cfe944073adb164291e0173dd460924f920c861443261da498c6", func := "junctionbox/junctionboxlaw29.BeatTwice", spec := "beatTwice", inPlace := ["slices.overlaps[junctionbox/api.Pulse]"], unfollowed := true, recurses := true, apart := false, narrowed := true }
def BeatTwiceUptoSaid : Prop := beatTwiceUptoRow.holds Try.pinned (OpenSpec.upto beatTwiceSpec)

/-- 'junctionboxlaw29.BeatFair', WHERE WHAT IT READS IS OF BULK AT MOST 1048576: true; the input reads as it did. -/
def beatFairUptoRow : OpenClaim := { program := "ytabadcnpmfafnaa", sum := "4a85c2ab3931cfe944073adb164291e0173dd460924f920c861443261da498c6", func := "junctionbox/junctionboxlaw29.BeatFair", spec := "beatFair", inPlace := ["slices.overlaps[junctionbox/api.Pulse]"], unfollowed := true, recurses := true, apart := false, narrowed := true }
def BeatFairUptoSaid : Prop := beatFairUptoRow.holds Try.pinned (OpenSpec.upto beatFairSpec)

/-- 'junctionboxlaw29.BeatTells', WHERE WHAT IT READS IS OF BULK AT MOST 1048576: true; the input reads as it did. -/
def beatTellsUptoRow : OpenClaim := { program := "ytabadcnpmfafnaa", sum := "4a85c2ab3931cfe944073adb164291e0173dd460924f920c861443261da498c6", func := "junctionbox/junctionboxlaw29.BeatTells", spec := "beatTells", inPlace := ["slices.overlaps[junctionbox/api.Pulse]"], unfollowed := true, recurses := true, apart := false, narrowed := true }
def BeatTellsUptoSaid : Prop := beatTellsUptoRow.holds Try.pinned (OpenSpec.upto beatTellsSpec)

end Rows
end Go.Proofs.Ytabadcnpmfafnaa
