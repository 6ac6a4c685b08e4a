/-
  NARROWER THAN 'FOR EVERY INPUT', by the rows' own cells (each row's printed sentence says how): CoverOnes: laid · CoverLeast: laid · CoverDoes: laid · CoverMembers: laid · CoverParts: laid · CoverSame: laid.
  DERIVED. THE GIVEN ROWS OF THIS SEAT. 6 by the template 'for every input the law returns true; each argument reads behind the call as it read before'; 0 by the template 'total and deterministic' (their statements: YtnpdaegfmfkghaaDoorTotals.lean).
  GIVEN WITH THE SEED: the statements are not yours to turn. If you find one false, say at which input.
  Laid BY PROGRAM, IN A SANDBOX (cutbox-rows.mjs): the forced cells as the released guide's own fill.sh prints them over the translation 87739e7c00505c99… (all of the seat's roots in one cut). By AI agents, Wed Nov 11 2026. No macro, syntax, notation, axiom, sorry.
-/
import Derived.Test.YtnpdaegfmfkghaaDoorChecked
import GoSem.Claim
import GoSem.ClaimJoined
import GoSem.ClaimMapViews
import Derived.JoinedTies
import Derived.KernelRfl
namespace Go.Proofs.YtnpdaegfmfkghaaDoor
/- THE CELL 'sum', in the pinned program and in every row, IS THE sha256 OF THE DUMP (.gsa) THAT YtnpdaegfmfkghaaDoorProg.lean LOADS. Nothing in Lean hashes anything: it is a label: what it is worth is what the hold of that sum in a sandbox is worth. -/
noncomputable def Tryd.pinned : Pinned := { name := "ytnpdaegfmfkghaadoor", sum := "87739e7c00505c99fcc6e0576472c399dda1b00c7390c0436319bc5bd8643aac", checked := Tryd.checked }
namespace Rows
def none {H : Type} : Left H := { results := [], args := [] }

/- WHAT THE LISTED PACKAGE-LEVEL VARIABLES READ AS WHEN THE CALL BEGINS. Each datum BY PROGRAM (the guide's laid-datum.mjs) off the statement by which the dump's own 'gosem.cut.vars' lays the variable. In a bare row this is a premise. The card (YtnpdaegfmfkghaaDoorCards.lean) ties it to the program's text. -/
def laid_junctionbox_prefix_widths {H : Type} : DataW H := .agg [.lit (.int .i64 0), .lit (.int .i64 0), .lit (.int .i64 0), .lit (.int .i64 0), .lit (.int .i64 32), .lit (.int .i64 0), .lit (.int .i64 128)]

/-- 'junctionboxlaw24.CoverOnes': WHATEVER THE INPUT: true; the input reads as it did. -/
def coverOnesSpec : ChangeSpec := { name := "coverOnes", fn := fun _ => fun
  | [d] => { results := [.lit (.bool true)], args := [d] }
  | _ => none }
def coverOnesRow : OpenClaim := { program := "ytnpdaegfmfkghaadoor", sum := "87739e7c00505c99fcc6e0576472c399dda1b00c7390c0436319bc5bd8643aac", func := "junctionbox/junctionboxlaw24.CoverOnes", spec := "coverOnes", inPlace := ["internal/bytealg.Compare"], unfollowed := true, recurses := true, named := ["junctionbox/prefix.widths"], apart := false, laid := [("junctionbox/prefix.widths", laid_junctionbox_prefix_widths)] }
def CoverOnesSaid : Prop := coverOnesRow.holds Tryd.pinned (OpenSpec.ofChange coverOnesSpec)

/-- ITS FALSE NEIGHBOUR: 'it returns false'. Refute it at one input. -/
def coverOnesWrong : ChangeSpec := { name := "coverOnes", fn := fun _ => fun
  | [d] => { results := [.lit (.bool false)], args := [d] }
  | _ => none }
def CoverOnesWrongFalsely : Prop := coverOnesRow.holds Tryd.pinned (OpenSpec.ofChange coverOnesWrong)

/-- 'junctionboxlaw24.CoverLeast': WHATEVER THE INPUT: true; the input reads as it did. -/
def coverLeastSpec : ChangeSpec := { name := "coverLeast", fn := fun _ => fun
  | [d] => { results := [.lit (.bool true)], args := [d] }
  | _ => none }
def coverLeastRow : OpenClaim := { program := "ytnpdaegfmfkghaadoor", sum := "87739e7c00505c99fcc6e0576472c399dda1b00c7390c0436319bc5bd8643aac", func := "junctionbox/junctionboxlaw24.CoverLeast", spec := "coverLeast", inPlace := ["internal/bytealg.Compare"], unfollowed := true, recurses := true, named := ["junctionbox/prefix.widths"], apart := false, laid := [("junctionbox/prefix.widths", laid_junctionbox_prefix_widths)] }
def CoverLeastSaid : Prop := coverLeastRow.holds Tryd.pinned (OpenSpec.ofChange coverLeastSpec)

/-- ITS FALSE NEIGHBOUR: 'it returns false'. Refute it at one input. -/
def coverLeastWrong : ChangeSpec := { name := "coverLeast", fn := fun _ => fun
  | [d] => { results := [.lit (.bool false)], args := [d] }
  | _ => none }
def CoverLeastWrongFalsely : Prop := coverLeastRow.holds Tryd.pinned (OpenSpec.ofChange coverLeastWrong)

/-- 'junctionboxlaw24.CoverDoes': WHATEVER THE INPUT: true; the input reads as it did. -/
def coverDoesSpec : ChangeSpec := { name := "coverDoes", fn := fun _ => fun
  | [d1, d2, d3] => { results := [.lit (.bool true)], args := [d1, d2, d3] }
  | _ => none }
def coverDoesRow : OpenClaim := { program := "ytnpdaegfmfkghaadoor", sum := "87739e7c00505c99fcc6e0576472c399dda1b00c7390c0436319bc5bd8643aac", func := "junctionbox/junctionboxlaw24.CoverDoes", spec := "coverDoes", inPlace := ["internal/bytealg.Compare"], unfollowed := true, recurses := true, named := ["junctionbox/prefix.widths"], apart := false, laid := [("junctionbox/prefix.widths", laid_junctionbox_prefix_widths)] }
def CoverDoesSaid : Prop := coverDoesRow.holds Tryd.pinned (OpenSpec.ofChange coverDoesSpec)

/-- ITS FALSE NEIGHBOUR: 'it returns false'. Refute it at one input. -/
def coverDoesWrong : ChangeSpec := { name := "coverDoes", fn := fun _ => fun
  | [d1, d2, d3] => { results := [.lit (.bool false)], args := [d1, d2, d3] }
  | _ => none }
def CoverDoesWrongFalsely : Prop := coverDoesRow.holds Tryd.pinned (OpenSpec.ofChange coverDoesWrong)

/-- 'junctionboxlaw24.CoverMembers': WHATEVER THE INPUT: true; the input reads as it did. -/
def coverMembersSpec : ChangeSpec := { name := "coverMembers", fn := fun _ => fun
  | [d1, d2, d3] => { results := [.lit (.bool true)], args := [d1, d2, d3] }
  | _ => none }
def coverMembersRow : OpenClaim := { program := "ytnpdaegfmfkghaadoor", sum := "87739e7c00505c99fcc6e0576472c399dda1b00c7390c0436319bc5bd8643aac", func := "junctionbox/junctionboxlaw24.CoverMembers", spec := "coverMembers", inPlace := ["internal/bytealg.Compare"], unfollowed := true, recurses := true, named := ["junctionbox/prefix.widths"], apart := false, laid := [("junctionbox/prefix.widths", laid_junctionbox_prefix_widths)] }
def CoverMembersSaid : Prop := coverMembersRow.holds Tryd.pinned (OpenSpec.ofChange coverMembersSpec)

/-- ITS FALSE NEIGHBOUR: 'it returns false'. Refute it at one input. -/
def coverMembersWrong : ChangeSpec := { name := "coverMembers", fn := fun _ => fun
  | [d1, d2, d3] => { results := [.lit (.bool false)], args := [d1, d2, d3] }
  | _ => none }
def CoverMembersWrongFalsely : Prop := coverMembersRow.holds Tryd.pinned (OpenSpec.ofChange coverMembersWrong)

/-- 'junctionboxlaw24.CoverParts': WHATEVER THE INPUT: true; the input reads as it did. -/
def coverPartsSpec : ChangeSpec := { name := "coverParts", fn := fun _ => fun
  | [d1, d2] => { results := [.lit (.bool true)], args := [d1, d2] }
  | _ => none }
def coverPartsRow : OpenClaim := { program := "ytnpdaegfmfkghaadoor", sum := "87739e7c00505c99fcc6e0576472c399dda1b00c7390c0436319bc5bd8643aac", func := "junctionbox/junctionboxlaw24.CoverParts", spec := "coverParts", inPlace := ["internal/bytealg.Compare"], unfollowed := true, recurses := true, named := ["junctionbox/prefix.widths"], apart := false, laid := [("junctionbox/prefix.widths", laid_junctionbox_prefix_widths)] }
def CoverPartsSaid : Prop := coverPartsRow.holds Tryd.pinned (OpenSpec.ofChange coverPartsSpec)

/-- ITS FALSE NEIGHBOUR: 'it returns false'. Refute it at one input. -/
def coverPartsWrong : ChangeSpec := { name := "coverParts", fn := fun _ => fun
  | [d1, d2] => { results := [.lit (.bool false)], args := [d1, d2] }
  | _ => none }
def CoverPartsWrongFalsely : Prop := coverPartsRow.holds Tryd.pinned (OpenSpec.ofChange coverPartsWrong)

/-- 'junctionboxlaw24.CoverSame': WHATEVER THE INPUT: true; the input reads as it did. -/
def coverSameSpec : ChangeSpec := { name := "coverSame", fn := fun _ => fun
  | [d1, d2] => { results := [.lit (.bool true)], args := [d1, d2] }
  | _ => none }
def coverSameRow : OpenClaim := { program := "ytnpdaegfmfkghaadoor", sum := "87739e7c00505c99fcc6e0576472c399dda1b00c7390c0436319bc5bd8643aac", func := "junctionbox/junctionboxlaw24.CoverSame", spec := "coverSame", inPlace := ["internal/bytealg.Compare"], unfollowed := true, recurses := true, named := ["junctionbox/prefix.widths"], apart := false, laid := [("junctionbox/prefix.widths", laid_junctionbox_prefix_widths)] }
def CoverSameSaid : Prop := coverSameRow.holds Tryd.pinned (OpenSpec.ofChange coverSameSpec)

/-- ITS FALSE NEIGHBOUR: 'it returns false'. Refute it at one input. -/
def coverSameWrong : ChangeSpec := { name := "coverSame", fn := fun _ => fun
  | [d1, d2] => { results := [.lit (.bool false)], args := [d1, d2] }
  | _ => none }
def CoverSameWrongFalsely : Prop := coverSameRow.holds Tryd.pinned (OpenSpec.ofChange coverSameWrong)

/- THE SECOND FORM. 'bulk': how many values and letters a reading holds, each counted each time it is reached (what is shared counts as often as it is met; a slice's spare places count too). A statement '..UptoSaid' is the law's where the arguments, and the package variables that the reading takes, are together of bulk at most 1048576: NARROWER than '..Said'. Prove '..Said' where nothing that the law and all that it calls make is longer than what came in: it says more and counts as full. Else prove '..UptoSaid'. A law counts once. -/
mutual
def uptoBulk {H : Type} : DataW H → Nat
  | .lit (.string bytes) => bytes.length + 1
  | .lit _ => 1
  | .nil => 1
  | .ptr d => uptoBulk d + 1
  | .slice elems spare => uptoBulkAll elems + uptoBulkAll spare + 1
  | .agg parts => uptoBulkAll parts + 1
  | .iface _ d => uptoBulk d + 1
  | .map entries => uptoBulkEntries entries + 1
  | .held _ => 1
def uptoBulkAll {H : Type} : List (DataW H) → Nat
  | [] => 0
  | d :: r => uptoBulk d + uptoBulkAll r
def uptoBulkEntries {H : Type} : List (Lit × DataW H) → Nat
  | [] => 0
  | x :: r => uptoBulkEntry x + uptoBulkEntries r
def uptoBulkEntry {H : Type} : Lit × DataW H → Nat
  | (.string bytes, d) => bytes.length + uptoBulk d + 1
  | (_, d) => uptoBulk d + 1
 end
def uptoSmall : (H : Type) → List (DataW H) → Bool := fun _ ds => decide (uptoBulkAll ds ≤ 1048576)
def OpenSpec.upto (s : _root_.Go.ChangeSpec) : _root_.Go.OpenSpec := { _root_.Go.OpenSpec.ofChange s with cond := some uptoSmall }

/-- 'junctionboxlaw24.CoverOnes', WHERE WHAT IT READS IS OF BULK AT MOST 1048576: true; the input reads as it did. -/
def coverOnesUptoRow : OpenClaim := { program := "ytnpdaegfmfkghaadoor", sum := "87739e7c00505c99fcc6e0576472c399dda1b00c7390c0436319bc5bd8643aac", func := "junctionbox/junctionboxlaw24.CoverOnes", spec := "coverOnes", inPlace := ["internal/bytealg.Compare"], unfollowed := true, recurses := true, named := ["junctionbox/prefix.widths"], apart := false, laid := [("junctionbox/prefix.widths", laid_junctionbox_prefix_widths)], narrowed := true }
def CoverOnesUptoSaid : Prop := coverOnesUptoRow.holds Tryd.pinned (OpenSpec.upto coverOnesSpec)

/-- 'junctionboxlaw24.CoverLeast', WHERE WHAT IT READS IS OF BULK AT MOST 1048576: true; the input reads as it did. -/
def coverLeastUptoRow : OpenClaim := { program := "ytnpdaegfmfkghaadoor", sum := "87739e7c00505c99fcc6e0576472c399dda1b00c7390c0436319bc5bd8643aac", func := "junctionbox/junctionboxlaw24.CoverLeast", spec := "coverLeast", inPlace := ["internal/bytealg.Compare"], unfollowed := true, recurses := true, named := ["junctionbox/prefix.widths"], apart := false, laid := [("junctionbox/prefix.widths", laid_junctionbox_prefix_widths)], narrowed := true }
def CoverLeastUptoSaid : Prop := coverLeastUptoRow.holds Tryd.pinned (OpenSpec.upto coverLeastSpec)

/-- 'junctionboxlaw24.CoverDoes', WHERE WHAT IT READS IS OF BULK AT MOST 1048576: true; the input reads as it did. -/
def coverDoesUptoRow : OpenClaim := { program := "ytnpdaegfmfkghaadoor", sum := "87739e7c00505c99fcc6e0576472c399dda1b00c7390c0436319bc5bd8643aac", func := "junctionbox/junctionboxlaw24.CoverDoes", spec := "coverDoes", inPlace := ["internal/bytealg.Compare"], unfollowed := true, recurses := true, named := ["junctionbox/prefix.widths"], apart := false, laid := [("junctionbox/prefix.widths", laid_junctionbox_prefix_widths)], narrowed := true }
def CoverDoesUptoSaid : Prop := coverDoesUptoRow.holds Tryd.pinned (OpenSpec.upto coverDoesSpec)

/-- 'junctionboxlaw24.CoverMembers', WHERE WHAT IT READS IS OF BULK AT MOST 1048576: true; the input reads as it did. -/
def coverMembersUptoRow : OpenClaim := { program := "ytnpdaegfmfkghaadoor", sum := "87739e7c00505c99fcc6e0576472c399dda1b00c7390c0436319bc5bd8643aac", func := "junctionbox/junctionboxlaw24.CoverMembers", spec := "coverMembers", inPlace := ["internal/bytealg.Compare"], unfollowed := true, recurses := true, named := ["junctionbox/prefix.widths"], apart := false, laid := [("junctionbox/prefix.widths", laid_junctionbox_prefix_widths)], narrowed := true }
def CoverMembersUptoSaid : Prop := coverMembersUptoRow.holds Tryd.pinned (OpenSpec.upto coverMembersSpec)

/-- 'junctionboxlaw24.CoverParts', WHERE WHAT IT READS IS OF BULK AT MOST 1048576: true; the input reads as it did. -/
def coverPartsUptoRow : OpenClaim := { program := "ytnpdaegfmfkghaadoor", sum := "87739e7c00505c99fcc6e0576472c399dda1b00c7390c0436319bc5bd8643aac", func := "junctionbox/junctionboxlaw24.CoverParts", spec := "coverParts", inPlace := ["internal/bytealg.Compare"], unfollowed := true, recurses := true, named := ["junctionbox/prefix.widths"], apart := false, laid := [("junctionbox/prefix.widths", laid_junctionbox_prefix_widths)], narrowed := true }
def CoverPartsUptoSaid : Prop := coverPartsUptoRow.holds Tryd.pinned (OpenSpec.upto coverPartsSpec)

/-- 'junctionboxlaw24.CoverSame', WHERE WHAT IT READS IS OF BULK AT MOST 1048576: true; the input reads as it did. -/
def coverSameUptoRow : OpenClaim := { program := "ytnpdaegfmfkghaadoor", sum := "87739e7c00505c99fcc6e0576472c399dda1b00c7390c0436319bc5bd8643aac", func := "junctionbox/junctionboxlaw24.CoverSame", spec := "coverSame", inPlace := ["internal/bytealg.Compare"], unfollowed := true, recurses := true, named := ["junctionbox/prefix.widths"], apart := false, laid := [("junctionbox/prefix.widths", laid_junctionbox_prefix_widths)], narrowed := true }
def CoverSameUptoSaid : Prop := coverSameUptoRow.holds Tryd.pinned (OpenSpec.upto coverSameSpec)

end Rows
end Go.Proofs.YtnpdaegfmfkghaaDoor
