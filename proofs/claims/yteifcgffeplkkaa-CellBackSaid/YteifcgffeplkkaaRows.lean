/-
  No cell of these rows narrows 'for every input' (looked for: loops, veiled, ifaces, maps, wideKeys, modest, calm, conditions, laid).
  DERIVED. THE GIVEN ROWS OF THIS SEAT. 5 by the template 'for every input the law returns true; each argument reads behind the call as it read before'; 0 by the template 'total and deterministic' (their statements: YteifcgffeplkkaaTotals.lean).
  GIVEN WITH THE SEED: the statements are not yours to turn. If you find one false, say at which input.
  Laid BY PROGRAM, IN A SANDBOX (cutbox-rows.mjs): the forced cells as the released guide's own fill.sh prints them over the translation 17f241099a56fbdc… (all of the seat's roots in one cut). By AI agents, Wed Nov 11 2026. No macro, syntax, notation, axiom, sorry.
-/
import Derived.Test.YteifcgffeplkkaaChecked
import GoSem.Claim
import GoSem.ClaimJoined
import GoSem.ClaimMapViews
import Derived.JoinedTies
import Derived.KernelRfl
namespace Go.Proofs.Yteifcgffeplkkaa
/- THE CELL 'sum', in the pinned program and in every row, IS THE sha256 OF THE DUMP (.gsa) THAT YteifcgffeplkkaaProg.lean LOADS. Nothing in Lean hashes anything: it is a label: what it is worth is what the hold of that sum in a sandbox is worth. -/
noncomputable def Try.pinned : Pinned := { name := "yteifcgffeplkkaa", sum := "17f241099a56fbdc00917a40fdc8b60c75ade5eb247f812795ce32df6fa75789", checked := Try.checked }
namespace Rows
def none {H : Type} : Left H := { results := [], args := [] }

/-- 'pantomimelaw15.CellLeads': WHATEVER THE INPUT: true; the input reads as it did. -/
def cellLeadsSpec : ChangeSpec := { name := "cellLeads", fn := fun _ => fun
  | [d] => { results := [.lit (.bool true)], args := [d] }
  | _ => none }
def cellLeadsRow : OpenClaim := { program := "yteifcgffeplkkaa", sum := "17f241099a56fbdc00917a40fdc8b60c75ade5eb247f812795ce32df6fa75789", func := "pantomime/pantomimelaw15.CellLeads", spec := "cellLeads", unfollowed := true, recurses := true, apart := false }
def CellLeadsSaid : Prop := cellLeadsRow.holds Try.pinned (OpenSpec.ofChange cellLeadsSpec)

/-- ITS FALSE NEIGHBOUR: 'it returns false'. Refute it at one input. -/
def cellLeadsWrong : ChangeSpec := { name := "cellLeads", fn := fun _ => fun
  | [d] => { results := [.lit (.bool false)], args := [d] }
  | _ => none }
def CellLeadsWrongFalsely : Prop := cellLeadsRow.holds Try.pinned (OpenSpec.ofChange cellLeadsWrong)

/-- 'pantomimelaw15.CellAll': WHATEVER THE INPUT: true; the input reads as it did. -/
def cellAllSpec : ChangeSpec := { name := "cellAll", fn := fun _ => fun
  | [d1, d2] => { results := [.lit (.bool true)], args := [d1, d2] }
  | _ => none }
def cellAllRow : OpenClaim := { program := "yteifcgffeplkkaa", sum := "17f241099a56fbdc00917a40fdc8b60c75ade5eb247f812795ce32df6fa75789", func := "pantomime/pantomimelaw15.CellAll", spec := "cellAll", unfollowed := true, recurses := true, apart := false }
def CellAllSaid : Prop := cellAllRow.holds Try.pinned (OpenSpec.ofChange cellAllSpec)

/-- ITS FALSE NEIGHBOUR: 'it returns false'. Refute it at one input. -/
def cellAllWrong : ChangeSpec := { name := "cellAll", fn := fun _ => fun
  | [d1, d2] => { results := [.lit (.bool false)], args := [d1, d2] }
  | _ => none }
def CellAllWrongFalsely : Prop := cellAllRow.holds Try.pinned (OpenSpec.ofChange cellAllWrong)

/-- 'pantomimelaw15.CellRight': WHATEVER THE INPUT: true; the input reads as it did. -/
def cellRightSpec : ChangeSpec := { name := "cellRight", fn := fun _ => fun
  | [d1, d2] => { results := [.lit (.bool true)], args := [d1, d2] }
  | _ => none }
def cellRightRow : OpenClaim := { program := "yteifcgffeplkkaa", sum := "17f241099a56fbdc00917a40fdc8b60c75ade5eb247f812795ce32df6fa75789", func := "pantomime/pantomimelaw15.CellRight", spec := "cellRight", unfollowed := true, recurses := true, apart := false }
def CellRightSaid : Prop := cellRightRow.holds Try.pinned (OpenSpec.ofChange cellRightSpec)

/-- ITS FALSE NEIGHBOUR: 'it returns false'. Refute it at one input. -/
def cellRightWrong : ChangeSpec := { name := "cellRight", fn := fun _ => fun
  | [d1, d2] => { results := [.lit (.bool false)], args := [d1, d2] }
  | _ => none }
def CellRightWrongFalsely : Prop := cellRightRow.holds Try.pinned (OpenSpec.ofChange cellRightWrong)

/-- 'pantomimelaw15.CellMoves': WHATEVER THE INPUT: true; the input reads as it did. -/
def cellMovesSpec : ChangeSpec := { name := "cellMoves", fn := fun _ => fun
  | [d1, d2, d3] => { results := [.lit (.bool true)], args := [d1, d2, d3] }
  | _ => none }
def cellMovesRow : OpenClaim := { program := "yteifcgffeplkkaa", sum := "17f241099a56fbdc00917a40fdc8b60c75ade5eb247f812795ce32df6fa75789", func := "pantomime/pantomimelaw15.CellMoves", spec := "cellMoves", unfollowed := true, recurses := true, apart := false }
def CellMovesSaid : Prop := cellMovesRow.holds Try.pinned (OpenSpec.ofChange cellMovesSpec)

/-- ITS FALSE NEIGHBOUR: 'it returns false'. Refute it at one input. -/
def cellMovesWrong : ChangeSpec := { name := "cellMoves", fn := fun _ => fun
  | [d1, d2, d3] => { results := [.lit (.bool false)], args := [d1, d2, d3] }
  | _ => none }
def CellMovesWrongFalsely : Prop := cellMovesRow.holds Try.pinned (OpenSpec.ofChange cellMovesWrong)

/-- 'pantomimelaw15.CellBack': WHATEVER THE INPUT: true; the input reads as it did. -/
def cellBackSpec : ChangeSpec := { name := "cellBack", fn := fun _ => fun
  | [d] => { results := [.lit (.bool true)], args := [d] }
  | _ => none }
def cellBackRow : OpenClaim := { program := "yteifcgffeplkkaa", sum := "17f241099a56fbdc00917a40fdc8b60c75ade5eb247f812795ce32df6fa75789", func := "pantomime/pantomimelaw15.CellBack", spec := "cellBack", unfollowed := true, recurses := true, apart := false }
def CellBackSaid : Prop := cellBackRow.holds Try.pinned (OpenSpec.ofChange cellBackSpec)

/-- ITS FALSE NEIGHBOUR: 'it returns false'. Refute it at one input. -/
def cellBackWrong : ChangeSpec := { name := "cellBack", fn := fun _ => fun
  | [d] => { results := [.lit (.bool false)], args := [d] }
  | _ => none }
def CellBackWrongFalsely : Prop := cellBackRow.holds Try.pinned (OpenSpec.ofChange cellBackWrong)

/- THE SECOND FORM. 'bulk': how many values and letters a reading holds, each counted each time it is reached (what is shared counts as often as it is met; a slice's spare places count too). A statement '..UptoSaid' is the law's where the arguments, and the package variables that the reading takes, are together of bulk at most 1048576: NARROWER than '..Said'. Prove '..Said' where nothing that the law and all that it calls make is longer than what came in: it says more and counts as full. Else prove '..UptoSaid'. A law counts once. -/
mutual
def uptoBulk {H : Type} : DataW H → Nat
  | .lit (.string bytes) => bytes.length + 1
  | .lit _ => 1
  | .nil => 1
  | .ptr d => uptoBulk d + 1
  | .slice elems spare => uptoBulkAll elems + uptoBulkAll spare + 1
  | .agg parts => uptoBulkAll parts + 1
  | .iface _ d => uptoBulk d + 1
  | .map entries => uptoBulkEntries entries + 1
  | .held _ => 1
def uptoBulkAll {H : Type} : List (DataW H) → Nat
  | [] => 0
  | d :: r => uptoBulk d + uptoBulkAll r
def uptoBulkEntries {H : Type} : List (Lit × DataW H) → Nat
  | [] => 0
  | x :: r => uptoBulkEntry x + uptoBulkEntries r
def uptoBulkEntry {H : Type} : Lit × DataW H → Nat
  | (.string bytes, d) => bytes.length + uptoBulk d + 1
  | (_, d) => uptoBulk d + 1
 end
def uptoSmall : (H : Type) → List (DataW H) → Bool := fun _ ds => decide (uptoBulkAll ds ≤ 1048576)
def OpenSpec.upto (s : _root_.Go.ChangeSpec) : _root_.Go.OpenSpec := { _root_.Go.OpenSpec.ofChange s with cond := some uptoSmall }

/-- 'pantomimelaw15.CellLeads', WHERE WHAT IT READS IS OF BULK AT MOST 1048576: true; the input reads as it did. -/
def cellLeadsUptoRow : OpenClaim := { program := "yteifcgffeplkkaa", sum := "17f241099a56fbdc00917a40fdc8b60c75ade5eb247f812795ce32df6fa75789", func := "pantomime/pantomimelaw15.CellLeads", spec := "cellLeads", unfollowed := true, recurses := true, apart := false, narrowed := true }
def CellLeadsUptoSaid : Prop := cellLeadsUptoRow.holds Try.pinned (OpenSpec.upto cellLeadsSpec)

/-- 'pantomimelaw15.CellAll', WHERE WHAT IT READS IS OF BULK AT MOST 1048576: true; the input reads as it did. -/
def cellAllUptoRow : OpenClaim := { program := "yteifcgffeplkkaa", sum := "17f241099a56fbdc00917a40fdc8b60c75ade5eb247f812795ce32df6fa75789", func := "pantomime/pantomimelaw15.CellAll", spec := "cellAll", unfollowed := true, recurses := true, apart := false, narrowed := true }
def CellAllUptoSaid : Prop := cellAllUptoRow.holds Try.pinned (OpenSpec.upto cellAllSpec)

/-- 'pantomimelaw15.CellRight', WHERE WHAT IT READS IS OF BULK AT MOST 1048576: true; the input reads as it did. -/
def cellRightUptoRow : OpenClaim := { program := "yteifcgffeplkkaa", sum := "17f241099a56fbdc00917a40fdc8b60c75ade5eb247f812795ce32df6fa75789", func := "pantomime/pantomimelaw15.CellRight", spec := "cellRight", unfollowed := true, recurses := true, apart := false, narrowed := true }
def CellRightUptoSaid : Prop := cellRightUptoRow.holds Try.pinned (OpenSpec.upto cellRightSpec)

/-- 'pantomimelaw15.CellMoves', WHERE WHAT IT READS IS OF BULK AT MOST 1048576: true; the input reads as it did. -/
def cellMovesUptoRow : OpenClaim := { program := "yteifcgffeplkkaa", sum := "17f241099a56fbdc00917a40fdc8b60c75ade5eb247f812795ce32df6fa75789", func := "pantomime/pantomimelaw15.CellMoves", spec := "cellMoves", unfollowed := true, recurses := true, apart := false, narrowed := true }
def CellMovesUptoSaid : Prop := cellMovesUptoRow.holds Try.pinned (OpenSpec.upto cellMovesSpec)

/-- 'pantomimelaw15.CellBack', WHERE WHAT IT READS IS OF BULK AT MOST 1048576: true; the input reads as it did. -/
def cellBackUptoRow : OpenClaim := { program := "yteifcgffeplkkaa", sum := "17f241099a56fbdc00917a40fdc8b60c75ade5eb247f812795ce32df6fa75789", func := "pantomime/pantomimelaw15.CellBack", spec := "cellBack", unfollowed := true, recurses := true, apart := false, narrowed := true }
def CellBackUptoSaid : Prop := cellBackUptoRow.holds Try.pinned (OpenSpec.upto cellBackSpec)

end Rows
end Go.Proofs.Yteifcgffeplkkaa
