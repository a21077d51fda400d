/-
  No cell of these rows narrows 'for every input' (looked for: loops, veiled, ifaces, maps, wideKeys, modest, calm, conditions, laid).
  DERIVED. THE GIVEN ROWS OF THIS SEAT. 4 by the template 'for every input the law returns true; each argument reads behind the call as it read before'; 0 by the template 'total and deterministic' (their statements: YtdikdkllbhanfaaTotals.lean).
  GIVEN WITH THE SEED: the statements are not yours to turn. If you find one false, say at which input.
  Laid BY PROGRAM, IN A SANDBOX (cutbox-rows.mjs): the forced cells as the released guide's own fill.sh prints them over the translation 35451a4bf91fcfbe… (all of the seat's roots in one cut). By AI agents, Wed Nov 11 2026. No macro, syntax, notation, axiom, sorry.
-/
import Derived.Test.YtdikdkllbhanfaaChecked
import GoSem.Claim
import GoSem.ClaimJoined
import GoSem.ClaimMapViews
import Derived.JoinedTies
import Derived.KernelRfl
namespace Go.Proofs.Ytdikdkllbhanfaa
/- THE CELL 'sum', in the pinned program and in every row, IS THE sha256 OF THE DUMP (.gsa) THAT YtdikdkllbhanfaaProg.lean LOADS. Nothing in Lean hashes anything: it is a label: what it is worth is what the hold of that sum in a sandbox is worth. -/
noncomputable def Try.pinned : Pinned := { name := "ytdikdkllbhanfaa", sum := "35451a4bf91fcfbe5160f29cd00bdf39a5f7aecd5cb3e8ca16c5141c85c798d1", checked := Try.checked }
namespace Rows
def none {H : Type} : Left H := { results := [], args := [] }

/-- 'pantomimelaw17.WeakCleans': WHATEVER THE INPUT: true; the input reads as it did. -/
def weakCleansSpec : ChangeSpec := { name := "weakCleans", fn := fun _ => fun
  | [d1, d2] => { results := [.lit (.bool true)], args := [d1, d2] }
  | _ => none }
def weakCleansRow : OpenClaim := { program := "ytdikdkllbhanfaa", sum := "35451a4bf91fcfbe5160f29cd00bdf39a5f7aecd5cb3e8ca16c5141c85c798d1", func := "pantomime/pantomimelaw17.WeakCleans", spec := "weakCleans", unfollowed := true, recurses := true, apart := false }
def WeakCleansSaid : Prop := weakCleansRow.holds Try.pinned (OpenSpec.ofChange weakCleansSpec)

/-- ITS FALSE NEIGHBOUR: 'it returns false'. Refute it at one input. -/
def weakCleansWrong : ChangeSpec := { name := "weakCleans", fn := fun _ => fun
  | [d1, d2] => { results := [.lit (.bool false)], args := [d1, d2] }
  | _ => none }
def WeakCleansWrongFalsely : Prop := weakCleansRow.holds Try.pinned (OpenSpec.ofChange weakCleansWrong)

/-- 'pantomimelaw17.WeakTells': WHATEVER THE INPUT: true; the input reads as it did. -/
def weakTellsSpec : ChangeSpec := { name := "weakTells", fn := fun _ => fun
  | [d1, d2, d3] => { results := [.lit (.bool true)], args := [d1, d2, d3] }
  | _ => none }
def weakTellsRow : OpenClaim := { program := "ytdikdkllbhanfaa", sum := "35451a4bf91fcfbe5160f29cd00bdf39a5f7aecd5cb3e8ca16c5141c85c798d1", func := "pantomime/pantomimelaw17.WeakTells", spec := "weakTells", unfollowed := true, recurses := true, apart := false }
def WeakTellsSaid : Prop := weakTellsRow.holds Try.pinned (OpenSpec.ofChange weakTellsSpec)

/-- ITS FALSE NEIGHBOUR: 'it returns false'. Refute it at one input. -/
def weakTellsWrong : ChangeSpec := { name := "weakTells", fn := fun _ => fun
  | [d1, d2, d3] => { results := [.lit (.bool false)], args := [d1, d2, d3] }
  | _ => none }
def WeakTellsWrongFalsely : Prop := weakTellsRow.holds Try.pinned (OpenSpec.ofChange weakTellsWrong)

/-- 'pantomimelaw17.WeakPlays': WHATEVER THE INPUT: true; the input reads as it did. -/
def weakPlaysSpec : ChangeSpec := { name := "weakPlays", fn := fun _ => fun
  | [d1, d2] => { results := [.lit (.bool true)], args := [d1, d2] }
  | _ => none }
def weakPlaysRow : OpenClaim := { program := "ytdikdkllbhanfaa", sum := "35451a4bf91fcfbe5160f29cd00bdf39a5f7aecd5cb3e8ca16c5141c85c798d1", func := "pantomime/pantomimelaw17.WeakPlays", spec := "weakPlays", unfollowed := true, recurses := true, apart := false }
def WeakPlaysSaid : Prop := weakPlaysRow.holds Try.pinned (OpenSpec.ofChange weakPlaysSpec)

/-- ITS FALSE NEIGHBOUR: 'it returns false'. Refute it at one input. -/
def weakPlaysWrong : ChangeSpec := { name := "weakPlays", fn := fun _ => fun
  | [d1, d2] => { results := [.lit (.bool false)], args := [d1, d2] }
  | _ => none }
def WeakPlaysWrongFalsely : Prop := weakPlaysRow.holds Try.pinned (OpenSpec.ofChange weakPlaysWrong)

/-- 'pantomimelaw17.WeakMoves': WHATEVER THE INPUT: true; the input reads as it did. -/
def weakMovesSpec : ChangeSpec := { name := "weakMoves", fn := fun _ => fun
  | [d1, d2, d3] => { results := [.lit (.bool true)], args := [d1, d2, d3] }
  | _ => none }
def weakMovesRow : OpenClaim := { program := "ytdikdkllbhanfaa", sum := "35451a4bf91fcfbe5160f29cd00bdf39a5f7aecd5cb3e8ca16c5141c85c798d1", func := "pantomime/pantomimelaw17.WeakMoves", spec := "weakMoves", unfollowed := true, recurses := true, apart := false }
def WeakMovesSaid : Prop := weakMovesRow.holds Try.pinned (OpenSpec.ofChange weakMovesSpec)

/-- ITS FALSE NEIGHBOUR: 'it returns false'. Refute it at one input. -/
def weakMovesWrong : ChangeSpec := { name := "weakMoves", fn := fun _ => fun
  | [d1, d2, d3] => { results := [.lit (.bool false)], args := [d1, d2, d3] }
  | _ => none }
def WeakMovesWrongFalsely : Prop := weakMovesRow.holds Try.pinned (OpenSpec.ofChange weakMovesWrong)

/- THE SECOND FORM. 'bulk': how many values and letters a reading holds, each counted each time it is reached (what is shared counts as often as it is met; a slice's spare places count too). A statement '..UptoSaid' is the law's where the arguments, and the package variables that the reading takes, are together of bulk at most 1048576: NARROWER than '..Said'. Prove '..Said' where nothing that the law and all that it calls make is longer than what came in: it says more and counts as full. Else prove '..UptoSaid'. A law counts once. -/
mutual
def uptoBulk {H : Type} : DataW H → Nat
  | .lit (.string bytes) => bytes.length + 1
  | .lit _ => 1
  | .nil => 1
  | .ptr d => uptoBulk d + 1
  | .slice elems spare => uptoBulkAll elems + uptoBulkAll spare + 1
  | .agg parts => uptoBulkAll parts + 1
  | .iface _ d => uptoBulk d + 1
  | .map entries => uptoBulkEntries entries + 1
  | .held _ => 1
def uptoBulkAll {H : Type} : List (DataW H) → Nat
  | [] => 0
  | d :: r => uptoBulk d + uptoBulkAll r
def uptoBulkEntries {H : Type} : List (Lit × DataW H) → Nat
  | [] => 0
  | x :: r => uptoBulkEntry x + uptoBulkEntries r
def uptoBulkEntry {H : Type} : Lit × DataW H → Nat
  | (.string bytes, d) => bytes.length + uptoBulk d + 1
  | (_, d) => uptoBulk d + 1
 end
def uptoSmall : (H : Type) → List (DataW H) → Bool := fun _ ds => decide (uptoBulkAll ds ≤ 1048576)
def OpenSpec.upto (s : _root_.Go.ChangeSpec) : _root_.Go.OpenSpec := { _root_.Go.OpenSpec.ofChange s with cond := some uptoSmall }

/-- 'pantomimelaw17.WeakCleans', WHERE WHAT IT READS IS OF BULK AT MOST 1048576: true; the input reads as it did. -/
def weakCleansUptoRow : OpenClaim := { program := "ytdikdkllbhanfaa", sum := "35451a4bf91fcfbe5160f29cd00bdf39a5f7aecd5cb3e8ca16c5141c85c798d1", func := "pantomime/pantomimelaw17.WeakCleans", spec := "weakCleans", unfollowed := true, recurses := true, apart := false, narrowed := true }
def WeakCleansUptoSaid : Prop := weakCleansUptoRow.holds Try.pinned (OpenSpec.upto weakCleansSpec)

/-- 'pantomimelaw17.WeakTells', WHERE WHAT IT READS IS OF BULK AT MOST 1048576: true; the input reads as it did. -/
def weakTellsUptoRow : OpenClaim := { program := "ytdikdkllbhanfaa", sum := "35451a4bf91fcfbe5160f29cd00bdf39a5f7aecd5cb3e8ca16c5141c85c798d1", func := "pantomime/pantomimelaw17.WeakTells", spec := "weakTells", unfollowed := true, recurses := true, apart := false, narrowed := true }
def WeakTellsUptoSaid : Prop := weakTellsUptoRow.holds Try.pinned (OpenSpec.upto weakTellsSpec)

/-- 'pantomimelaw17.WeakPlays', WHERE WHAT IT READS IS OF BULK AT MOST 1048576: true; the input reads as it did. -/
def weakPlaysUptoRow : OpenClaim := { program := "ytdikdkllbhanfaa", sum := "35451a4bf91fcfbe5160f29cd00bdf39a5f7aecd5cb3e8ca16c5141c85c798d1", func := "pantomime/pantomimelaw17.WeakPlays", spec := "weakPlays", unfollowed := true, recurses := true, apart := false, narrowed := true }
def WeakPlaysUptoSaid : Prop := weakPlaysUptoRow.holds Try.pinned (OpenSpec.upto weakPlaysSpec)

/-- 'pantomimelaw17.WeakMoves', WHERE WHAT IT READS IS OF BULK AT MOST 1048576: true; the input reads as it did. -/
def weakMovesUptoRow : OpenClaim := { program := "ytdikdkllbhanfaa", sum := "35451a4bf91fcfbe5160f29cd00bdf39a5f7aecd5cb3e8ca16c5141c85c798d1", func := "pantomime/pantomimelaw17.WeakMoves", spec := "weakMoves", unfollowed := true, recurses := true, apart := false, narrowed := true }
def WeakMovesUptoSaid : Prop := weakMovesUptoRow.holds Try.pinned (OpenSpec.upto weakMovesSpec)

end Rows
end Go.Proofs.Ytdikdkllbhanfaa
