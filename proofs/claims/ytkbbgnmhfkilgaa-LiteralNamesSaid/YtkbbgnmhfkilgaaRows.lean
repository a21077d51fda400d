/-
  No cell of these rows narrows 'for every input' (looked for: loops, veiled, ifaces, maps, wideKeys, modest, calm, conditions, laid).
  DERIVED. THE GIVEN ROWS OF THIS SEAT. 6 by the template 'for every input the law returns true; each argument reads behind the call as it read before'; 0 by the template 'total and deterministic' (their statements: YtkbbgnmhfkilgaaTotals.lean).
  GIVEN WITH THE SEED: the statements are not yours to turn. If you find one false, say at which input.
  Laid BY PROGRAM, IN A SANDBOX (cutbox-rows.mjs): the forced cells as the released guide's own fill.sh prints them over the translation 7d0eb1f400f272c8… (all of the seat's roots in one cut). By AI agents, Wed Nov 11 2026. No macro, syntax, notation, axiom, sorry.
-/
import Derived.Test.YtkbbgnmhfkilgaaChecked
import GoSem.Claim
import GoSem.ClaimJoined
import GoSem.ClaimMapViews
import Derived.JoinedTies
import Derived.KernelRfl
namespace Go.Proofs.Ytkbbgnmhfkilgaa
/- THE CELL 'sum', in the pinned program and in every row, IS THE sha256 OF THE DUMP (.gsa) THAT YtkbbgnmhfkilgaaProg.lean LOADS. Nothing in Lean hashes anything: it is a label: what it is worth is what the hold of that sum in a sandbox is worth. -/
noncomputable def Try.pinned : Pinned := { name := "ytkbbgnmhfkilgaa", sum := "7d0eb1f400f272c84d578c4786f3957cb4911c798afa25167e4e48dbe1929190", checked := Try.checked }
namespace Rows
def none {H : Type} : Left H := { results := [], args := [] }

/-- 'pantomimelaw02.LiteralQuotes': WHATEVER THE INPUT: true; the input reads as it did. -/
def literalQuotesSpec : ChangeSpec := { name := "literalQuotes", fn := fun _ => fun
  | [d] => { results := [.lit (.bool true)], args := [d] }
  | _ => none }
def literalQuotesRow : OpenClaim := { program := "ytkbbgnmhfkilgaa", sum := "7d0eb1f400f272c84d578c4786f3957cb4911c798afa25167e4e48dbe1929190", func := "pantomime/pantomimelaw02.LiteralQuotes", spec := "literalQuotes", inPlace := ["internal/abi.NoEscape"], apart := false }
def LiteralQuotesSaid : Prop := literalQuotesRow.holds Try.pinned (OpenSpec.ofChange literalQuotesSpec)

/-- ITS FALSE NEIGHBOUR: 'it returns false'. Refute it at one input. -/
def literalQuotesWrong : ChangeSpec := { name := "literalQuotes", fn := fun _ => fun
  | [d] => { results := [.lit (.bool false)], args := [d] }
  | _ => none }
def LiteralQuotesWrongFalsely : Prop := literalQuotesRow.holds Try.pinned (OpenSpec.ofChange literalQuotesWrong)

/-- 'pantomimelaw02.LiteralReads': WHATEVER THE INPUT: true; the input reads as it did. -/
def literalReadsSpec : ChangeSpec := { name := "literalReads", fn := fun _ => fun
  | [d1, d2] => { results := [.lit (.bool true)], args := [d1, d2] }
  | _ => none }
def literalReadsRow : OpenClaim := { program := "ytkbbgnmhfkilgaa", sum := "7d0eb1f400f272c84d578c4786f3957cb4911c798afa25167e4e48dbe1929190", func := "pantomime/pantomimelaw02.LiteralReads", spec := "literalReads", inPlace := ["internal/abi.NoEscape"], apart := false }
def LiteralReadsSaid : Prop := literalReadsRow.holds Try.pinned (OpenSpec.ofChange literalReadsSpec)

/-- ITS FALSE NEIGHBOUR: 'it returns false'. Refute it at one input. -/
def literalReadsWrong : ChangeSpec := { name := "literalReads", fn := fun _ => fun
  | [d1, d2] => { results := [.lit (.bool false)], args := [d1, d2] }
  | _ => none }
def LiteralReadsWrongFalsely : Prop := literalReadsRow.holds Try.pinned (OpenSpec.ofChange literalReadsWrong)

/-- 'pantomimelaw02.LiteralPieces': WHATEVER THE INPUT: true; the input reads as it did. -/
def literalPiecesSpec : ChangeSpec := { name := "literalPieces", fn := fun _ => fun
  | [d1, d2] => { results := [.lit (.bool true)], args := [d1, d2] }
  | _ => none }
def literalPiecesRow : OpenClaim := { program := "ytkbbgnmhfkilgaa", sum := "7d0eb1f400f272c84d578c4786f3957cb4911c798afa25167e4e48dbe1929190", func := "pantomime/pantomimelaw02.LiteralPieces", spec := "literalPieces", inPlace := ["internal/abi.NoEscape"], apart := false }
def LiteralPiecesSaid : Prop := literalPiecesRow.holds Try.pinned (OpenSpec.ofChange literalPiecesSpec)

/-- ITS FALSE NEIGHBOUR: 'it returns false'. Refute it at one input. -/
def literalPiecesWrong : ChangeSpec := { name := "literalPieces", fn := fun _ => fun
  | [d1, d2] => { results := [.lit (.bool false)], args := [d1, d2] }
  | _ => none }
def LiteralPiecesWrongFalsely : Prop := literalPiecesRow.holds Try.pinned (OpenSpec.ofChange literalPiecesWrong)

/-- 'pantomimelaw02.LiteralBack': WHATEVER THE INPUT: true; the input reads as it did. -/
def literalBackSpec : ChangeSpec := { name := "literalBack", fn := fun _ => fun
  | [d1, d2, d3] => { results := [.lit (.bool true)], args := [d1, d2, d3] }
  | _ => none }
def literalBackRow : OpenClaim := { program := "ytkbbgnmhfkilgaa", sum := "7d0eb1f400f272c84d578c4786f3957cb4911c798afa25167e4e48dbe1929190", func := "pantomime/pantomimelaw02.LiteralBack", spec := "literalBack", inPlace := ["internal/abi.NoEscape"], apart := false }
def LiteralBackSaid : Prop := literalBackRow.holds Try.pinned (OpenSpec.ofChange literalBackSpec)

/-- ITS FALSE NEIGHBOUR: 'it returns false'. Refute it at one input. -/
def literalBackWrong : ChangeSpec := { name := "literalBack", fn := fun _ => fun
  | [d1, d2, d3] => { results := [.lit (.bool false)], args := [d1, d2, d3] }
  | _ => none }
def LiteralBackWrongFalsely : Prop := literalBackRow.holds Try.pinned (OpenSpec.ofChange literalBackWrong)

/-- 'pantomimelaw02.LiteralLong': WHATEVER THE INPUT: true; the input reads as it did. -/
def literalLongSpec : ChangeSpec := { name := "literalLong", fn := fun _ => fun
  | [d] => { results := [.lit (.bool true)], args := [d] }
  | _ => none }
def literalLongRow : OpenClaim := { program := "ytkbbgnmhfkilgaa", sum := "7d0eb1f400f272c84d578c4786f3957cb4911c798afa25167e4e48dbe1929190", func := "pantomime/pantomimelaw02.LiteralLong", spec := "literalLong", inPlace := ["internal/abi.NoEscape"], apart := false }
def LiteralLongSaid : Prop := literalLongRow.holds Try.pinned (OpenSpec.ofChange literalLongSpec)

/-- ITS FALSE NEIGHBOUR: 'it returns false'. Refute it at one input. -/
def literalLongWrong : ChangeSpec := { name := "literalLong", fn := fun _ => fun
  | [d] => { results := [.lit (.bool false)], args := [d] }
  | _ => none }
def LiteralLongWrongFalsely : Prop := literalLongRow.holds Try.pinned (OpenSpec.ofChange literalLongWrong)

/-- 'pantomimelaw02.LiteralNames': WHATEVER THE INPUT: true; the input reads as it did. -/
def literalNamesSpec : ChangeSpec := { name := "literalNames", fn := fun _ => fun
  | [d1, d2] => { results := [.lit (.bool true)], args := [d1, d2] }
  | _ => none }
def literalNamesRow : OpenClaim := { program := "ytkbbgnmhfkilgaa", sum := "7d0eb1f400f272c84d578c4786f3957cb4911c798afa25167e4e48dbe1929190", func := "pantomime/pantomimelaw02.LiteralNames", spec := "literalNames", inPlace := ["internal/bytealg.IndexByteString", "internal/bytealg.IndexString", "internal/abi.NoEscape"], named := ["internal/bytealg.MaxLen"], apart := false }
def LiteralNamesSaid : Prop := literalNamesRow.holds Try.pinned (OpenSpec.ofChange literalNamesSpec)

/-- ITS FALSE NEIGHBOUR: 'it returns false'. Refute it at one input. -/
def literalNamesWrong : ChangeSpec := { name := "literalNames", fn := fun _ => fun
  | [d1, d2] => { results := [.lit (.bool false)], args := [d1, d2] }
  | _ => none }
def LiteralNamesWrongFalsely : Prop := literalNamesRow.holds Try.pinned (OpenSpec.ofChange literalNamesWrong)

/- THE SECOND FORM. 'bulk': how many values and letters a reading holds, each counted each time it is reached (what is shared counts as often as it is met; a slice's spare places count too). A statement '..UptoSaid' is the law's where the arguments, and the package variables that the reading takes, are together of bulk at most 1048576: NARROWER than '..Said'. Prove '..Said' where nothing that the law and all that it calls make is longer than what came in: it says more and counts as full. Else prove '..UptoSaid'. A law counts once. -/
mutual
def uptoBulk {H : Type} : DataW H → Nat
  | .lit (.string bytes) => bytes.length + 1
  | .lit _ => 1
  | .nil => 1
  | .ptr d => uptoBulk d + 1
  | .slice elems spare => uptoBulkAll elems + uptoBulkAll spare + 1
  | .agg parts => uptoBulkAll parts + 1
  | .iface _ d => uptoBulk d + 1
  | .map entries => uptoBulkEntries entries + 1
  | .held _ => 1
def uptoBulkAll {H : Type} : List (DataW H) → Nat
  | [] => 0
  | d :: r => uptoBulk d + uptoBulkAll r
def uptoBulkEntries {H : Type} : List (Lit × DataW H) → Nat
  | [] => 0
  | x :: r => uptoBulkEntry x + uptoBulkEntries r
def uptoBulkEntry {H : Type} : Lit × DataW H → Nat
  | (.string bytes, d) => bytes.length + uptoBulk d + 1
  | (_, d) => uptoBulk d + 1
 end
def uptoSmall : (H : Type) → List (DataW H) → Bool := fun _ ds => decide (uptoBulkAll ds ≤ 1048576)
def OpenSpec.upto (s : _root_.Go.ChangeSpec) : _root_.Go.OpenSpec := { _root_.Go.OpenSpec.ofChange s with cond := some uptoSmall }

/-- 'pantomimelaw02.LiteralQuotes', WHERE WHAT IT READS IS OF BULK AT MOST 1048576: true; the input reads as it did. -/
def literalQuotesUptoRow : OpenClaim := { program := "ytkbbgnmhfkilgaa", sum := "7d0eb1f400f272c84d578c4786f3957cb4911c798afa25167e4e48dbe1929190", func := "pantomime/pantomimelaw02.LiteralQuotes", spec := "literalQuotes", inPlace := ["internal/abi.NoEscape"], apart := false, narrowed := true }
def LiteralQuotesUptoSaid : Prop := literalQuotesUptoRow.holds Try.pinned (OpenSpec.upto literalQuotesSpec)

/-- 'pantomimelaw02.LiteralReads', WHERE WHAT IT READS IS OF BULK AT MOST 1048576: true; the input reads as it did. -/
def literalReadsUptoRow : OpenClaim := { program := "ytkbbgnmhfkilgaa", sum := "7d0eb1f400f272c84d578c4786f3957cb4911c798afa25167e4e48dbe1929190", func := "pantomime/pantomimelaw02.LiteralReads", spec := "literalReads", inPlace := ["internal/abi.NoEscape"], apart := false, narrowed := true }
def LiteralReadsUptoSaid : Prop := literalReadsUptoRow.holds Try.pinned (OpenSpec.upto literalReadsSpec)

/-- 'pantomimelaw02.LiteralPieces', WHERE WHAT IT READS IS OF BULK AT MOST 1048576: true; the input reads as it did. -/
def literalPiecesUptoRow : OpenClaim := { program := "ytkbbgnmhfkilgaa", sum := "7d0eb1f400f272c84d578c4786f3957cb4911c798afa25167e4e48dbe1929190", func := "pantomime/pantomimelaw02.LiteralPieces", spec := "literalPieces", inPlace := ["internal/abi.NoEscape"], apart := false, narrowed := true }
def LiteralPiecesUptoSaid : Prop := literalPiecesUptoRow.holds Try.pinned (OpenSpec.upto literalPiecesSpec)

/-- 'pantomimelaw02.LiteralBack', WHERE WHAT IT READS IS OF BULK AT MOST 1048576: true; the input reads as it did. -/
def literalBackUptoRow : OpenClaim := { program := "ytkbbgnmhfkilgaa", sum := "7d0eb1f400f272c84d578c4786f3957cb4911c798afa25167e4e48dbe1929190", func := "pantomime/pantomimelaw02.LiteralBack", spec := "literalBack", inPlace := ["internal/abi.NoEscape"], apart := false, narrowed := true }
def LiteralBackUptoSaid : Prop := literalBackUptoRow.holds Try.pinned (OpenSpec.upto literalBackSpec)

/-- 'pantomimelaw02.LiteralLong', WHERE WHAT IT READS IS OF BULK AT MOST 1048576: true; the input reads as it did. -/
def literalLongUptoRow : OpenClaim := { program := "ytkbbgnmhfkilgaa", sum := "7d0eb1f400f272c84d578c4786f3957cb4911c798afa25167e4e48dbe1929190", func := "pantomime/pantomimelaw02.LiteralLong", spec := "literalLong", inPlace := ["internal/abi.NoEscape"], apart := false, narrowed := true }
def LiteralLongUptoSaid : Prop := literalLongUptoRow.holds Try.pinned (OpenSpec.upto literalLongSpec)

/-- 'pantomimelaw02.LiteralNames', WHERE WHAT IT READS IS OF BULK AT MOST 1048576: true; the input reads as it did. -/
def literalNamesUptoRow : OpenClaim := { program := "ytkbbgnmhfkilgaa", sum := "7d0eb1f400f272c84d578c4786f3957cb4911c798afa25167e4e48dbe1929190", func := "pantomime/pantomimelaw02.LiteralNames", spec := "literalNames", inPlace := ["internal/bytealg.IndexByteString", "internal/bytealg.IndexString", "internal/abi.NoEscape"], named := ["internal/bytealg.MaxLen"], apart := false, narrowed := true }
def LiteralNamesUptoSaid : Prop := literalNamesUptoRow.holds Try.pinned (OpenSpec.upto literalNamesSpec)

end Rows
end Go.Proofs.Ytkbbgnmhfkilgaa
