/-
  No cell of these rows narrows 'for every input' (looked for: loops, veiled, ifaces, maps, wideKeys, modest, calm, conditions, laid).
  DERIVED. THE GIVEN ROWS OF THIS SEAT. 5 by the template 'for every input the law returns true; each argument reads behind the call as it read before'; 0 by the template 'total and deterministic' (their statements: YtcmpgohpncnagaaTotals.lean).
  GIVEN WITH THE SEED: the statements are not yours to turn. If you find one false, say at which input.
  Laid BY PROGRAM, IN A SANDBOX (cutbox-rows.mjs): the forced cells as the released guide's own fill.sh prints them over the translation b44822a9c28915fb… (all of the seat's roots in one cut). By AI agents, Wed Nov 11 2026. No macro, syntax, notation, axiom, sorry.
-/
import Derived.Test.YtcmpgohpncnagaaChecked
import GoSem.Claim
import GoSem.ClaimJoined
import GoSem.ClaimMapViews
import Derived.JoinedTies
import Derived.KernelRfl
namespace Go.Proofs.Ytcmpgohpncnagaa
/- THE CELL 'sum', in the pinned program and in every row, IS THE sha256 OF THE DUMP (.gsa) THAT YtcmpgohpncnagaaProg.lean LOADS. Nothing in Lean hashes anything: it is a label: what it is worth is what the hold of that sum in a sandbox is worth. -/
noncomputable def Try.pinned : Pinned := { name := "ytcmpgohpncnagaa", sum := "b44822a9c28915fb3dd53c8ea114b34b3f4e3915652cf1390277d472b0863aa1", checked := Try.checked }
namespace Rows
def none {H : Type} : Left H := { results := [], args := [] }

/-- 'pantomimelaw51.VerifyWays': WHATEVER THE INPUT: true; the input reads as it did. -/
def verifyWaysSpec : ChangeSpec := { name := "verifyWays", fn := fun _ => fun
  | [d] => { results := [.lit (.bool true)], args := [d] }
  | _ => none }
def verifyWaysRow : OpenClaim := { program := "ytcmpgohpncnagaa", sum := "b44822a9c28915fb3dd53c8ea114b34b3f4e3915652cf1390277d472b0863aa1", func := "pantomime/pantomimelaw51.VerifyWays", spec := "verifyWays", inPlace := ["internal/bytealg.IndexByteString", "internal/bytealg.IndexString"], unfollowed := true, recurses := true, named := ["internal/bytealg.MaxLen"], apart := false }
def VerifyWaysSaid : Prop := verifyWaysRow.holds Try.pinned (OpenSpec.ofChange verifyWaysSpec)

/-- ITS FALSE NEIGHBOUR: 'it returns false'. Refute it at one input. -/
def verifyWaysWrong : ChangeSpec := { name := "verifyWays", fn := fun _ => fun
  | [d] => { results := [.lit (.bool false)], args := [d] }
  | _ => none }
def VerifyWaysWrongFalsely : Prop := verifyWaysRow.holds Try.pinned (OpenSpec.ofChange verifyWaysWrong)

/-- 'pantomimelaw51.VerifyChecks': WHATEVER THE INPUT: true; the input reads as it did. -/
def verifyChecksSpec : ChangeSpec := { name := "verifyChecks", fn := fun _ => fun
  | [d] => { results := [.lit (.bool true)], args := [d] }
  | _ => none }
def verifyChecksRow : OpenClaim := { program := "ytcmpgohpncnagaa", sum := "b44822a9c28915fb3dd53c8ea114b34b3f4e3915652cf1390277d472b0863aa1", func := "pantomime/pantomimelaw51.VerifyChecks", spec := "verifyChecks", inPlace := ["internal/bytealg.IndexByteString", "internal/bytealg.IndexString"], unfollowed := true, recurses := true, named := ["internal/bytealg.MaxLen"], apart := false }
def VerifyChecksSaid : Prop := verifyChecksRow.holds Try.pinned (OpenSpec.ofChange verifyChecksSpec)

/-- ITS FALSE NEIGHBOUR: 'it returns false'. Refute it at one input. -/
def verifyChecksWrong : ChangeSpec := { name := "verifyChecks", fn := fun _ => fun
  | [d] => { results := [.lit (.bool false)], args := [d] }
  | _ => none }
def VerifyChecksWrongFalsely : Prop := verifyChecksRow.holds Try.pinned (OpenSpec.ofChange verifyChecksWrong)

/-- 'pantomimelaw51.VerifyRight': WHATEVER THE INPUT: true; the input reads as it did. -/
def verifyRightSpec : ChangeSpec := { name := "verifyRight", fn := fun _ => fun
  | [d] => { results := [.lit (.bool true)], args := [d] }
  | _ => none }
def verifyRightRow : OpenClaim := { program := "ytcmpgohpncnagaa", sum := "b44822a9c28915fb3dd53c8ea114b34b3f4e3915652cf1390277d472b0863aa1", func := "pantomime/pantomimelaw51.VerifyRight", spec := "verifyRight", inPlace := ["internal/bytealg.IndexByteString", "internal/bytealg.IndexString"], unfollowed := true, recurses := true, named := ["internal/bytealg.MaxLen"], apart := false }
def VerifyRightSaid : Prop := verifyRightRow.holds Try.pinned (OpenSpec.ofChange verifyRightSpec)

/-- ITS FALSE NEIGHBOUR: 'it returns false'. Refute it at one input. -/
def verifyRightWrong : ChangeSpec := { name := "verifyRight", fn := fun _ => fun
  | [d] => { results := [.lit (.bool false)], args := [d] }
  | _ => none }
def VerifyRightWrongFalsely : Prop := verifyRightRow.holds Try.pinned (OpenSpec.ofChange verifyRightWrong)

/-- 'pantomimelaw51.VerifyMore': WHATEVER THE INPUT: true; the input reads as it did. -/
def verifyMoreSpec : ChangeSpec := { name := "verifyMore", fn := fun _ => fun
  | [d1, d2] => { results := [.lit (.bool true)], args := [d1, d2] }
  | _ => none }
def verifyMoreRow : OpenClaim := { program := "ytcmpgohpncnagaa", sum := "b44822a9c28915fb3dd53c8ea114b34b3f4e3915652cf1390277d472b0863aa1", func := "pantomime/pantomimelaw51.VerifyMore", spec := "verifyMore", inPlace := ["internal/bytealg.IndexByteString", "internal/bytealg.IndexString"], unfollowed := true, recurses := true, named := ["internal/bytealg.MaxLen"], apart := false }
def VerifyMoreSaid : Prop := verifyMoreRow.holds Try.pinned (OpenSpec.ofChange verifyMoreSpec)

/-- ITS FALSE NEIGHBOUR: 'it returns false'. Refute it at one input. -/
def verifyMoreWrong : ChangeSpec := { name := "verifyMore", fn := fun _ => fun
  | [d1, d2] => { results := [.lit (.bool false)], args := [d1, d2] }
  | _ => none }
def VerifyMoreWrongFalsely : Prop := verifyMoreRow.holds Try.pinned (OpenSpec.ofChange verifyMoreWrong)

/-- 'pantomimelaw51.VerifyGuards': WHATEVER THE INPUT: true; the input reads as it did. -/
def verifyGuardsSpec : ChangeSpec := { name := "verifyGuards", fn := fun _ => fun
  | [d1, d2, d3] => { results := [.lit (.bool true)], args := [d1, d2, d3] }
  | _ => none }
def verifyGuardsRow : OpenClaim := { program := "ytcmpgohpncnagaa", sum := "b44822a9c28915fb3dd53c8ea114b34b3f4e3915652cf1390277d472b0863aa1", func := "pantomime/pantomimelaw51.VerifyGuards", spec := "verifyGuards", inPlace := ["internal/bytealg.IndexByteString", "internal/bytealg.IndexString"], unfollowed := true, recurses := true, named := ["internal/bytealg.MaxLen"], apart := false }
def VerifyGuardsSaid : Prop := verifyGuardsRow.holds Try.pinned (OpenSpec.ofChange verifyGuardsSpec)

/-- ITS FALSE NEIGHBOUR: 'it returns false'. Refute it at one input. -/
def verifyGuardsWrong : ChangeSpec := { name := "verifyGuards", fn := fun _ => fun
  | [d1, d2, d3] => { results := [.lit (.bool false)], args := [d1, d2, d3] }
  | _ => none }
def VerifyGuardsWrongFalsely : Prop := verifyGuardsRow.holds Try.pinned (OpenSpec.ofChange verifyGuardsWrong)

/- THE SECOND FORM. 'bulk': how many values and letters a reading holds, each counted each time it is reached (what is shared counts as often as it is met; a slice's spare places count too). A statement '..UptoSaid' is the law's where the arguments, and the package variables that the reading takes, are together of bulk at most 1048576: NARROWER than '..Said'. Prove '..Said' where nothing that the law and all that it calls make is longer than what came in: it says more and counts as full. Else prove '..UptoSaid'. A law counts once. -/
mutual
def uptoBulk {H : Type} : DataW H → Nat
  | .lit (.string bytes) => bytes.length + 1
  | .lit _ => 1
  | .nil => 1
  | .ptr d => uptoBulk d + 1
  | .slice elems spare => uptoBulkAll elems + uptoBulkAll spare + 1
  | .agg parts => uptoBulkAll parts + 1
  | .iface _ d => uptoBulk d + 1
  | .map entries => uptoBulkEntries entries + 1
  | .held _ => 1
def uptoBulkAll {H : Type} : List (DataW H) → Nat
  | [] => 0
  | d :: r => uptoBulk d + uptoBulkAll r
def uptoBulkEntries {H : Type} : List (Lit × DataW H) → Nat
  | [] => 0
  | x :: r => uptoBulkEntry x + uptoBulkEntries r
def uptoBulkEntry {H : Type} : Lit × DataW H → Nat
  | (.string bytes, d) => bytes.length + uptoBulk d + 1
  | (_, d) => uptoBulk d + 1
 end
def uptoSmall : (H : Type) → List (DataW H) → Bool := fun _ ds => decide (uptoBulkAll ds ≤ 1048576)
def OpenSpec.upto (s : _root_.Go.ChangeSpec) : _root_.Go.OpenSpec := { _root_.Go.OpenSpec.ofChange s with cond := some uptoSmall }

/-- 'pantomimelaw51.VerifyWays', WHERE WHAT IT READS IS OF BULK AT MOST 1048576: true; the input reads as it did. -/
def verifyWaysUptoRow : OpenClaim := { program := "ytcmpgohpncnagaa", sum := "b44822a9c28915fb3dd53c8ea114b34b3f4e3915652cf1390277d472b0863aa1", func := "pantomime/pantomimelaw51.VerifyWays", spec := "verifyWays", inPlace := ["internal/bytealg.IndexByteString", "internal/bytealg.IndexString"], unfollowed := true, recurses := true, named := ["internal/bytealg.MaxLen"], apart := false, narrowed := true }
def VerifyWaysUptoSaid : Prop := verifyWaysUptoRow.holds Try.pinned (OpenSpec.upto verifyWaysSpec)

/-- 'pantomimelaw51.VerifyChecks', WHERE WHAT IT READS IS OF BULK AT MOST 1048576: true; the input reads as it did. -/
def verifyChecksUptoRow : OpenClaim := { program := "ytcmpgohpncnagaa", sum := "b44822a9c28915fb3dd53c8ea114b34b3f4e3915652cf1390277d472b0863aa1", func := "pantomime/pantomimelaw51.VerifyChecks", spec := "verifyChecks", inPlace := ["internal/bytealg.IndexByteString", "internal/bytealg.IndexString"], unfollowed := true, recurses := true, named := ["internal/bytealg.MaxLen"], apart := false, narrowed := true }
def VerifyChecksUptoSaid : Prop := verifyChecksUptoRow.holds Try.pinned (OpenSpec.upto verifyChecksSpec)

/-- 'pantomimelaw51.VerifyRight', WHERE WHAT IT READS IS OF BULK AT MOST 1048576: true; the input reads as it did. -/
def verifyRightUptoRow : OpenClaim := { program := "ytcmpgohpncnagaa", sum := "b44822a9c28915fb3dd53c8ea114b34b3f4e3915652cf1390277d472b0863aa1", func := "pantomime/pantomimelaw51.VerifyRight", spec := "verifyRight", inPlace := ["internal/bytealg.IndexByteString", "internal/bytealg.IndexString"], unfollowed := true, recurses := true, named := ["internal/bytealg.MaxLen"], apart := false, narrowed := true }
def VerifyRightUptoSaid : Prop := verifyRightUptoRow.holds Try.pinned (OpenSpec.upto verifyRightSpec)

/-- 'pantomimelaw51.VerifyMore', WHERE WHAT IT READS IS OF BULK AT MOST 1048576: true; the input reads as it did. -/
def verifyMoreUptoRow : OpenClaim := { program := "ytcmpgohpncnagaa", sum := "b44822a9c28915fb3dd53c8ea114b34b3f4e3915652cf1390277d472b0863aa1", func := "pantomime/pantomimelaw51.VerifyMore", spec := "verifyMore", inPlace := ["internal/bytealg.IndexByteString", "internal/bytealg.IndexString"], unfollowed := true, recurses := true, named := ["internal/bytealg.MaxLen"], apart := false, narrowed := true }
def VerifyMoreUptoSaid : Prop := verifyMoreUptoRow.holds Try.pinned (OpenSpec.upto verifyMoreSpec)

/-- 'pantomimelaw51.VerifyGuards', WHERE WHAT IT READS IS OF BULK AT MOST 1048576: true; the input reads as it did. -/
def verifyGuardsUptoRow : OpenClaim := { program := "ytcmpgohpncnagaa", sum := "b44822a9c28915fb3dd53c8ea114b34b3f4e3915652cf1390277d472b0863aa1", func := "pantomime/pantomimelaw51.VerifyGuards", spec := "verifyGuards", inPlace := ["internal/bytealg.IndexByteString", "internal/bytealg.IndexString"], unfollowed := true, recurses := true, named := ["internal/bytealg.MaxLen"], apart := false, narrowed := true }
def VerifyGuardsUptoSaid : Prop := verifyGuardsUptoRow.holds Try.pinned (OpenSpec.upto verifyGuardsSpec)

end Rows
end Go.Proofs.Ytcmpgohpncnagaa
