/-
  No cell of these rows narrows 'for every input' (looked for: loops, veiled, ifaces, maps, wideKeys, modest, calm, conditions, laid).
  DERIVED. THE GIVEN ROWS OF THIS SEAT. 5 by the template 'for every input the law returns true; each argument reads behind the call as it read before'; 0 by the template 'total and deterministic' (their statements: YtfkpniinpneidaaTotals.lean).
  GIVEN WITH THE SEED: the statements are not yours to turn. If you find one false, say at which input.
  Laid BY PROGRAM, IN A SANDBOX (cutbox-rows.mjs): the forced cells as the released guide's own fill.sh prints them over the translation 57778de80fb77ef6… (all of the seat's roots in one cut). By AI agents, Wed Nov 11 2026. No macro, syntax, notation, axiom, sorry.
-/
import Derived.Test.YtfkpniinpneidaaChecked
import GoSem.Claim
import GoSem.ClaimJoined
import GoSem.ClaimMapViews
import Derived.JoinedTies
import Derived.KernelRfl
namespace Go.Proofs.Ytfkpniinpneidaa
/- THE CELL 'sum', in the pinned program and in every row, IS THE sha256 OF THE DUMP (.gsa) THAT YtfkpniinpneidaaProg.lean LOADS. Nothing in Lean hashes anything: it is a label: what it is worth is what the hold of that sum in a sandbox is worth. -/
noncomputable def Try.pinned : Pinned := { name := "ytfkpniinpneidaa", sum := "57778de80fb77ef642b97d56492e5fd00a620fcfe0cd9c5ca88b107870a2688a", checked := Try.checked }
namespace Rows
def none {H : Type} : Left H := { results := [], args := [] }

/-- 'pantomimelaw25.DescApplies': WHATEVER THE INPUT: true; the input reads as it did. -/
def descAppliesSpec : ChangeSpec := { name := "descApplies", fn := fun _ => fun
  | [d1, d2, d3, d4, d5] => { results := [.lit (.bool true)], args := [d1, d2, d3, d4, d5] }
  | _ => none }
def descAppliesRow : OpenClaim := { program := "ytfkpniinpneidaa", sum := "57778de80fb77ef642b97d56492e5fd00a620fcfe0cd9c5ca88b107870a2688a", func := "pantomime/pantomimelaw25.DescApplies", spec := "descApplies", apart := false }
def DescAppliesSaid : Prop := descAppliesRow.holds Try.pinned (OpenSpec.ofChange descAppliesSpec)

/-- ITS FALSE NEIGHBOUR: 'it returns false'. Refute it at one input. -/
def descAppliesWrong : ChangeSpec := { name := "descApplies", fn := fun _ => fun
  | [d1, d2, d3, d4, d5] => { results := [.lit (.bool false)], args := [d1, d2, d3, d4, d5] }
  | _ => none }
def DescAppliesWrongFalsely : Prop := descAppliesRow.holds Try.pinned (OpenSpec.ofChange descAppliesWrong)

/-- 'pantomimelaw25.DescHard': WHATEVER THE INPUT: true; the input reads as it did. -/
def descHardSpec : ChangeSpec := { name := "descHard", fn := fun _ => fun
  | [d1, d2] => { results := [.lit (.bool true)], args := [d1, d2] }
  | _ => none }
def descHardRow : OpenClaim := { program := "ytfkpniinpneidaa", sum := "57778de80fb77ef642b97d56492e5fd00a620fcfe0cd9c5ca88b107870a2688a", func := "pantomime/pantomimelaw25.DescHard", spec := "descHard", apart := false }
def DescHardSaid : Prop := descHardRow.holds Try.pinned (OpenSpec.ofChange descHardSpec)

/-- ITS FALSE NEIGHBOUR: 'it returns false'. Refute it at one input. -/
def descHardWrong : ChangeSpec := { name := "descHard", fn := fun _ => fun
  | [d1, d2] => { results := [.lit (.bool false)], args := [d1, d2] }
  | _ => none }
def DescHardWrongFalsely : Prop := descHardRow.holds Try.pinned (OpenSpec.ofChange descHardWrong)

/-- 'pantomimelaw25.DescFull': WHATEVER THE INPUT: true; the input reads as it did. -/
def descFullSpec : ChangeSpec := { name := "descFull", fn := fun _ => fun
  | [d1, d2] => { results := [.lit (.bool true)], args := [d1, d2] }
  | _ => none }
def descFullRow : OpenClaim := { program := "ytfkpniinpneidaa", sum := "57778de80fb77ef642b97d56492e5fd00a620fcfe0cd9c5ca88b107870a2688a", func := "pantomime/pantomimelaw25.DescFull", spec := "descFull", apart := false }
def DescFullSaid : Prop := descFullRow.holds Try.pinned (OpenSpec.ofChange descFullSpec)

/-- ITS FALSE NEIGHBOUR: 'it returns false'. Refute it at one input. -/
def descFullWrong : ChangeSpec := { name := "descFull", fn := fun _ => fun
  | [d1, d2] => { results := [.lit (.bool false)], args := [d1, d2] }
  | _ => none }
def DescFullWrongFalsely : Prop := descFullRow.holds Try.pinned (OpenSpec.ofChange descFullWrong)

/-- 'pantomimelaw25.DescRight': WHATEVER THE INPUT: true; the input reads as it did. -/
def descRightSpec : ChangeSpec := { name := "descRight", fn := fun _ => fun
  | [d1, d2, d3, d4] => { results := [.lit (.bool true)], args := [d1, d2, d3, d4] }
  | _ => none }
def descRightRow : OpenClaim := { program := "ytfkpniinpneidaa", sum := "57778de80fb77ef642b97d56492e5fd00a620fcfe0cd9c5ca88b107870a2688a", func := "pantomime/pantomimelaw25.DescRight", spec := "descRight", apart := false }
def DescRightSaid : Prop := descRightRow.holds Try.pinned (OpenSpec.ofChange descRightSpec)

/-- ITS FALSE NEIGHBOUR: 'it returns false'. Refute it at one input. -/
def descRightWrong : ChangeSpec := { name := "descRight", fn := fun _ => fun
  | [d1, d2, d3, d4] => { results := [.lit (.bool false)], args := [d1, d2, d3, d4] }
  | _ => none }
def DescRightWrongFalsely : Prop := descRightRow.holds Try.pinned (OpenSpec.ofChange descRightWrong)

/-- 'pantomimelaw25.DescSame': WHATEVER THE INPUT: true; the input reads as it did. -/
def descSameSpec : ChangeSpec := { name := "descSame", fn := fun _ => fun
  | [d] => { results := [.lit (.bool true)], args := [d] }
  | _ => none }
def descSameRow : OpenClaim := { program := "ytfkpniinpneidaa", sum := "57778de80fb77ef642b97d56492e5fd00a620fcfe0cd9c5ca88b107870a2688a", func := "pantomime/pantomimelaw25.DescSame", spec := "descSame", apart := false }
def DescSameSaid : Prop := descSameRow.holds Try.pinned (OpenSpec.ofChange descSameSpec)

/-- ITS FALSE NEIGHBOUR: 'it returns false'. Refute it at one input. -/
def descSameWrong : ChangeSpec := { name := "descSame", fn := fun _ => fun
  | [d] => { results := [.lit (.bool false)], args := [d] }
  | _ => none }
def DescSameWrongFalsely : Prop := descSameRow.holds Try.pinned (OpenSpec.ofChange descSameWrong)

/- THE SECOND FORM. 'bulk': how many values and letters a reading holds, each counted each time it is reached (what is shared counts as often as it is met; a slice's spare places count too). A statement '..UptoSaid' is the law's where the arguments, and the package variables that the reading takes, are together of bulk at most 1048576: NARROWER than '..Said'. Prove '..Said' where nothing that the law and all that it calls make is longer than what came in: it says more and counts as full. Else prove '..UptoSaid'. A law counts once. -/
mutual
def uptoBulk {H : Type} : DataW H → Nat
  | .lit (.string bytes) => bytes.length + 1
  | .lit _ => 1
  | .nil => 1
  | .ptr d => uptoBulk d + 1
  | .slice elems spare => uptoBulkAll elems + uptoBulkAll spare + 1
  | .agg parts => uptoBulkAll parts + 1
  | .iface _ d => uptoBulk d + 1
  | .map entries => uptoBulkEntries entries + 1
  | .held _ => 1
def uptoBulkAll {H : Type} : List (DataW H) → Nat
  | [] => 0
  | d :: r => uptoBulk d + uptoBulkAll r
def uptoBulkEntries {H : Type} : List (Lit × DataW H) → Nat
  | [] => 0
  | x :: r => uptoBulkEntry x + uptoBulkEntries r
def uptoBulkEntry {H : Type} : Lit × DataW H → Nat
  | (.string bytes, d) => bytes.length + uptoBulk d + 1
  | (_, d) => uptoBulk d + 1
 end
def uptoSmall : (H : Type) → List (DataW H) → Bool := fun _ ds => decide (uptoBulkAll ds ≤ 1048576)
def OpenSpec.upto (s : _root_.Go.ChangeSpec) : _root_.Go.OpenSpec := { _root_.Go.OpenSpec.ofChange s with cond := some uptoSmall }

/-- 'pantomimelaw25.DescApplies', WHERE WHAT IT READS IS OF BULK AT MOST 1048576: true; the input reads as it did. -/
def descAppliesUptoRow : OpenClaim := { program := "ytfkpniinpneidaa", sum := "57778de80fb77ef642b97d56492e5fd00a620fcfe0cd9c5ca88b107870a2688a", func := "pantomime/pantomimelaw25.DescApplies", spec := "descApplies", apart := false, narrowed := true }
def DescAppliesUptoSaid : Prop := descAppliesUptoRow.holds Try.pinned (OpenSpec.upto descAppliesSpec)

/-- 'pantomimelaw25.DescHard', WHERE WHAT IT READS IS OF BULK AT MOST 1048576: true; the input reads as it did. -/
def descHardUptoRow : OpenClaim := { program := "ytfkpniinpneidaa", sum := "57778de80fb77ef642b97d56492e5fd00a620fcfe0cd9c5ca88b107870a2688a", func := "pantomime/pantomimelaw25.DescHard", spec := "descHard", apart := false, narrowed := true }
def DescHardUptoSaid : Prop := descHardUptoRow.holds Try.pinned (OpenSpec.upto descHardSpec)

/-- 'pantomimelaw25.DescFull', WHERE WHAT IT READS IS OF BULK AT MOST 1048576: true; the input reads as it did. -/
def descFullUptoRow : OpenClaim := { program := "ytfkpniinpneidaa", sum := "57778de80fb77ef642b97d56492e5fd00a620fcfe0cd9c5ca88b107870a2688a", func := "pantomime/pantomimelaw25.DescFull", spec := "descFull", apart := false, narrowed := true }
def DescFullUptoSaid : Prop := descFullUptoRow.holds Try.pinned (OpenSpec.upto descFullSpec)

/-- 'pantomimelaw25.DescRight', WHERE WHAT IT READS IS OF BULK AT MOST 1048576: true; the input reads as it did. -/
def descRightUptoRow : OpenClaim := { program := "ytfkpniinpneidaa", sum := "57778de80fb77ef642b97d56492e5fd00a620fcfe0cd9c5ca88b107870a2688a", func := "pantomime/pantomimelaw25.DescRight", spec := "descRight", apart := false, narrowed := true }
def DescRightUptoSaid : Prop := descRightUptoRow.holds Try.pinned (OpenSpec.upto descRightSpec)

/-- 'pantomimelaw25.DescSame', WHERE WHAT IT READS IS OF BULK AT MOST 1048576: true; the input reads as it did. -/
def descSameUptoRow : OpenClaim := { program := "ytfkpniinpneidaa", sum := "57778de80fb77ef642b97d56492e5fd00a620fcfe0cd9c5ca88b107870a2688a", func := "pantomime/pantomimelaw25.DescSame", spec := "descSame", apart := false, narrowed := true }
def DescSameUptoSaid : Prop := descSameUptoRow.holds Try.pinned (OpenSpec.upto descSameSpec)

end Rows
end Go.Proofs.Ytfkpniinpneidaa
