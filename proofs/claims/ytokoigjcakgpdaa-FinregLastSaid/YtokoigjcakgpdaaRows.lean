/-
  No cell of these rows narrows 'for every input' (looked for: loops, veiled, ifaces, maps, wideKeys, modest, calm, conditions, laid).
  DERIVED. THE GIVEN ROWS OF THIS SEAT. 5 by the template 'for every input the law returns true; each argument reads behind the call as it read before'; 0 by the template 'total and deterministic' (their statements: YtokoigjcakgpdaaTotals.lean).
  GIVEN WITH THE SEED: the statements are not yours to turn. If you find one false, say at which input.
  Laid BY PROGRAM, IN A SANDBOX (cutbox-rows.mjs): the forced cells as the released guide's own fill.sh prints them over the translation e3ad4108b0cbd8ad… (all of the seat's roots in one cut). By AI agents, Wed Nov 11 2026. No macro, syntax, notation, axiom, sorry.
-/
import Derived.Test.YtokoigjcakgpdaaChecked
import GoSem.Claim
import GoSem.ClaimJoined
import GoSem.ClaimMapViews
import Derived.JoinedTies
import Derived.KernelRfl
namespace Go.Proofs.Ytokoigjcakgpdaa
/- THE CELL 'sum', in the pinned program and in every row, IS THE sha256 OF THE DUMP (.gsa) THAT YtokoigjcakgpdaaProg.lean LOADS. Nothing in Lean hashes anything: it is a label: what it is worth is what the hold of that sum in a sandbox is worth. -/
noncomputable def Try.pinned : Pinned := { name := "ytokoigjcakgpdaa", sum := "e3ad4108b0cbd8ad16479653e0d1ec229d0ae8ce5606e60cd68379747d0a3f25", checked := Try.checked }
namespace Rows
def none {H : Type} : Left H := { results := [], args := [] }

/-- 'pantomimelaw18.FinregCleans': WHATEVER THE INPUT: true; the input reads as it did. -/
def finregCleansSpec : ChangeSpec := { name := "finregCleans", fn := fun _ => fun
  | [d1, d2] => { results := [.lit (.bool true)], args := [d1, d2] }
  | _ => none }
def finregCleansRow : OpenClaim := { program := "ytokoigjcakgpdaa", sum := "e3ad4108b0cbd8ad16479653e0d1ec229d0ae8ce5606e60cd68379747d0a3f25", func := "pantomime/pantomimelaw18.FinregCleans", spec := "finregCleans", unfollowed := true, recurses := true, apart := false }
def FinregCleansSaid : Prop := finregCleansRow.holds Try.pinned (OpenSpec.ofChange finregCleansSpec)

/-- ITS FALSE NEIGHBOUR: 'it returns false'. Refute it at one input. -/
def finregCleansWrong : ChangeSpec := { name := "finregCleans", fn := fun _ => fun
  | [d1, d2] => { results := [.lit (.bool false)], args := [d1, d2] }
  | _ => none }
def FinregCleansWrongFalsely : Prop := finregCleansRow.holds Try.pinned (OpenSpec.ofChange finregCleansWrong)

/-- 'pantomimelaw18.FinregLast': WHATEVER THE INPUT: true; the input reads as it did. -/
def finregLastSpec : ChangeSpec := { name := "finregLast", fn := fun _ => fun
  | [d1, d2, d3, d4, d5] => { results := [.lit (.bool true)], args := [d1, d2, d3, d4, d5] }
  | _ => none }
def finregLastRow : OpenClaim := { program := "ytokoigjcakgpdaa", sum := "e3ad4108b0cbd8ad16479653e0d1ec229d0ae8ce5606e60cd68379747d0a3f25", func := "pantomime/pantomimelaw18.FinregLast", spec := "finregLast", unfollowed := true, recurses := true, apart := false }
def FinregLastSaid : Prop := finregLastRow.holds Try.pinned (OpenSpec.ofChange finregLastSpec)

/-- ITS FALSE NEIGHBOUR: 'it returns false'. Refute it at one input. -/
def finregLastWrong : ChangeSpec := { name := "finregLast", fn := fun _ => fun
  | [d1, d2, d3, d4, d5] => { results := [.lit (.bool false)], args := [d1, d2, d3, d4, d5] }
  | _ => none }
def FinregLastWrongFalsely : Prop := finregLastRow.holds Try.pinned (OpenSpec.ofChange finregLastWrong)

/-- 'pantomimelaw18.FinregHolds': WHATEVER THE INPUT: true; the input reads as it did. -/
def finregHoldsSpec : ChangeSpec := { name := "finregHolds", fn := fun _ => fun
  | [d1, d2, d3, d4] => { results := [.lit (.bool true)], args := [d1, d2, d3, d4] }
  | _ => none }
def finregHoldsRow : OpenClaim := { program := "ytokoigjcakgpdaa", sum := "e3ad4108b0cbd8ad16479653e0d1ec229d0ae8ce5606e60cd68379747d0a3f25", func := "pantomime/pantomimelaw18.FinregHolds", spec := "finregHolds", unfollowed := true, recurses := true, apart := false }
def FinregHoldsSaid : Prop := finregHoldsRow.holds Try.pinned (OpenSpec.ofChange finregHoldsSpec)

/-- ITS FALSE NEIGHBOUR: 'it returns false'. Refute it at one input. -/
def finregHoldsWrong : ChangeSpec := { name := "finregHolds", fn := fun _ => fun
  | [d1, d2, d3, d4] => { results := [.lit (.bool false)], args := [d1, d2, d3, d4] }
  | _ => none }
def FinregHoldsWrongFalsely : Prop := finregHoldsRow.holds Try.pinned (OpenSpec.ofChange finregHoldsWrong)

/-- 'pantomimelaw18.FinregAdds': WHATEVER THE INPUT: true; the input reads as it did. -/
def finregAddsSpec : ChangeSpec := { name := "finregAdds", fn := fun _ => fun
  | [d1, d2, d3, d4, d5] => { results := [.lit (.bool true)], args := [d1, d2, d3, d4, d5] }
  | _ => none }
def finregAddsRow : OpenClaim := { program := "ytokoigjcakgpdaa", sum := "e3ad4108b0cbd8ad16479653e0d1ec229d0ae8ce5606e60cd68379747d0a3f25", func := "pantomime/pantomimelaw18.FinregAdds", spec := "finregAdds", unfollowed := true, recurses := true, apart := false }
def FinregAddsSaid : Prop := finregAddsRow.holds Try.pinned (OpenSpec.ofChange finregAddsSpec)

/-- ITS FALSE NEIGHBOUR: 'it returns false'. Refute it at one input. -/
def finregAddsWrong : ChangeSpec := { name := "finregAdds", fn := fun _ => fun
  | [d1, d2, d3, d4, d5] => { results := [.lit (.bool false)], args := [d1, d2, d3, d4, d5] }
  | _ => none }
def FinregAddsWrongFalsely : Prop := finregAddsRow.holds Try.pinned (OpenSpec.ofChange finregAddsWrong)

/-- 'pantomimelaw18.FinregOnce': WHATEVER THE INPUT: true; the input reads as it did. -/
def finregOnceSpec : ChangeSpec := { name := "finregOnce", fn := fun _ => fun
  | [d1, d2, d3] => { results := [.lit (.bool true)], args := [d1, d2, d3] }
  | _ => none }
def finregOnceRow : OpenClaim := { program := "ytokoigjcakgpdaa", sum := "e3ad4108b0cbd8ad16479653e0d1ec229d0ae8ce5606e60cd68379747d0a3f25", func := "pantomime/pantomimelaw18.FinregOnce", spec := "finregOnce", unfollowed := true, recurses := true, apart := false }
def FinregOnceSaid : Prop := finregOnceRow.holds Try.pinned (OpenSpec.ofChange finregOnceSpec)

/-- ITS FALSE NEIGHBOUR: 'it returns false'. Refute it at one input. -/
def finregOnceWrong : ChangeSpec := { name := "finregOnce", fn := fun _ => fun
  | [d1, d2, d3] => { results := [.lit (.bool false)], args := [d1, d2, d3] }
  | _ => none }
def FinregOnceWrongFalsely : Prop := finregOnceRow.holds Try.pinned (OpenSpec.ofChange finregOnceWrong)

/- THE SECOND FORM. 'bulk': how many values and letters a reading holds, each counted each time it is reached (what is shared counts as often as it is met; a slice's spare places count too). A statement '..UptoSaid' is the law's where the arguments, and the package variables that the reading takes, are together of bulk at most 1048576: NARROWER than '..Said'. Prove '..Said' where nothing that the law and all that it calls make is longer than what came in: it says more and counts as full. Else prove '..UptoSaid'. A law counts once. -/
mutual
def uptoBulk {H : Type} : DataW H → Nat
  | .lit (.string bytes) => bytes.length + 1
  | .lit _ => 1
  | .nil => 1
  | .ptr d => uptoBulk d + 1
  | .slice elems spare => uptoBulkAll elems + uptoBulkAll spare + 1
  | .agg parts => uptoBulkAll parts + 1
  | .iface _ d => uptoBulk d + 1
  | .map entries => uptoBulkEntries entries + 1
  | .held _ => 1
def uptoBulkAll {H : Type} : List (DataW H) → Nat
  | [] => 0
  | d :: r => uptoBulk d + uptoBulkAll r
def uptoBulkEntries {H : Type} : List (Lit × DataW H) → Nat
  | [] => 0
  | x :: r => uptoBulkEntry x + uptoBulkEntries r
def uptoBulkEntry {H : Type} : Lit × DataW H → Nat
  | (.string bytes, d) => bytes.length + uptoBulk d + 1
  | (_, d) => uptoBulk d + 1
 end
def uptoSmall : (H : Type) → List (DataW H) → Bool := fun _ ds => decide (uptoBulkAll ds ≤ 1048576)
def OpenSpec.upto (s : _root_.Go.ChangeSpec) : _root_.Go.OpenSpec := { _root_.Go.OpenSpec.ofChange s with cond := some uptoSmall }

/-- 'pantomimelaw18.FinregCleans', WHERE WHAT IT READS IS OF BULK AT MOST 1048576: true; the input reads as it did. -/
def finregCleansUptoRow : OpenClaim := { program := "ytokoigjcakgpdaa", sum := "e3ad4108b0cbd8ad16479653e0d1ec229d0ae8ce5606e60cd68379747d0a3f25", func := "pantomime/pantomimelaw18.FinregCleans", spec := "finregCleans", unfollowed := true, recurses := true, apart := false, narrowed := true }
def FinregCleansUptoSaid : Prop := finregCleansUptoRow.holds Try.pinned (OpenSpec.upto finregCleansSpec)

/-- 'pantomimelaw18.FinregLast', WHERE WHAT IT READS IS OF BULK AT MOST 1048576: true; the input reads as it did. -/
def finregLastUptoRow : OpenClaim := { program := "ytokoigjcakgpdaa", sum := "e3ad4108b0cbd8ad16479653e0d1ec229d0ae8ce5606e60cd68379747d0a3f25", func := "pantomime/pantomimelaw18.FinregLast", spec := "finregLast", unfollowed := true, recurses := true, apart := false, narrowed := true }
def FinregLastUptoSaid : Prop := finregLastUptoRow.holds Try.pinned (OpenSpec.upto finregLastSpec)

/-- 'pantomimelaw18.FinregHolds', WHERE WHAT IT READS IS OF BULK AT MOST 1048576: true; the input reads as it did. -/
def finregHoldsUptoRow : OpenClaim := { program := "ytokoigjcakgpdaa", sum := "e3ad4108b0cbd8ad16479653e0d1ec229d0ae8ce5606e60cd68379747d0a3f25", func := "pantomime/pantomimelaw18.FinregHolds", spec := "finregHolds", unfollowed := true, recurses := true, apart := false, narrowed := true }
def FinregHoldsUptoSaid : Prop := finregHoldsUptoRow.holds Try.pinned (OpenSpec.upto finregHoldsSpec)

/-- 'pantomimelaw18.FinregAdds', WHERE WHAT IT READS IS OF BULK AT MOST 1048576: true; the input reads as it did. -/
def finregAddsUptoRow : OpenClaim := { program := "ytokoigjcakgpdaa", sum := "e3ad4108b0cbd8ad16479653e0d1ec229d0ae8ce5606e60cd68379747d0a3f25", func := "pantomime/pantomimelaw18.FinregAdds", spec := "finregAdds", unfollowed := true, recurses := true, apart := false, narrowed := true }
def FinregAddsUptoSaid : Prop := finregAddsUptoRow.holds Try.pinned (OpenSpec.upto finregAddsSpec)

/-- 'pantomimelaw18.FinregOnce', WHERE WHAT IT READS IS OF BULK AT MOST 1048576: true; the input reads as it did. -/
def finregOnceUptoRow : OpenClaim := { program := "ytokoigjcakgpdaa", sum := "e3ad4108b0cbd8ad16479653e0d1ec229d0ae8ce5606e60cd68379747d0a3f25", func := "pantomime/pantomimelaw18.FinregOnce", spec := "finregOnce", unfollowed := true, recurses := true, apart := false, narrowed := true }
def FinregOnceUptoSaid : Prop := finregOnceUptoRow.holds Try.pinned (OpenSpec.upto finregOnceSpec)

end Rows
end Go.Proofs.Ytokoigjcakgpdaa
