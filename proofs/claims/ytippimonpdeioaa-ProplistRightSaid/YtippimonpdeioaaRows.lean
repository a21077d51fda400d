/-
  No cell of these rows narrows 'for every input' (looked for: loops, veiled, ifaces, maps, wideKeys, modest, calm, conditions, laid).
  DERIVED. THE GIVEN ROWS OF THIS SEAT. 5 by the template 'for every input the law returns true; each argument reads behind the call as it read before'; 0 by the template 'total and deterministic' (their statements: YtippimonpdeioaaTotals.lean).
  GIVEN WITH THE SEED: the statements are not yours to turn. If you find one false, say at which input.
  Laid BY PROGRAM, IN A SANDBOX (cutbox-rows.mjs): the forced cells as the released guide's own fill.sh prints them over the translation 1a47bbb76cc95d90… (all of the seat's roots in one cut). By AI agents, Wed Nov 11 2026. No macro, syntax, notation, axiom, sorry.
-/
import Derived.Test.YtippimonpdeioaaChecked
import GoSem.Claim
import GoSem.ClaimJoined
import GoSem.ClaimMapViews
import Derived.JoinedTies
import Derived.KernelRfl
namespace Go.Proofs.Ytippimonpdeioaa
/- THE CELL 'sum', in the pinned program and in every row, IS THE sha256 OF THE DUMP (.gsa) THAT YtippimonpdeioaaProg.lean LOADS. Nothing in Lean hashes anything: it is a label: what it is worth is what the hold of that sum in a sandbox is worth. -/
noncomputable def Try.pinned : Pinned := { name := "ytippimonpdeioaa", sum := "1a47bbb76cc95d9019a702199220c5e41bb2691be6b1dae7906b7f51f75d21ee", checked := Try.checked }
namespace Rows
def none {H : Type} : Left H := { results := [], args := [] }

/-- 'pantomimelaw26.ProplistDefines': WHATEVER THE INPUT: true; the input reads as it did. -/
def proplistDefinesSpec : ChangeSpec := { name := "proplistDefines", fn := fun _ => fun
  | [d1, d2, d3] => { results := [.lit (.bool true)], args := [d1, d2, d3] }
  | _ => none }
def proplistDefinesRow : OpenClaim := { program := "ytippimonpdeioaa", sum := "1a47bbb76cc95d9019a702199220c5e41bb2691be6b1dae7906b7f51f75d21ee", func := "pantomime/pantomimelaw26.ProplistDefines", spec := "proplistDefines", unfollowed := true, recurses := true, plainKeys := false, apart := false }
def ProplistDefinesSaid : Prop := proplistDefinesRow.holds Try.pinned (OpenSpec.ofChange proplistDefinesSpec)

/-- ITS FALSE NEIGHBOUR: 'it returns false'. Refute it at one input. -/
def proplistDefinesWrong : ChangeSpec := { name := "proplistDefines", fn := fun _ => fun
  | [d1, d2, d3] => { results := [.lit (.bool false)], args := [d1, d2, d3] }
  | _ => none }
def ProplistDefinesWrongFalsely : Prop := proplistDefinesRow.holds Try.pinned (OpenSpec.ofChange proplistDefinesWrong)

/-- 'pantomimelaw26.ProplistDefined': WHATEVER THE INPUT: true; the input reads as it did. -/
def proplistDefinedSpec : ChangeSpec := { name := "proplistDefined", fn := fun _ => fun
  | [d1, d2, d3] => { results := [.lit (.bool true)], args := [d1, d2, d3] }
  | _ => none }
def proplistDefinedRow : OpenClaim := { program := "ytippimonpdeioaa", sum := "1a47bbb76cc95d9019a702199220c5e41bb2691be6b1dae7906b7f51f75d21ee", func := "pantomime/pantomimelaw26.ProplistDefined", spec := "proplistDefined", unfollowed := true, recurses := true, plainKeys := false, apart := false }
def ProplistDefinedSaid : Prop := proplistDefinedRow.holds Try.pinned (OpenSpec.ofChange proplistDefinedSpec)

/-- ITS FALSE NEIGHBOUR: 'it returns false'. Refute it at one input. -/
def proplistDefinedWrong : ChangeSpec := { name := "proplistDefined", fn := fun _ => fun
  | [d1, d2, d3] => { results := [.lit (.bool false)], args := [d1, d2, d3] }
  | _ => none }
def ProplistDefinedWrongFalsely : Prop := proplistDefinedRow.holds Try.pinned (OpenSpec.ofChange proplistDefinedWrong)

/-- 'pantomimelaw26.ProplistDeletes': WHATEVER THE INPUT: true; the input reads as it did. -/
def proplistDeletesSpec : ChangeSpec := { name := "proplistDeletes", fn := fun _ => fun
  | [d1, d2, d3] => { results := [.lit (.bool true)], args := [d1, d2, d3] }
  | _ => none }
def proplistDeletesRow : OpenClaim := { program := "ytippimonpdeioaa", sum := "1a47bbb76cc95d9019a702199220c5e41bb2691be6b1dae7906b7f51f75d21ee", func := "pantomime/pantomimelaw26.ProplistDeletes", spec := "proplistDeletes", unfollowed := true, recurses := true, plainKeys := false, apart := false }
def ProplistDeletesSaid : Prop := proplistDeletesRow.holds Try.pinned (OpenSpec.ofChange proplistDeletesSpec)

/-- ITS FALSE NEIGHBOUR: 'it returns false'. Refute it at one input. -/
def proplistDeletesWrong : ChangeSpec := { name := "proplistDeletes", fn := fun _ => fun
  | [d1, d2, d3] => { results := [.lit (.bool false)], args := [d1, d2, d3] }
  | _ => none }
def ProplistDeletesWrongFalsely : Prop := proplistDeletesRow.holds Try.pinned (OpenSpec.ofChange proplistDeletesWrong)

/-- 'pantomimelaw26.ProplistHard': WHATEVER THE INPUT: true; the input reads as it did. -/
def proplistHardSpec : ChangeSpec := { name := "proplistHard", fn := fun _ => fun
  | [d1, d2] => { results := [.lit (.bool true)], args := [d1, d2] }
  | _ => none }
def proplistHardRow : OpenClaim := { program := "ytippimonpdeioaa", sum := "1a47bbb76cc95d9019a702199220c5e41bb2691be6b1dae7906b7f51f75d21ee", func := "pantomime/pantomimelaw26.ProplistHard", spec := "proplistHard", unfollowed := true, recurses := true, plainKeys := false, apart := false }
def ProplistHardSaid : Prop := proplistHardRow.holds Try.pinned (OpenSpec.ofChange proplistHardSpec)

/-- ITS FALSE NEIGHBOUR: 'it returns false'. Refute it at one input. -/
def proplistHardWrong : ChangeSpec := { name := "proplistHard", fn := fun _ => fun
  | [d1, d2] => { results := [.lit (.bool false)], args := [d1, d2] }
  | _ => none }
def ProplistHardWrongFalsely : Prop := proplistHardRow.holds Try.pinned (OpenSpec.ofChange proplistHardWrong)

/-- 'pantomimelaw26.ProplistRight': WHATEVER THE INPUT: true; the input reads as it did. -/
def proplistRightSpec : ChangeSpec := { name := "proplistRight", fn := fun _ => fun
  | [d1, d2, d3] => { results := [.lit (.bool true)], args := [d1, d2, d3] }
  | _ => none }
def proplistRightRow : OpenClaim := { program := "ytippimonpdeioaa", sum := "1a47bbb76cc95d9019a702199220c5e41bb2691be6b1dae7906b7f51f75d21ee", func := "pantomime/pantomimelaw26.ProplistRight", spec := "proplistRight", unfollowed := true, recurses := true, plainKeys := false, apart := false }
def ProplistRightSaid : Prop := proplistRightRow.holds Try.pinned (OpenSpec.ofChange proplistRightSpec)

/-- ITS FALSE NEIGHBOUR: 'it returns false'. Refute it at one input. -/
def proplistRightWrong : ChangeSpec := { name := "proplistRight", fn := fun _ => fun
  | [d1, d2, d3] => { results := [.lit (.bool false)], args := [d1, d2, d3] }
  | _ => none }
def ProplistRightWrongFalsely : Prop := proplistRightRow.holds Try.pinned (OpenSpec.ofChange proplistRightWrong)

/- THE SECOND FORM. 'bulk': how many values and letters a reading holds, each counted each time it is reached (what is shared counts as often as it is met; a slice's spare places count too). A statement '..UptoSaid' is the law's where the arguments, and the package variables that the reading takes, are together of bulk at most 1048576: NARROWER than '..Said'. Prove '..Said' where nothing that the law and all that it calls make is longer than what came in: it says more and counts as full. Else prove '..UptoSaid'. A law counts once. -/
mutual
def uptoBulk {H : Type} : DataW H → Nat
  | .lit (.string bytes) => bytes.length + 1
  | .lit _ => 1
  | .nil => 1
  | .ptr d => uptoBulk d + 1
  | .slice elems spare => uptoBulkAll elems + uptoBulkAll spare + 1
  | .agg parts => uptoBulkAll parts + 1
  | .iface _ d => uptoBulk d + 1
  | .map entries => uptoBulkEntries entries + 1
  | .held _ => 1
def uptoBulkAll {H : Type} : List (DataW H) → Nat
  | [] => 0
  | d :: r => uptoBulk d + uptoBulkAll r
def uptoBulkEntries {H : Type} : List (Lit × DataW H) → Nat
  | [] => 0
  | x :: r => uptoBulkEntry x + uptoBulkEntries r
def uptoBulkEntry {H : Type} : Lit × DataW H → Nat
  | (.string bytes, d) => bytes.length + uptoBulk d + 1
  | (_, d) => uptoBulk d + 1
 end
def uptoSmall : (H : Type) → List (DataW H) → Bool := fun _ ds => decide (uptoBulkAll ds ≤ 1048576)
def OpenSpec.upto (s : _root_.Go.ChangeSpec) : _root_.Go.OpenSpec := { _root_.Go.OpenSpec.ofChange s with cond := some uptoSmall }

/-- 'pantomimelaw26.ProplistDefines', WHERE WHAT IT READS IS OF BULK AT MOST 1048576: true; the input reads as it did. -/
def proplistDefinesUptoRow : OpenClaim := { program := "ytippimonpdeioaa", sum := "1a47bbb76cc95d9019a702199220c5e41bb2691be6b1dae7906b7f51f75d21ee", func := "pantomime/pantomimelaw26.ProplistDefines", spec := "proplistDefines", unfollowed := true, recurses := true, plainKeys := false, apart := false, narrowed := true }
def ProplistDefinesUptoSaid : Prop := proplistDefinesUptoRow.holds Try.pinned (OpenSpec.upto proplistDefinesSpec)

/-- 'pantomimelaw26.ProplistDefined', WHERE WHAT IT READS IS OF BULK AT MOST 1048576: true; the input reads as it did. -/
def proplistDefinedUptoRow : OpenClaim := { program := "ytippimonpdeioaa", sum := "1a47bbb76cc95d9019a702199220c5e41bb2691be6b1dae7906b7f51f75d21ee", func := "pantomime/pantomimelaw26.ProplistDefined", spec := "proplistDefined", unfollowed := true, recurses := true, plainKeys := false, apart := false, narrowed := true }
def ProplistDefinedUptoSaid : Prop := proplistDefinedUptoRow.holds Try.pinned (OpenSpec.upto proplistDefinedSpec)

/-- 'pantomimelaw26.ProplistDeletes', WHERE WHAT IT READS IS OF BULK AT MOST 1048576: true; the input reads as it did. -/
def proplistDeletesUptoRow : OpenClaim := { program := "ytippimonpdeioaa", sum := "1a47bbb76cc95d9019a702199220c5e41bb2691be6b1dae7906b7f51f75d21ee", func := "pantomime/pantomimelaw26.ProplistDeletes", spec := "proplistDeletes", unfollowed := true, recurses := true, plainKeys := false, apart := false, narrowed := true }
def ProplistDeletesUptoSaid : Prop := proplistDeletesUptoRow.holds Try.pinned (OpenSpec.upto proplistDeletesSpec)

/-- 'pantomimelaw26.ProplistHard', WHERE WHAT IT READS IS OF BULK AT MOST 1048576: true; the input reads as it did. -/
def proplistHardUptoRow : OpenClaim := { program := "ytippimonpdeioaa", sum := "1a47bbb76cc95d9019a702199220c5e41bb2691be6b1dae7906b7f51f75d21ee", func := "pantomime/pantomimelaw26.ProplistHard", spec := "proplistHard", unfollowed := true, recurses := true, plainKeys := false, apart := false, narrowed := true }
def ProplistHardUptoSaid : Prop := proplistHardUptoRow.holds Try.pinned (OpenSpec.upto proplistHardSpec)

/-- 'pantomimelaw26.ProplistRight', WHERE WHAT IT READS IS OF BULK AT MOST 1048576: true; the input reads as it did. -/
def proplistRightUptoRow : OpenClaim := { program := "ytippimonpdeioaa", sum := "1a47bbb76cc95d9019a702199220c5e41bb2691be6b1dae7906b7f51f75d21ee", func := "pantomime/pantomimelaw26.ProplistRight", spec := "proplistRight", unfollowed := true, recurses := true, plainKeys := false, apart := false, narrowed := true }
def ProplistRightUptoSaid : Prop := proplistRightUptoRow.holds Try.pinned (OpenSpec.upto proplistRightSpec)

end Rows
end Go.Proofs.Ytippimonpdeioaa
