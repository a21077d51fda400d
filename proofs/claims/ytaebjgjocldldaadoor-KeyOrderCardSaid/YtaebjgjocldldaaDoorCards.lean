/-
  DERIVED. GIVEN WITH THE SEED: THE CARDS: each row of YtaebjgjocldldaaDoorRows.lean that lists a variable, with what it lists TIED to the program's text (the seventh form; the later family's looks); each row that meets fmt, with fmt's text TOLD by the authors' own Lean function (tested against real Go, not proved from fmt's source: count such statements apart). THE CARD IS WHAT COUNTS. Prove the row's statement (the work); the ties are given (YtaebjgjocldldaaDoorTie.lean); close each card by the builder's one call (the guide's Derived/Test/ToyasCard.lean, 'card_holds'). Laid BY PROGRAM, IN A SANDBOX (cutbox-door.mjs). By AI agents, Wed Nov 11 2026. No macro, syntax, notation, axiom, sorry.
-/
import Derived.Test.YtaebjgjocldldaaDoorRows
import GoSem.ClaimSeven
namespace Go.Proofs.YtaebjgjocldldaaDoor
namespace Rows

/-- THE TIED CARD OF 'pantomimelaw24.KeyOf'. -/
def keyOfCard : Claim7 := { stood := { row := keyOfRow, standIns := [], harness := (true, "c5ecffb0f2aeea0c02d8fcd69c53fb54f0898194c29d3b5b95be51140a487b82"), looks := false }, kinds := [], alts := [], laidByText := true, laidKinds := [.data, .data, .data], laidTests := true, laidLooks := .later }
def KeyOfCardSaid : Prop := Claim7.holds Tryd.pinned (.plain (OpenSpec.ofChange keyOfSpec)) keyOfCard

/-- THE TIED CARD OF 'pantomimelaw24.KeyTells'. -/
def keyTellsCard : Claim7 := { stood := { row := keyTellsRow, standIns := [], harness := (true, "c5ecffb0f2aeea0c02d8fcd69c53fb54f0898194c29d3b5b95be51140a487b82"), looks := false }, kinds := [], alts := [], laidByText := true, laidKinds := [.data, .data, .data], laidTests := true, laidLooks := .later }
def KeyTellsCardSaid : Prop := Claim7.holds Tryd.pinned (.plain (OpenSpec.ofChange keyTellsSpec)) keyTellsCard

/-- THE TIED CARD OF 'pantomimelaw24.KeyOrder'. -/
def keyOrderCard : Claim7 := { stood := { row := keyOrderRow, standIns := [], harness := (true, "c5ecffb0f2aeea0c02d8fcd69c53fb54f0898194c29d3b5b95be51140a487b82"), looks := false }, kinds := [], alts := [], laidByText := true, laidKinds := [.data, .data, .data], laidTests := true, laidLooks := .later }
def KeyOrderCardSaid : Prop := Claim7.holds Tryd.pinned (.plain (OpenSpec.ofChange keyOrderSpec)) keyOrderCard

/-- THE TIED CARD OF 'pantomimelaw24.KeyMerges'. -/
def keyMergesCard : Claim7 := { stood := { row := keyMergesRow, standIns := [], harness := (true, "c5ecffb0f2aeea0c02d8fcd69c53fb54f0898194c29d3b5b95be51140a487b82"), looks := false }, kinds := [], alts := [], laidByText := true, laidKinds := [.data, .data, .data], laidTests := true, laidLooks := .later }
def KeyMergesCardSaid : Prop := Claim7.holds Tryd.pinned (.plain (OpenSpec.ofChange keyMergesSpec)) keyMergesCard

/-- THE SECOND FORM's CARD OF 'pantomimelaw24.KeyOf'. -/
def keyOfUptoCard : Claim7 := { stood := { row := keyOfUptoRow, standIns := [], harness := (true, "c5ecffb0f2aeea0c02d8fcd69c53fb54f0898194c29d3b5b95be51140a487b82"), looks := false }, kinds := [], alts := [], laidByText := true, laidKinds := [.data, .data, .data], laidTests := true, laidLooks := .later }
def KeyOfUptoCardSaid : Prop := Claim7.holds Tryd.pinned (.plain (OpenSpec.upto keyOfSpec)) keyOfUptoCard

/-- THE SECOND FORM's CARD OF 'pantomimelaw24.KeyTells'. -/
def keyTellsUptoCard : Claim7 := { stood := { row := keyTellsUptoRow, standIns := [], harness := (true, "c5ecffb0f2aeea0c02d8fcd69c53fb54f0898194c29d3b5b95be51140a487b82"), looks := false }, kinds := [], alts := [], laidByText := true, laidKinds := [.data, .data, .data], laidTests := true, laidLooks := .later }
def KeyTellsUptoCardSaid : Prop := Claim7.holds Tryd.pinned (.plain (OpenSpec.upto keyTellsSpec)) keyTellsUptoCard

/-- THE SECOND FORM's CARD OF 'pantomimelaw24.KeyOrder'. -/
def keyOrderUptoCard : Claim7 := { stood := { row := keyOrderUptoRow, standIns := [], harness := (true, "c5ecffb0f2aeea0c02d8fcd69c53fb54f0898194c29d3b5b95be51140a487b82"), looks := false }, kinds := [], alts := [], laidByText := true, laidKinds := [.data, .data, .data], laidTests := true, laidLooks := .later }
def KeyOrderUptoCardSaid : Prop := Claim7.holds Tryd.pinned (.plain (OpenSpec.upto keyOrderSpec)) keyOrderUptoCard

/-- THE SECOND FORM's CARD OF 'pantomimelaw24.KeyMerges'. -/
def keyMergesUptoCard : Claim7 := { stood := { row := keyMergesUptoRow, standIns := [], harness := (true, "c5ecffb0f2aeea0c02d8fcd69c53fb54f0898194c29d3b5b95be51140a487b82"), looks := false }, kinds := [], alts := [], laidByText := true, laidKinds := [.data, .data, .data], laidTests := true, laidLooks := .later }
def KeyMergesUptoCardSaid : Prop := Claim7.holds Tryd.pinned (.plain (OpenSpec.upto keyMergesSpec)) keyMergesUptoCard
end Rows
end Go.Proofs.YtaebjgjocldldaaDoor
