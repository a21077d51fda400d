/-
  DERIVED. GIVEN WITH THE SEED: THE CARDS: each row of YtiagegecnopfgaaDoorRows.lean that lists a variable, with what it lists TIED to the program's text (the seventh form; the later family's looks); each row that meets fmt, with fmt's text TOLD by the authors' own Lean function (tested against real Go, not proved from fmt's source: count such statements apart). THE CARD IS WHAT COUNTS. Prove the row's statement (the work); the ties are given (YtiagegecnopfgaaDoorTie.lean); close each card by the builder's one call (the guide's Derived/Test/ToyasCard.lean, 'card_holds'). Laid BY PROGRAM, IN A SANDBOX (cutbox-door.mjs). By AI agents, Wed Nov 11 2026. No macro, syntax, notation, axiom, sorry.
-/
import Derived.Test.YtiagegecnopfgaaDoorRows
import GoSem.ClaimSeven
namespace Go.Proofs.YtiagegecnopfgaaDoor
namespace Rows

/-- THE TIED CARD OF 'pantomimelaw12.PatternSteps'. -/
def patternStepsCard : Claim7 := { stood := { row := patternStepsRow, standIns := [], harness := (true, "843ee049da0c44d0a629150d105929f1e38bf10877ee35161d860f99f6f911f4"), looks := false }, kinds := [], alts := [], laidByText := true, laidKinds := [.data, .data, .data], laidTests := true, laidLooks := .later }
def PatternStepsCardSaid : Prop := Claim7.holds Tryd.pinned (.plain (OpenSpec.ofChange patternStepsSpec)) patternStepsCard

/-- THE TIED CARD OF 'pantomimelaw12.PatternOrder'. -/
def patternOrderCard : Claim7 := { stood := { row := patternOrderRow, standIns := [], harness := (true, "843ee049da0c44d0a629150d105929f1e38bf10877ee35161d860f99f6f911f4"), looks := false }, kinds := [], alts := [], laidByText := true, laidKinds := [.data, .data, .data], laidTests := true, laidLooks := .later }
def PatternOrderCardSaid : Prop := Claim7.holds Tryd.pinned (.plain (OpenSpec.ofChange patternOrderSpec)) patternOrderCard

/-- THE TIED CARD OF 'pantomimelaw12.PatternPair'. -/
def patternPairCard : Claim7 := { stood := { row := patternPairRow, standIns := [], harness := (true, "843ee049da0c44d0a629150d105929f1e38bf10877ee35161d860f99f6f911f4"), looks := false }, kinds := [], alts := [], laidByText := true, laidKinds := [.data, .data, .data], laidTests := true, laidLooks := .later }
def PatternPairCardSaid : Prop := Claim7.holds Tryd.pinned (.plain (OpenSpec.ofChange patternPairSpec)) patternPairCard

/-- THE TIED CARD OF 'pantomimelaw12.PatternDefaults'. -/
def patternDefaultsCard : Claim7 := { stood := { row := patternDefaultsRow, standIns := [], harness := (true, "843ee049da0c44d0a629150d105929f1e38bf10877ee35161d860f99f6f911f4"), looks := false }, kinds := [], alts := [], laidByText := true, laidKinds := [.data, .data, .data], laidTests := true, laidLooks := .later }
def PatternDefaultsCardSaid : Prop := Claim7.holds Tryd.pinned (.plain (OpenSpec.ofChange patternDefaultsSpec)) patternDefaultsCard

/-- THE SECOND FORM's CARD OF 'pantomimelaw12.PatternSteps'. -/
def patternStepsUptoCard : Claim7 := { stood := { row := patternStepsUptoRow, standIns := [], harness := (true, "843ee049da0c44d0a629150d105929f1e38bf10877ee35161d860f99f6f911f4"), looks := false }, kinds := [], alts := [], laidByText := true, laidKinds := [.data, .data, .data], laidTests := true, laidLooks := .later }
def PatternStepsUptoCardSaid : Prop := Claim7.holds Tryd.pinned (.plain (OpenSpec.upto patternStepsSpec)) patternStepsUptoCard

/-- THE SECOND FORM's CARD OF 'pantomimelaw12.PatternOrder'. -/
def patternOrderUptoCard : Claim7 := { stood := { row := patternOrderUptoRow, standIns := [], harness := (true, "843ee049da0c44d0a629150d105929f1e38bf10877ee35161d860f99f6f911f4"), looks := false }, kinds := [], alts := [], laidByText := true, laidKinds := [.data, .data, .data], laidTests := true, laidLooks := .later }
def PatternOrderUptoCardSaid : Prop := Claim7.holds Tryd.pinned (.plain (OpenSpec.upto patternOrderSpec)) patternOrderUptoCard

/-- THE SECOND FORM's CARD OF 'pantomimelaw12.PatternPair'. -/
def patternPairUptoCard : Claim7 := { stood := { row := patternPairUptoRow, standIns := [], harness := (true, "843ee049da0c44d0a629150d105929f1e38bf10877ee35161d860f99f6f911f4"), looks := false }, kinds := [], alts := [], laidByText := true, laidKinds := [.data, .data, .data], laidTests := true, laidLooks := .later }
def PatternPairUptoCardSaid : Prop := Claim7.holds Tryd.pinned (.plain (OpenSpec.upto patternPairSpec)) patternPairUptoCard

/-- THE SECOND FORM's CARD OF 'pantomimelaw12.PatternDefaults'. -/
def patternDefaultsUptoCard : Claim7 := { stood := { row := patternDefaultsUptoRow, standIns := [], harness := (true, "843ee049da0c44d0a629150d105929f1e38bf10877ee35161d860f99f6f911f4"), looks := false }, kinds := [], alts := [], laidByText := true, laidKinds := [.data, .data, .data], laidTests := true, laidLooks := .later }
def PatternDefaultsUptoCardSaid : Prop := Claim7.holds Tryd.pinned (.plain (OpenSpec.upto patternDefaultsSpec)) patternDefaultsUptoCard
end Rows
end Go.Proofs.YtiagegecnopfgaaDoor
