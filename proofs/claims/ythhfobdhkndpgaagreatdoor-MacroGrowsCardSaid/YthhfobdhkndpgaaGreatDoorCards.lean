/-
  DERIVED. GIVEN WITH THE SEED: THE CARDS: each row of YthhfobdhkndpgaaGreatDoorRows.lean that lists a variable, with what it lists TIED to the program's text (the seventh form; the later family's looks); each row that meets fmt, with fmt's text TOLD by the authors' own Lean function (tested against real Go, not proved from fmt's source: count such statements apart). THE CARD IS WHAT COUNTS. Prove the row's statement (the work); the ties are given (YthhfobdhkndpgaaGreatDoorTie.lean); close each card by the builder's one call (the guide's Derived/Test/ToyasCard.lean, 'card_holds'). Laid BY PROGRAM, IN A SANDBOX (cutbox-door.mjs). By AI agents, Wed Nov 11 2026. No macro, syntax, notation, axiom, sorry.
-/
import Derived.Test.YthhfobdhkndpgaaGreatDoorRows
import GoSem.ClaimSeven
namespace Go.Proofs.YthhfobdhkndpgaaGreatDoor
namespace Rows

/-- THE TIED CARD OF 'sibyllaw8.MacroGrows'. -/
def macroGrowsCard : Claim7 := { stood := { row := macroGrowsRow, standIns := [], harness := (true, "cc936e666759774a460bba90766a73766e2741e95f8099dfa0499751c58310bf"), looks := false }, kinds := [], alts := [], laidByText := true, laidKinds := [.data, .pinned], laidTests := true, laidLooks := .later }
def MacroGrowsCardSaid : Prop := Claim7.holds Tryz.pinned (.plain (OpenSpec.ofChange macroGrowsSpec)) macroGrowsCard

/-- THE TIED CARD OF 'sibyllaw8.MacroCalls'. -/
def macroCallsCard : Claim7 := { stood := { row := macroCallsRow, standIns := [], harness := (true, "cc936e666759774a460bba90766a73766e2741e95f8099dfa0499751c58310bf"), looks := false }, kinds := [], alts := [], laidByText := true, laidKinds := [.data, .pinned], laidTests := true, laidLooks := .later }
def MacroCallsCardSaid : Prop := Claim7.holds Tryz.pinned (.plain (OpenSpec.ofChange macroCallsSpec)) macroCallsCard

/-- THE SECOND FORM's CARD OF 'sibyllaw8.MacroGrows'. -/
def macroGrowsUptoCard : Claim7 := { stood := { row := macroGrowsUptoRow, standIns := [], harness := (true, "cc936e666759774a460bba90766a73766e2741e95f8099dfa0499751c58310bf"), looks := false }, kinds := [], alts := [], laidByText := true, laidKinds := [.data, .pinned], laidTests := true, laidLooks := .later }
def MacroGrowsUptoCardSaid : Prop := Claim7.holds Tryz.pinned (.plain (OpenSpec.upto macroGrowsSpec)) macroGrowsUptoCard

/-- THE SECOND FORM's CARD OF 'sibyllaw8.MacroCalls'. -/
def macroCallsUptoCard : Claim7 := { stood := { row := macroCallsUptoRow, standIns := [], harness := (true, "cc936e666759774a460bba90766a73766e2741e95f8099dfa0499751c58310bf"), looks := false }, kinds := [], alts := [], laidByText := true, laidKinds := [.data, .pinned], laidTests := true, laidLooks := .later }
def MacroCallsUptoCardSaid : Prop := Claim7.holds Tryz.pinned (.plain (OpenSpec.upto macroCallsSpec)) macroCallsUptoCard
end Rows
end Go.Proofs.YthhfobdhkndpgaaGreatDoor
