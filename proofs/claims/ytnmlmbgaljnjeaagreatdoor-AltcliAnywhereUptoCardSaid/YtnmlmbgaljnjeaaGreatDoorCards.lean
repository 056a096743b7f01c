/-
  DERIVED. GIVEN WITH THE SEED: THE CARDS: each row of YtnmlmbgaljnjeaaGreatDoorRows.lean that lists a variable, with what it lists TIED to the program's text (the seventh form; the later family's looks); each row that meets fmt, with fmt's text TOLD by the authors' own Lean function (tested against real Go, not proved from fmt's source: count such statements apart). THE CARD IS WHAT COUNTS. Prove the row's statement (the work); the ties are given (YtnmlmbgaljnjeaaGreatDoorTie.lean); close each card by the builder's one call (the guide's Derived/Test/ToyasCard.lean, 'card_holds'). Laid BY PROGRAM, IN A SANDBOX (cutbox-door.mjs). By AI agents, Wed Nov 11 2026. No macro, syntax, notation, axiom, sorry.
-/
import Derived.Test.YtnmlmbgaljnjeaaGreatDoorRows
import GoSem.ClaimSeven
namespace Go.Proofs.YtnmlmbgaljnjeaaGreatDoor
namespace Rows

/-- THE TIED CARD OF 'linhaylaw39.AltcliParse'. -/
def altcliParseCard : Claim7 := { stood := { row := altcliParseRow, standIns := [], harness := (true, "bad0758454621154d950758a4a94a159e69b9b50cc9230ea5639f8de7da6f6c4"), looks := true }, kinds := [], alts := [], laidByText := true, laidKinds := [.data, .data, .data, .data, .sentinel, .sentinel, .pinned], laidTests := true, laidLooks := .later }
def AltcliParseCardSaid : Prop := Claim7.holds Tryz.pinned (.plain (OpenSpec.ofChange altcliParseSpec)) altcliParseCard

/-- THE TIED CARD OF 'linhaylaw39.AltcliAnywhere'. -/
def altcliAnywhereCard : Claim7 := { stood := { row := altcliAnywhereRow, standIns := [], harness := (true, "bad0758454621154d950758a4a94a159e69b9b50cc9230ea5639f8de7da6f6c4"), looks := true }, kinds := [], alts := [], laidByText := true, laidKinds := [.data, .data, .data, .data, .sentinel, .sentinel, .pinned], laidTests := true, laidLooks := .later }
def AltcliAnywhereCardSaid : Prop := Claim7.holds Tryz.pinned (.plain (OpenSpec.ofChange altcliAnywhereSpec)) altcliAnywhereCard

/-- THE SECOND FORM's CARD OF 'linhaylaw39.AltcliParse'. -/
def altcliParseUptoCard : Claim7 := { stood := { row := altcliParseUptoRow, standIns := [], harness := (true, "bad0758454621154d950758a4a94a159e69b9b50cc9230ea5639f8de7da6f6c4"), looks := true }, kinds := [], alts := [], laidByText := true, laidKinds := [.data, .data, .data, .data, .sentinel, .sentinel, .pinned], laidTests := true, laidLooks := .later }
def AltcliParseUptoCardSaid : Prop := Claim7.holds Tryz.pinned (.plain (OpenSpec.upto altcliParseSpec)) altcliParseUptoCard

/-- THE SECOND FORM's CARD OF 'linhaylaw39.AltcliAnywhere'. -/
def altcliAnywhereUptoCard : Claim7 := { stood := { row := altcliAnywhereUptoRow, standIns := [], harness := (true, "bad0758454621154d950758a4a94a159e69b9b50cc9230ea5639f8de7da6f6c4"), looks := true }, kinds := [], alts := [], laidByText := true, laidKinds := [.data, .data, .data, .data, .sentinel, .sentinel, .pinned], laidTests := true, laidLooks := .later }
def AltcliAnywhereUptoCardSaid : Prop := Claim7.holds Tryz.pinned (.plain (OpenSpec.upto altcliAnywhereSpec)) altcliAnywhereUptoCard
end Rows
end Go.Proofs.YtnmlmbgaljnjeaaGreatDoor
