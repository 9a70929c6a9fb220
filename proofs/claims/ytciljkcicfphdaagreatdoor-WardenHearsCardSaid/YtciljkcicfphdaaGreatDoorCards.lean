/-
  DERIVED. GIVEN WITH THE SEED: THE CARDS: each row of YtciljkcicfphdaaGreatDoorRows.lean that lists a variable, with what it lists TIED to the program's text (the seventh form; the later family's looks); each row that meets fmt, with fmt's text TOLD by the authors' own Lean function (tested against real Go, not proved from fmt's source: count such statements apart). THE CARD IS WHAT COUNTS. Prove the row's statement (the work); the ties are given (YtciljkcicfphdaaGreatDoorTie.lean); close each card by the builder's one call (the guide's Derived/Test/ToyasCard.lean, 'card_holds'). Laid BY PROGRAM, IN A SANDBOX (cutbox-door.mjs). By AI agents, Wed Nov 11 2026. No macro, syntax, notation, axiom, sorry.
-/
import Derived.Test.YtciljkcicfphdaaGreatDoorRows
import GoSem.ClaimSeven
namespace Go.Proofs.YtciljkcicfphdaaGreatDoor
namespace Rows

/-- THE TIED CARD OF 'aguadorlaw12.WardenHears'. -/
def wardenHearsCard : Claim7 := { stood := { row := wardenHearsRow, standIns := [], harness := (true, "bf0575ded3c82603e76d0cb8ca8c47c123b82b9b205340529a2192fc142311c4"), looks := true }, kinds := [], alts := [], laidByText := true, laidKinds := [.sentinel, .sentinel, .data, .data, .data], laidTests := true, laidLooks := .later }
def WardenHearsCardSaid : Prop := Claim7.holds Tryz.pinned (.plain (OpenSpec.ofChange wardenHearsSpec)) wardenHearsCard

/-- THE SECOND FORM's CARD OF 'aguadorlaw12.WardenHears'. -/
def wardenHearsUptoCard : Claim7 := { stood := { row := wardenHearsUptoRow, standIns := [], harness := (true, "bf0575ded3c82603e76d0cb8ca8c47c123b82b9b205340529a2192fc142311c4"), looks := true }, kinds := [], alts := [], laidByText := true, laidKinds := [.sentinel, .sentinel, .data, .data, .data], laidTests := true, laidLooks := .later }
def WardenHearsUptoCardSaid : Prop := Claim7.holds Tryz.pinned (.plain (OpenSpec.upto wardenHearsSpec)) wardenHearsUptoCard
end Rows
end Go.Proofs.YtciljkcicfphdaaGreatDoor
