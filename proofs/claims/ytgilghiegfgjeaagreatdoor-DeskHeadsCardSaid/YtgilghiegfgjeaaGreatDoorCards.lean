/-
  DERIVED. GIVEN WITH THE SEED: THE CARDS: each row of YtgilghiegfgjeaaGreatDoorRows.lean that lists a variable, with what it lists TIED to the program's text (the seventh form; the later family's looks); each row that meets fmt, with fmt's text TOLD by the authors' own Lean function (tested against real Go, not proved from fmt's source: count such statements apart). THE CARD IS WHAT COUNTS. Prove the row's statement (the work); the ties are given (YtgilghiegfgjeaaGreatDoorTie.lean); close each card by the builder's one call (the guide's Derived/Test/ToyasCard.lean, 'card_holds'). Laid BY PROGRAM, IN A SANDBOX (cutbox-door.mjs). By AI agents, Wed Nov 11 2026. No macro, syntax, notation, axiom, sorry.
-/
import Derived.Test.YtgilghiegfgjeaaGreatDoorRows
import GoSem.ClaimSeven
namespace Go.Proofs.YtgilghiegfgjeaaGreatDoor
namespace Rows

/-- THE TIED CARD OF 'kissgatelaw48.DeskMany'. -/
def deskManyCard : Claim7 := { stood := { row := deskManyRow, standIns := [], harness := (true, "1f91a4d4227fb9fd6aa9741336fdd80f66366aa5b154140522b2bac420c0493a"), looks := false }, kinds := [], alts := [], laidByText := true, laidKinds := [.data, .pinned], laidTests := true, laidLooks := .later }
def DeskManyCardSaid : Prop := Claim7.holds Tryz.pinned (.plain (OpenSpec.ofChange deskManySpec)) deskManyCard

/-- THE TIED CARD OF 'kissgatelaw48.DeskHeads'. -/
def deskHeadsCard : Claim7 := { stood := { row := deskHeadsRow, standIns := [], harness := (true, "1f91a4d4227fb9fd6aa9741336fdd80f66366aa5b154140522b2bac420c0493a"), looks := false }, kinds := [], alts := [], laidByText := true, laidKinds := [.data, .pinned], laidTests := true, laidLooks := .later }
def DeskHeadsCardSaid : Prop := Claim7.holds Tryz.pinned (.plain (OpenSpec.ofChange deskHeadsSpec)) deskHeadsCard

/-- THE SECOND FORM's CARD OF 'kissgatelaw48.DeskMany'. -/
def deskManyUptoCard : Claim7 := { stood := { row := deskManyUptoRow, standIns := [], harness := (true, "1f91a4d4227fb9fd6aa9741336fdd80f66366aa5b154140522b2bac420c0493a"), looks := false }, kinds := [], alts := [], laidByText := true, laidKinds := [.data, .pinned], laidTests := true, laidLooks := .later }
def DeskManyUptoCardSaid : Prop := Claim7.holds Tryz.pinned (.plain (OpenSpec.upto deskManySpec)) deskManyUptoCard

/-- THE SECOND FORM's CARD OF 'kissgatelaw48.DeskHeads'. -/
def deskHeadsUptoCard : Claim7 := { stood := { row := deskHeadsUptoRow, standIns := [], harness := (true, "1f91a4d4227fb9fd6aa9741336fdd80f66366aa5b154140522b2bac420c0493a"), looks := false }, kinds := [], alts := [], laidByText := true, laidKinds := [.data, .pinned], laidTests := true, laidLooks := .later }
def DeskHeadsUptoCardSaid : Prop := Claim7.holds Tryz.pinned (.plain (OpenSpec.upto deskHeadsSpec)) deskHeadsUptoCard
end Rows
end Go.Proofs.YtgilghiegfgjeaaGreatDoor
