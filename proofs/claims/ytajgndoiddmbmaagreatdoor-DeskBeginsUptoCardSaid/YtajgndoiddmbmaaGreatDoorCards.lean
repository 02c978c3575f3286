/-
  DERIVED. GIVEN WITH THE SEED: THE CARDS: each row of YtajgndoiddmbmaaGreatDoorRows.lean that lists a variable, with what it lists TIED to the program's text (the seventh form; the later family's looks); each row that meets fmt, with fmt's text TOLD by the authors' own Lean function (tested against real Go, not proved from fmt's source: count such statements apart). THE CARD IS WHAT COUNTS. Prove the row's statement (the work); the ties are given (YtajgndoiddmbmaaGreatDoorTie.lean); close each card by the builder's one call (the guide's Derived/Test/ToyasCard.lean, 'card_holds'). Laid BY PROGRAM, IN A SANDBOX (cutbox-door.mjs). By AI agents, Wed Nov 11 2026. No macro, syntax, notation, axiom, sorry.
-/
import Derived.Test.YtajgndoiddmbmaaGreatDoorRows
import GoSem.ClaimSeven
namespace Go.Proofs.YtajgndoiddmbmaaGreatDoor
namespace Rows

/-- THE TIED CARD OF 'reedkeep.DeskShow'. -/
def deskShowCard : Claim7 := { stood := { row := deskShowRow, standIns := [], harness := (true, "aa9b9ac25a4db324acd3488f6d0aada1f7b9ae82fa8fa321b78ca9d5feb2b5f8"), looks := true }, kinds := [], alts := [], laidByText := true, laidKinds := [.data, .data, .data, .data, .sentinel, .sentinel, .pinned], laidTests := true, laidLooks := .later }
def DeskShowCardSaid : Prop := Claim7.holds Tryz.pinned (.plain (OpenSpec.ofChange deskShowSpec)) deskShowCard

/-- THE TIED CARD OF 'reedkeep.DeskLines'. -/
def deskLinesCard : Claim7 := { stood := { row := deskLinesRow, standIns := [], harness := (true, "aa9b9ac25a4db324acd3488f6d0aada1f7b9ae82fa8fa321b78ca9d5feb2b5f8"), looks := true }, kinds := [], alts := [], laidByText := true, laidKinds := [.data, .data, .data, .data, .sentinel, .sentinel, .pinned], laidTests := true, laidLooks := .later }
def DeskLinesCardSaid : Prop := Claim7.holds Tryz.pinned (.plain (OpenSpec.ofChange deskLinesSpec)) deskLinesCard

/-- THE TIED CARD OF 'reedkeep.DeskBegins'. -/
def deskBeginsCard : Claim7 := { stood := { row := deskBeginsRow, standIns := [], harness := (true, "aa9b9ac25a4db324acd3488f6d0aada1f7b9ae82fa8fa321b78ca9d5feb2b5f8"), looks := true }, kinds := [], alts := [], laidByText := true, laidKinds := [.data, .data, .data, .data, .sentinel, .sentinel, .pinned], laidTests := true, laidLooks := .later }
def DeskBeginsCardSaid : Prop := Claim7.holds Tryz.pinned (.plain (OpenSpec.ofChange deskBeginsSpec)) deskBeginsCard

/-- THE SECOND FORM's CARD OF 'reedkeep.DeskShow'. -/
def deskShowUptoCard : Claim7 := { stood := { row := deskShowUptoRow, standIns := [], harness := (true, "aa9b9ac25a4db324acd3488f6d0aada1f7b9ae82fa8fa321b78ca9d5feb2b5f8"), looks := true }, kinds := [], alts := [], laidByText := true, laidKinds := [.data, .data, .data, .data, .sentinel, .sentinel, .pinned], laidTests := true, laidLooks := .later }
def DeskShowUptoCardSaid : Prop := Claim7.holds Tryz.pinned (.plain (OpenSpec.upto deskShowSpec)) deskShowUptoCard

/-- THE SECOND FORM's CARD OF 'reedkeep.DeskLines'. -/
def deskLinesUptoCard : Claim7 := { stood := { row := deskLinesUptoRow, standIns := [], harness := (true, "aa9b9ac25a4db324acd3488f6d0aada1f7b9ae82fa8fa321b78ca9d5feb2b5f8"), looks := true }, kinds := [], alts := [], laidByText := true, laidKinds := [.data, .data, .data, .data, .sentinel, .sentinel, .pinned], laidTests := true, laidLooks := .later }
def DeskLinesUptoCardSaid : Prop := Claim7.holds Tryz.pinned (.plain (OpenSpec.upto deskLinesSpec)) deskLinesUptoCard

/-- THE SECOND FORM's CARD OF 'reedkeep.DeskBegins'. -/
def deskBeginsUptoCard : Claim7 := { stood := { row := deskBeginsUptoRow, standIns := [], harness := (true, "aa9b9ac25a4db324acd3488f6d0aada1f7b9ae82fa8fa321b78ca9d5feb2b5f8"), looks := true }, kinds := [], alts := [], laidByText := true, laidKinds := [.data, .data, .data, .data, .sentinel, .sentinel, .pinned], laidTests := true, laidLooks := .later }
def DeskBeginsUptoCardSaid : Prop := Claim7.holds Tryz.pinned (.plain (OpenSpec.upto deskBeginsSpec)) deskBeginsUptoCard
end Rows
end Go.Proofs.YtajgndoiddmbmaaGreatDoor
