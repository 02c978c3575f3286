/-
  DERIVED. GIVEN WITH THE SEED: THE CARDS: each row of YtdljflabokhedaaDoorRows.lean that lists a variable, with what it lists TIED to the program's text (the seventh form; the later family's looks); each row that meets fmt, with fmt's text TOLD by the authors' own Lean function (tested against real Go, not proved from fmt's source: count such statements apart). THE CARD IS WHAT COUNTS. Prove the row's statement (the work); the ties are given (YtdljflabokhedaaDoorTie.lean); close each card by the builder's one call (the guide's Derived/Test/ToyasCard.lean, 'card_holds'). Laid BY PROGRAM, IN A SANDBOX (cutbox-door.mjs). By AI agents, Wed Nov 11 2026. No macro, syntax, notation, axiom, sorry.
-/
import Derived.Test.YtdljflabokhedaaDoorRows
import GoSem.ClaimSeven
namespace Go.Proofs.YtdljflabokhedaaDoor
namespace Rows

/-- THE TIED CARD OF 'reedkeep.TextFront'. -/
def textFrontCard : Claim7 := { stood := { row := textFrontRow, standIns := [], harness := (true, "78eb05da5ea7c0844f85ba3f8cee477199bce70716beb02db0949644dbd909d0"), looks := true }, kinds := [], alts := [], laidByText := true, laidKinds := [.data, .data, .data, .sentinel, .sentinel], laidTests := true, laidLooks := .later }
def TextFrontCardSaid : Prop := Claim7.holds Tryd.pinned (.plain (OpenSpec.ofChange textFrontSpec)) textFrontCard

/-- THE TIED CARD OF 'reedkeep.TextBoth'. -/
def textBothCard : Claim7 := { stood := { row := textBothRow, standIns := [], harness := (true, "78eb05da5ea7c0844f85ba3f8cee477199bce70716beb02db0949644dbd909d0"), looks := true }, kinds := [], alts := [], laidByText := true, laidKinds := [.data, .data, .data, .sentinel, .sentinel], laidTests := true, laidLooks := .later }
def TextBothCardSaid : Prop := Claim7.holds Tryd.pinned (.plain (OpenSpec.ofChange textBothSpec)) textBothCard

/-- THE TIED CARD OF 'reedkeep.TextBack'. -/
def textBackCard : Claim7 := { stood := { row := textBackRow, standIns := [], harness := (true, "78eb05da5ea7c0844f85ba3f8cee477199bce70716beb02db0949644dbd909d0"), looks := true }, kinds := [], alts := [], laidByText := true, laidKinds := [.data, .data, .data, .sentinel, .sentinel], laidTests := true, laidLooks := .later }
def TextBackCardSaid : Prop := Claim7.holds Tryd.pinned (.plain (OpenSpec.ofChange textBackSpec)) textBackCard

/-- THE SECOND FORM's CARD OF 'reedkeep.TextFront'. -/
def textFrontUptoCard : Claim7 := { stood := { row := textFrontUptoRow, standIns := [], harness := (true, "78eb05da5ea7c0844f85ba3f8cee477199bce70716beb02db0949644dbd909d0"), looks := true }, kinds := [], alts := [], laidByText := true, laidKinds := [.data, .data, .data, .sentinel, .sentinel], laidTests := true, laidLooks := .later }
def TextFrontUptoCardSaid : Prop := Claim7.holds Tryd.pinned (.plain (OpenSpec.upto textFrontSpec)) textFrontUptoCard

/-- THE SECOND FORM's CARD OF 'reedkeep.TextBoth'. -/
def textBothUptoCard : Claim7 := { stood := { row := textBothUptoRow, standIns := [], harness := (true, "78eb05da5ea7c0844f85ba3f8cee477199bce70716beb02db0949644dbd909d0"), looks := true }, kinds := [], alts := [], laidByText := true, laidKinds := [.data, .data, .data, .sentinel, .sentinel], laidTests := true, laidLooks := .later }
def TextBothUptoCardSaid : Prop := Claim7.holds Tryd.pinned (.plain (OpenSpec.upto textBothSpec)) textBothUptoCard

/-- THE SECOND FORM's CARD OF 'reedkeep.TextBack'. -/
def textBackUptoCard : Claim7 := { stood := { row := textBackUptoRow, standIns := [], harness := (true, "78eb05da5ea7c0844f85ba3f8cee477199bce70716beb02db0949644dbd909d0"), looks := true }, kinds := [], alts := [], laidByText := true, laidKinds := [.data, .data, .data, .sentinel, .sentinel], laidTests := true, laidLooks := .later }
def TextBackUptoCardSaid : Prop := Claim7.holds Tryd.pinned (.plain (OpenSpec.upto textBackSpec)) textBackUptoCard
end Rows
end Go.Proofs.YtdljflabokhedaaDoor
