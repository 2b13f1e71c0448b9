/-
  DERIVED. GIVEN WITH THE SEED: THE CARDS: each row of YthcmecokejemcaaGreatDoorRows.lean that lists a variable, with what it lists TIED to the program's text (the seventh form; the later family's looks); each row that meets fmt, with fmt's text TOLD by the authors' own Lean function (tested against real Go, not proved from fmt's source: count such statements apart). THE CARD IS WHAT COUNTS. Prove the row's statement (the work); the ties are given (YthcmecokejemcaaGreatDoorTie.lean); close each card by the builder's one call (the guide's Derived/Test/ToyasCard.lean, 'card_holds'). Laid BY PROGRAM, IN A SANDBOX (cutbox-door.mjs). By AI agents, Wed Nov 11 2026. No macro, syntax, notation, axiom, sorry.
-/
import Derived.Test.YthcmecokejemcaaGreatDoorRows
import GoSem.ClaimSeven
namespace Go.Proofs.YthcmecokejemcaaGreatDoor
namespace Rows

/-- THE TIED CARD OF 'loftlaw16.BtreeNone'. -/
def btreeNoneCard : Claim7 := { stood := { row := btreeNoneRow, standIns := [], harness := (true, "b922f4aa5544bce0199382da36be9b606b109214fd62079d9227ce5f911580c7"), looks := false }, kinds := [], alts := [], laidByText := true, laidKinds := [.data], laidTests := true, laidLooks := .later }
def BtreeNoneCardSaid : Prop := Claim7.holds Tryz.pinned (.plain (OpenSpec.ofChange btreeNoneSpec)) btreeNoneCard

/-- THE TIED CARD OF 'loftlaw16.BtreeWrong'. -/
def btreeWrongCard : Claim7 := { stood := { row := btreeWrongRow, standIns := [], harness := (true, "b922f4aa5544bce0199382da36be9b606b109214fd62079d9227ce5f911580c7"), looks := false }, kinds := [], alts := [], laidByText := true, laidKinds := [.data], laidTests := true, laidLooks := .later }
def BtreeWrongCardSaid : Prop := Claim7.holds Tryz.pinned (.plain (OpenSpec.ofChange btreeWrongSpec)) btreeWrongCard

/-- THE SECOND FORM's CARD OF 'loftlaw16.BtreeNone'. -/
def btreeNoneUptoCard : Claim7 := { stood := { row := btreeNoneUptoRow, standIns := [], harness := (true, "b922f4aa5544bce0199382da36be9b606b109214fd62079d9227ce5f911580c7"), looks := false }, kinds := [], alts := [], laidByText := true, laidKinds := [.data], laidTests := true, laidLooks := .later }
def BtreeNoneUptoCardSaid : Prop := Claim7.holds Tryz.pinned (.plain (OpenSpec.upto btreeNoneSpec)) btreeNoneUptoCard

/-- THE SECOND FORM's CARD OF 'loftlaw16.BtreeWrong'. -/
def btreeWrongUptoCard : Claim7 := { stood := { row := btreeWrongUptoRow, standIns := [], harness := (true, "b922f4aa5544bce0199382da36be9b606b109214fd62079d9227ce5f911580c7"), looks := false }, kinds := [], alts := [], laidByText := true, laidKinds := [.data], laidTests := true, laidLooks := .later }
def BtreeWrongUptoCardSaid : Prop := Claim7.holds Tryz.pinned (.plain (OpenSpec.upto btreeWrongSpec)) btreeWrongUptoCard
end Rows
end Go.Proofs.YthcmecokejemcaaGreatDoor
