/-
  DERIVED. GIVEN WITH THE SEED: THE CARDS: each row of YtoifdmbffaaffaaGreatDoorRows.lean that lists a variable, with what it lists TIED to the program's text (the seventh form; the later family's looks); each row that meets fmt, with fmt's text TOLD by the authors' own Lean function (tested against real Go, not proved from fmt's source: count such statements apart). THE CARD IS WHAT COUNTS. Prove the row's statement (the work); the ties are given (YtoifdmbffaaffaaGreatDoorTie.lean); close each card by the builder's one call (the guide's Derived/Test/ToyasCard.lean, 'card_holds'). Laid BY PROGRAM, IN A SANDBOX (cutbox-door.mjs). By AI agents, Wed Nov 11 2026. No macro, syntax, notation, axiom, sorry.
-/
import Derived.Test.YtoifdmbffaaffaaGreatDoorRows
import GoSem.ClaimSeven
namespace Go.Proofs.YtoifdmbffaaffaaGreatDoor
namespace Rows

/-- THE TIED CARD OF 'loftlaw12.AvlNone'. -/
def avlNoneCard : Claim7 := { stood := { row := avlNoneRow, standIns := [], harness := (true, "ed8192bfa6475631690853d1664703e78e7b5a3f0650ad9d91e13289456278b1"), looks := false }, kinds := [], alts := [], laidByText := true, laidKinds := [.data], laidTests := true, laidLooks := .later }
def AvlNoneCardSaid : Prop := Claim7.holds Tryz.pinned (.plain (OpenSpec.ofChange avlNoneSpec)) avlNoneCard

/-- THE TIED CARD OF 'loftlaw12.AvlHeight'. -/
def avlHeightCard : Claim7 := { stood := { row := avlHeightRow, standIns := [], harness := (true, "ed8192bfa6475631690853d1664703e78e7b5a3f0650ad9d91e13289456278b1"), looks := false }, kinds := [], alts := [], laidByText := true, laidKinds := [.data], laidTests := true, laidLooks := .later }
def AvlHeightCardSaid : Prop := Claim7.holds Tryz.pinned (.plain (OpenSpec.ofChange avlHeightSpec)) avlHeightCard

/-- THE TIED CARD OF 'loftlaw13.RedHigh'. -/
def redHighCard : Claim7 := { stood := { row := redHighRow, standIns := [], harness := (true, "ed8192bfa6475631690853d1664703e78e7b5a3f0650ad9d91e13289456278b1"), looks := false }, kinds := [], alts := [], laidByText := true, laidKinds := [.data], laidTests := true, laidLooks := .later }
def RedHighCardSaid : Prop := Claim7.holds Tryz.pinned (.plain (OpenSpec.ofChange redHighSpec)) redHighCard

/-- THE TIED CARD OF 'loftlaw13.RedNone'. -/
def redNoneCard : Claim7 := { stood := { row := redNoneRow, standIns := [], harness := (true, "ed8192bfa6475631690853d1664703e78e7b5a3f0650ad9d91e13289456278b1"), looks := false }, kinds := [], alts := [], laidByText := true, laidKinds := [.data], laidTests := true, laidLooks := .later }
def RedNoneCardSaid : Prop := Claim7.holds Tryz.pinned (.plain (OpenSpec.ofChange redNoneSpec)) redNoneCard

/-- THE TIED CARD OF 'loftlaw13.RedWays'. -/
def redWaysCard : Claim7 := { stood := { row := redWaysRow, standIns := [], harness := (true, "ed8192bfa6475631690853d1664703e78e7b5a3f0650ad9d91e13289456278b1"), looks := false }, kinds := [], alts := [], laidByText := true, laidKinds := [.data], laidTests := true, laidLooks := .later }
def RedWaysCardSaid : Prop := Claim7.holds Tryz.pinned (.plain (OpenSpec.ofChange redWaysSpec)) redWaysCard

/-- THE TIED CARD OF 'loftlaw12.AvlJoins'. -/
def avlJoinsCard : Claim7 := { stood := { row := avlJoinsRow, standIns := [], harness := (true, "ed8192bfa6475631690853d1664703e78e7b5a3f0650ad9d91e13289456278b1"), looks := false }, kinds := [], alts := [], laidByText := true, laidKinds := [.data], laidTests := true, laidLooks := .later }
def AvlJoinsCardSaid : Prop := Claim7.holds Tryz.pinned (.plain (OpenSpec.ofChange avlJoinsSpec)) avlJoinsCard

/-- THE TIED CARD OF 'loftlaw12.AvlWrong'. -/
def avlWrongCard : Claim7 := { stood := { row := avlWrongRow, standIns := [], harness := (true, "ed8192bfa6475631690853d1664703e78e7b5a3f0650ad9d91e13289456278b1"), looks := false }, kinds := [], alts := [], laidByText := true, laidKinds := [.data], laidTests := true, laidLooks := .later }
def AvlWrongCardSaid : Prop := Claim7.holds Tryz.pinned (.plain (OpenSpec.ofChange avlWrongSpec)) avlWrongCard

/-- THE TIED CARD OF 'loftlaw12.AvlKeeps'. -/
def avlKeepsCard : Claim7 := { stood := { row := avlKeepsRow, standIns := [], harness := (true, "ed8192bfa6475631690853d1664703e78e7b5a3f0650ad9d91e13289456278b1"), looks := false }, kinds := [], alts := [], laidByText := true, laidKinds := [.data], laidTests := true, laidLooks := .later }
def AvlKeepsCardSaid : Prop := Claim7.holds Tryz.pinned (.plain (OpenSpec.ofChange avlKeepsSpec)) avlKeepsCard

/-- THE TIED CARD OF 'loftlaw11.WalkFree'. -/
def walkFreeCard : Claim7 := { stood := { row := walkFreeRow, standIns := [], harness := (true, "ed8192bfa6475631690853d1664703e78e7b5a3f0650ad9d91e13289456278b1"), looks := false }, kinds := [], alts := [], laidByText := true, laidKinds := [.data], laidTests := true, laidLooks := .later }
def WalkFreeCardSaid : Prop := Claim7.holds Tryz.pinned (.plain (OpenSpec.ofChange walkFreeSpec)) walkFreeCard

/-- THE TIED CARD OF 'loftlaw13.RedJoins'. -/
def redJoinsCard : Claim7 := { stood := { row := redJoinsRow, standIns := [], harness := (true, "ed8192bfa6475631690853d1664703e78e7b5a3f0650ad9d91e13289456278b1"), looks := false }, kinds := [], alts := [], laidByText := true, laidKinds := [.data], laidTests := true, laidLooks := .later }
def RedJoinsCardSaid : Prop := Claim7.holds Tryz.pinned (.plain (OpenSpec.ofChange redJoinsSpec)) redJoinsCard

/-- THE TIED CARD OF 'loftlaw13.RedWrong'. -/
def redWrongCard : Claim7 := { stood := { row := redWrongRow, standIns := [], harness := (true, "ed8192bfa6475631690853d1664703e78e7b5a3f0650ad9d91e13289456278b1"), looks := false }, kinds := [], alts := [], laidByText := true, laidKinds := [.data], laidTests := true, laidLooks := .later }
def RedWrongCardSaid : Prop := Claim7.holds Tryz.pinned (.plain (OpenSpec.ofChange redWrongSpec)) redWrongCard

/-- THE TIED CARD OF 'loftlaw13.RedKeeps'. -/
def redKeepsCard : Claim7 := { stood := { row := redKeepsRow, standIns := [], harness := (true, "ed8192bfa6475631690853d1664703e78e7b5a3f0650ad9d91e13289456278b1"), looks := false }, kinds := [], alts := [], laidByText := true, laidKinds := [.data], laidTests := true, laidLooks := .later }
def RedKeepsCardSaid : Prop := Claim7.holds Tryz.pinned (.plain (OpenSpec.ofChange redKeepsSpec)) redKeepsCard

/-- THE SECOND FORM's CARD OF 'loftlaw12.AvlNone'. -/
def avlNoneUptoCard : Claim7 := { stood := { row := avlNoneUptoRow, standIns := [], harness := (true, "ed8192bfa6475631690853d1664703e78e7b5a3f0650ad9d91e13289456278b1"), looks := false }, kinds := [], alts := [], laidByText := true, laidKinds := [.data], laidTests := true, laidLooks := .later }
def AvlNoneUptoCardSaid : Prop := Claim7.holds Tryz.pinned (.plain (OpenSpec.upto avlNoneSpec)) avlNoneUptoCard

/-- THE SECOND FORM's CARD OF 'loftlaw12.AvlHeight'. -/
def avlHeightUptoCard : Claim7 := { stood := { row := avlHeightUptoRow, standIns := [], harness := (true, "ed8192bfa6475631690853d1664703e78e7b5a3f0650ad9d91e13289456278b1"), looks := false }, kinds := [], alts := [], laidByText := true, laidKinds := [.data], laidTests := true, laidLooks := .later }
def AvlHeightUptoCardSaid : Prop := Claim7.holds Tryz.pinned (.plain (OpenSpec.upto avlHeightSpec)) avlHeightUptoCard

/-- THE SECOND FORM's CARD OF 'loftlaw13.RedHigh'. -/
def redHighUptoCard : Claim7 := { stood := { row := redHighUptoRow, standIns := [], harness := (true, "ed8192bfa6475631690853d1664703e78e7b5a3f0650ad9d91e13289456278b1"), looks := false }, kinds := [], alts := [], laidByText := true, laidKinds := [.data], laidTests := true, laidLooks := .later }
def RedHighUptoCardSaid : Prop := Claim7.holds Tryz.pinned (.plain (OpenSpec.upto redHighSpec)) redHighUptoCard

/-- THE SECOND FORM's CARD OF 'loftlaw13.RedNone'. -/
def redNoneUptoCard : Claim7 := { stood := { row := redNoneUptoRow, standIns := [], harness := (true, "ed8192bfa6475631690853d1664703e78e7b5a3f0650ad9d91e13289456278b1"), looks := false }, kinds := [], alts := [], laidByText := true, laidKinds := [.data], laidTests := true, laidLooks := .later }
def RedNoneUptoCardSaid : Prop := Claim7.holds Tryz.pinned (.plain (OpenSpec.upto redNoneSpec)) redNoneUptoCard

/-- THE SECOND FORM's CARD OF 'loftlaw13.RedWays'. -/
def redWaysUptoCard : Claim7 := { stood := { row := redWaysUptoRow, standIns := [], harness := (true, "ed8192bfa6475631690853d1664703e78e7b5a3f0650ad9d91e13289456278b1"), looks := false }, kinds := [], alts := [], laidByText := true, laidKinds := [.data], laidTests := true, laidLooks := .later }
def RedWaysUptoCardSaid : Prop := Claim7.holds Tryz.pinned (.plain (OpenSpec.upto redWaysSpec)) redWaysUptoCard

/-- THE SECOND FORM's CARD OF 'loftlaw12.AvlJoins'. -/
def avlJoinsUptoCard : Claim7 := { stood := { row := avlJoinsUptoRow, standIns := [], harness := (true, "ed8192bfa6475631690853d1664703e78e7b5a3f0650ad9d91e13289456278b1"), looks := false }, kinds := [], alts := [], laidByText := true, laidKinds := [.data], laidTests := true, laidLooks := .later }
def AvlJoinsUptoCardSaid : Prop := Claim7.holds Tryz.pinned (.plain (OpenSpec.upto avlJoinsSpec)) avlJoinsUptoCard

/-- THE SECOND FORM's CARD OF 'loftlaw12.AvlWrong'. -/
def avlWrongUptoCard : Claim7 := { stood := { row := avlWrongUptoRow, standIns := [], harness := (true, "ed8192bfa6475631690853d1664703e78e7b5a3f0650ad9d91e13289456278b1"), looks := false }, kinds := [], alts := [], laidByText := true, laidKinds := [.data], laidTests := true, laidLooks := .later }
def AvlWrongUptoCardSaid : Prop := Claim7.holds Tryz.pinned (.plain (OpenSpec.upto avlWrongSpec)) avlWrongUptoCard

/-- THE SECOND FORM's CARD OF 'loftlaw12.AvlKeeps'. -/
def avlKeepsUptoCard : Claim7 := { stood := { row := avlKeepsUptoRow, standIns := [], harness := (true, "ed8192bfa6475631690853d1664703e78e7b5a3f0650ad9d91e13289456278b1"), looks := false }, kinds := [], alts := [], laidByText := true, laidKinds := [.data], laidTests := true, laidLooks := .later }
def AvlKeepsUptoCardSaid : Prop := Claim7.holds Tryz.pinned (.plain (OpenSpec.upto avlKeepsSpec)) avlKeepsUptoCard

/-- THE SECOND FORM's CARD OF 'loftlaw11.WalkFree'. -/
def walkFreeUptoCard : Claim7 := { stood := { row := walkFreeUptoRow, standIns := [], harness := (true, "ed8192bfa6475631690853d1664703e78e7b5a3f0650ad9d91e13289456278b1"), looks := false }, kinds := [], alts := [], laidByText := true, laidKinds := [.data], laidTests := true, laidLooks := .later }
def WalkFreeUptoCardSaid : Prop := Claim7.holds Tryz.pinned (.plain (OpenSpec.upto walkFreeSpec)) walkFreeUptoCard

/-- THE SECOND FORM's CARD OF 'loftlaw13.RedJoins'. -/
def redJoinsUptoCard : Claim7 := { stood := { row := redJoinsUptoRow, standIns := [], harness := (true, "ed8192bfa6475631690853d1664703e78e7b5a3f0650ad9d91e13289456278b1"), looks := false }, kinds := [], alts := [], laidByText := true, laidKinds := [.data], laidTests := true, laidLooks := .later }
def RedJoinsUptoCardSaid : Prop := Claim7.holds Tryz.pinned (.plain (OpenSpec.upto redJoinsSpec)) redJoinsUptoCard

/-- THE SECOND FORM's CARD OF 'loftlaw13.RedWrong'. -/
def redWrongUptoCard : Claim7 := { stood := { row := redWrongUptoRow, standIns := [], harness := (true, "ed8192bfa6475631690853d1664703e78e7b5a3f0650ad9d91e13289456278b1"), looks := false }, kinds := [], alts := [], laidByText := true, laidKinds := [.data], laidTests := true, laidLooks := .later }
def RedWrongUptoCardSaid : Prop := Claim7.holds Tryz.pinned (.plain (OpenSpec.upto redWrongSpec)) redWrongUptoCard

/-- THE SECOND FORM's CARD OF 'loftlaw13.RedKeeps'. -/
def redKeepsUptoCard : Claim7 := { stood := { row := redKeepsUptoRow, standIns := [], harness := (true, "ed8192bfa6475631690853d1664703e78e7b5a3f0650ad9d91e13289456278b1"), looks := false }, kinds := [], alts := [], laidByText := true, laidKinds := [.data], laidTests := true, laidLooks := .later }
def RedKeepsUptoCardSaid : Prop := Claim7.holds Tryz.pinned (.plain (OpenSpec.upto redKeepsSpec)) redKeepsUptoCard
end Rows
end Go.Proofs.YtoifdmbffaaffaaGreatDoor
