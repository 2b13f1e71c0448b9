/-
  DERIVED. GIVEN WITH THE SEED: THE CARDS: each row of YtjpmlneihbckpaaGreatDoorRows.lean that lists a variable, with what it lists TIED to the program's text (the seventh form; the later family's looks); each row that meets fmt, with fmt's text TOLD by the authors' own Lean function (tested against real Go, not proved from fmt's source: count such statements apart). THE CARD IS WHAT COUNTS. Prove the row's statement (the work); the ties are given (YtjpmlneihbckpaaGreatDoorTie.lean); close each card by the builder's one call (the guide's Derived/Test/ToyasCard.lean, 'card_holds'). Laid BY PROGRAM, IN A SANDBOX (cutbox-door.mjs). By AI agents, Wed Nov 11 2026. No macro, syntax, notation, axiom, sorry.
-/
import Derived.Test.YtjpmlneihbckpaaGreatDoorRows
import GoSem.ClaimSeven
namespace Go.Proofs.YtjpmlneihbckpaaGreatDoor
namespace Rows

/-- THE TIED CARD OF 'loftlaw13.RedHigh'. -/
def redHighCard : Claim7 := { stood := { row := redHighRow, standIns := [], harness := (true, "54b33ba7d54cea6ce5369e71a913d9a89789ade397b53c5249c54c8385e66231"), looks := false }, kinds := [], alts := [], laidByText := true, laidKinds := [.data], laidTests := true, laidLooks := .later }
def RedHighCardSaid : Prop := Claim7.holds Tryz.pinned (.plain (OpenSpec.ofChange redHighSpec)) redHighCard

/-- THE TIED CARD OF 'loftlaw13.RedNone'. -/
def redNoneCard : Claim7 := { stood := { row := redNoneRow, standIns := [], harness := (true, "54b33ba7d54cea6ce5369e71a913d9a89789ade397b53c5249c54c8385e66231"), looks := false }, kinds := [], alts := [], laidByText := true, laidKinds := [.data], laidTests := true, laidLooks := .later }
def RedNoneCardSaid : Prop := Claim7.holds Tryz.pinned (.plain (OpenSpec.ofChange redNoneSpec)) redNoneCard

/-- THE TIED CARD OF 'loftlaw13.RedWays'. -/
def redWaysCard : Claim7 := { stood := { row := redWaysRow, standIns := [], harness := (true, "54b33ba7d54cea6ce5369e71a913d9a89789ade397b53c5249c54c8385e66231"), looks := false }, kinds := [], alts := [], laidByText := true, laidKinds := [.data], laidTests := true, laidLooks := .later }
def RedWaysCardSaid : Prop := Claim7.holds Tryz.pinned (.plain (OpenSpec.ofChange redWaysSpec)) redWaysCard

/-- THE TIED CARD OF 'loftlaw13.RedJoins'. -/
def redJoinsCard : Claim7 := { stood := { row := redJoinsRow, standIns := [], harness := (true, "54b33ba7d54cea6ce5369e71a913d9a89789ade397b53c5249c54c8385e66231"), looks := false }, kinds := [], alts := [], laidByText := true, laidKinds := [.data], laidTests := true, laidLooks := .later }
def RedJoinsCardSaid : Prop := Claim7.holds Tryz.pinned (.plain (OpenSpec.ofChange redJoinsSpec)) redJoinsCard

/-- THE TIED CARD OF 'loftlaw13.RedWrong'. -/
def redWrongCard : Claim7 := { stood := { row := redWrongRow, standIns := [], harness := (true, "54b33ba7d54cea6ce5369e71a913d9a89789ade397b53c5249c54c8385e66231"), looks := false }, kinds := [], alts := [], laidByText := true, laidKinds := [.data], laidTests := true, laidLooks := .later }
def RedWrongCardSaid : Prop := Claim7.holds Tryz.pinned (.plain (OpenSpec.ofChange redWrongSpec)) redWrongCard

/-- THE TIED CARD OF 'loftlaw13.RedKeeps'. -/
def redKeepsCard : Claim7 := { stood := { row := redKeepsRow, standIns := [], harness := (true, "54b33ba7d54cea6ce5369e71a913d9a89789ade397b53c5249c54c8385e66231"), looks := false }, kinds := [], alts := [], laidByText := true, laidKinds := [.data], laidTests := true, laidLooks := .later }
def RedKeepsCardSaid : Prop := Claim7.holds Tryz.pinned (.plain (OpenSpec.ofChange redKeepsSpec)) redKeepsCard

/-- THE TIED CARD OF 'loftlaw14.PartsOrder'. -/
def partsOrderCard : Claim7 := { stood := { row := partsOrderRow, standIns := [], harness := (true, "54b33ba7d54cea6ce5369e71a913d9a89789ade397b53c5249c54c8385e66231"), looks := false }, kinds := [], alts := [], laidByText := true, laidKinds := [.data], laidTests := true, laidLooks := .later }
def PartsOrderCardSaid : Prop := Claim7.holds Tryz.pinned (.plain (OpenSpec.ofChange partsOrderSpec)) partsOrderCard

/-- THE TIED CARD OF 'loftlaw14.PartsEnds'. -/
def partsEndsCard : Claim7 := { stood := { row := partsEndsRow, standIns := [], harness := (true, "54b33ba7d54cea6ce5369e71a913d9a89789ade397b53c5249c54c8385e66231"), looks := false }, kinds := [], alts := [], laidByText := true, laidKinds := [.data], laidTests := true, laidLooks := .later }
def PartsEndsCardSaid : Prop := Claim7.holds Tryz.pinned (.plain (OpenSpec.ofChange partsEndsSpec)) partsEndsCard

/-- THE TIED CARD OF 'loftlaw14.PartsNone'. -/
def partsNoneCard : Claim7 := { stood := { row := partsNoneRow, standIns := [], harness := (true, "54b33ba7d54cea6ce5369e71a913d9a89789ade397b53c5249c54c8385e66231"), looks := false }, kinds := [], alts := [], laidByText := true, laidKinds := [.data], laidTests := true, laidLooks := .later }
def PartsNoneCardSaid : Prop := Claim7.holds Tryz.pinned (.plain (OpenSpec.ofChange partsNoneSpec)) partsNoneCard

/-- THE TIED CARD OF 'loftlaw14.PartsCut'. -/
def partsCutCard : Claim7 := { stood := { row := partsCutRow, standIns := [], harness := (true, "54b33ba7d54cea6ce5369e71a913d9a89789ade397b53c5249c54c8385e66231"), looks := false }, kinds := [], alts := [], laidByText := true, laidKinds := [.data], laidTests := true, laidLooks := .later }
def PartsCutCardSaid : Prop := Claim7.holds Tryz.pinned (.plain (OpenSpec.ofChange partsCutSpec)) partsCutCard

/-- THE TIED CARD OF 'loftlaw14.PartsWrong'. -/
def partsWrongCard : Claim7 := { stood := { row := partsWrongRow, standIns := [], harness := (true, "54b33ba7d54cea6ce5369e71a913d9a89789ade397b53c5249c54c8385e66231"), looks := false }, kinds := [], alts := [], laidByText := true, laidKinds := [.data], laidTests := true, laidLooks := .later }
def PartsWrongCardSaid : Prop := Claim7.holds Tryz.pinned (.plain (OpenSpec.ofChange partsWrongSpec)) partsWrongCard

/-- THE TIED CARD OF 'loftlaw14.PartsPlays'. -/
def partsPlaysCard : Claim7 := { stood := { row := partsPlaysRow, standIns := [], harness := (true, "54b33ba7d54cea6ce5369e71a913d9a89789ade397b53c5249c54c8385e66231"), looks := false }, kinds := [], alts := [], laidByText := true, laidKinds := [.data], laidTests := true, laidLooks := .later }
def PartsPlaysCardSaid : Prop := Claim7.holds Tryz.pinned (.plain (OpenSpec.ofChange partsPlaysSpec)) partsPlaysCard

/-- THE SECOND FORM's CARD OF 'loftlaw13.RedHigh'. -/
def redHighUptoCard : Claim7 := { stood := { row := redHighUptoRow, standIns := [], harness := (true, "54b33ba7d54cea6ce5369e71a913d9a89789ade397b53c5249c54c8385e66231"), looks := false }, kinds := [], alts := [], laidByText := true, laidKinds := [.data], laidTests := true, laidLooks := .later }
def RedHighUptoCardSaid : Prop := Claim7.holds Tryz.pinned (.plain (OpenSpec.upto redHighSpec)) redHighUptoCard

/-- THE SECOND FORM's CARD OF 'loftlaw13.RedNone'. -/
def redNoneUptoCard : Claim7 := { stood := { row := redNoneUptoRow, standIns := [], harness := (true, "54b33ba7d54cea6ce5369e71a913d9a89789ade397b53c5249c54c8385e66231"), looks := false }, kinds := [], alts := [], laidByText := true, laidKinds := [.data], laidTests := true, laidLooks := .later }
def RedNoneUptoCardSaid : Prop := Claim7.holds Tryz.pinned (.plain (OpenSpec.upto redNoneSpec)) redNoneUptoCard

/-- THE SECOND FORM's CARD OF 'loftlaw13.RedWays'. -/
def redWaysUptoCard : Claim7 := { stood := { row := redWaysUptoRow, standIns := [], harness := (true, "54b33ba7d54cea6ce5369e71a913d9a89789ade397b53c5249c54c8385e66231"), looks := false }, kinds := [], alts := [], laidByText := true, laidKinds := [.data], laidTests := true, laidLooks := .later }
def RedWaysUptoCardSaid : Prop := Claim7.holds Tryz.pinned (.plain (OpenSpec.upto redWaysSpec)) redWaysUptoCard

/-- THE SECOND FORM's CARD OF 'loftlaw13.RedJoins'. -/
def redJoinsUptoCard : Claim7 := { stood := { row := redJoinsUptoRow, standIns := [], harness := (true, "54b33ba7d54cea6ce5369e71a913d9a89789ade397b53c5249c54c8385e66231"), looks := false }, kinds := [], alts := [], laidByText := true, laidKinds := [.data], laidTests := true, laidLooks := .later }
def RedJoinsUptoCardSaid : Prop := Claim7.holds Tryz.pinned (.plain (OpenSpec.upto redJoinsSpec)) redJoinsUptoCard

/-- THE SECOND FORM's CARD OF 'loftlaw13.RedWrong'. -/
def redWrongUptoCard : Claim7 := { stood := { row := redWrongUptoRow, standIns := [], harness := (true, "54b33ba7d54cea6ce5369e71a913d9a89789ade397b53c5249c54c8385e66231"), looks := false }, kinds := [], alts := [], laidByText := true, laidKinds := [.data], laidTests := true, laidLooks := .later }
def RedWrongUptoCardSaid : Prop := Claim7.holds Tryz.pinned (.plain (OpenSpec.upto redWrongSpec)) redWrongUptoCard

/-- THE SECOND FORM's CARD OF 'loftlaw13.RedKeeps'. -/
def redKeepsUptoCard : Claim7 := { stood := { row := redKeepsUptoRow, standIns := [], harness := (true, "54b33ba7d54cea6ce5369e71a913d9a89789ade397b53c5249c54c8385e66231"), looks := false }, kinds := [], alts := [], laidByText := true, laidKinds := [.data], laidTests := true, laidLooks := .later }
def RedKeepsUptoCardSaid : Prop := Claim7.holds Tryz.pinned (.plain (OpenSpec.upto redKeepsSpec)) redKeepsUptoCard

/-- THE SECOND FORM's CARD OF 'loftlaw14.PartsOrder'. -/
def partsOrderUptoCard : Claim7 := { stood := { row := partsOrderUptoRow, standIns := [], harness := (true, "54b33ba7d54cea6ce5369e71a913d9a89789ade397b53c5249c54c8385e66231"), looks := false }, kinds := [], alts := [], laidByText := true, laidKinds := [.data], laidTests := true, laidLooks := .later }
def PartsOrderUptoCardSaid : Prop := Claim7.holds Tryz.pinned (.plain (OpenSpec.upto partsOrderSpec)) partsOrderUptoCard

/-- THE SECOND FORM's CARD OF 'loftlaw14.PartsEnds'. -/
def partsEndsUptoCard : Claim7 := { stood := { row := partsEndsUptoRow, standIns := [], harness := (true, "54b33ba7d54cea6ce5369e71a913d9a89789ade397b53c5249c54c8385e66231"), looks := false }, kinds := [], alts := [], laidByText := true, laidKinds := [.data], laidTests := true, laidLooks := .later }
def PartsEndsUptoCardSaid : Prop := Claim7.holds Tryz.pinned (.plain (OpenSpec.upto partsEndsSpec)) partsEndsUptoCard

/-- THE SECOND FORM's CARD OF 'loftlaw14.PartsNone'. -/
def partsNoneUptoCard : Claim7 := { stood := { row := partsNoneUptoRow, standIns := [], harness := (true, "54b33ba7d54cea6ce5369e71a913d9a89789ade397b53c5249c54c8385e66231"), looks := false }, kinds := [], alts := [], laidByText := true, laidKinds := [.data], laidTests := true, laidLooks := .later }
def PartsNoneUptoCardSaid : Prop := Claim7.holds Tryz.pinned (.plain (OpenSpec.upto partsNoneSpec)) partsNoneUptoCard

/-- THE SECOND FORM's CARD OF 'loftlaw14.PartsCut'. -/
def partsCutUptoCard : Claim7 := { stood := { row := partsCutUptoRow, standIns := [], harness := (true, "54b33ba7d54cea6ce5369e71a913d9a89789ade397b53c5249c54c8385e66231"), looks := false }, kinds := [], alts := [], laidByText := true, laidKinds := [.data], laidTests := true, laidLooks := .later }
def PartsCutUptoCardSaid : Prop := Claim7.holds Tryz.pinned (.plain (OpenSpec.upto partsCutSpec)) partsCutUptoCard

/-- THE SECOND FORM's CARD OF 'loftlaw14.PartsWrong'. -/
def partsWrongUptoCard : Claim7 := { stood := { row := partsWrongUptoRow, standIns := [], harness := (true, "54b33ba7d54cea6ce5369e71a913d9a89789ade397b53c5249c54c8385e66231"), looks := false }, kinds := [], alts := [], laidByText := true, laidKinds := [.data], laidTests := true, laidLooks := .later }
def PartsWrongUptoCardSaid : Prop := Claim7.holds Tryz.pinned (.plain (OpenSpec.upto partsWrongSpec)) partsWrongUptoCard

/-- THE SECOND FORM's CARD OF 'loftlaw14.PartsPlays'. -/
def partsPlaysUptoCard : Claim7 := { stood := { row := partsPlaysUptoRow, standIns := [], harness := (true, "54b33ba7d54cea6ce5369e71a913d9a89789ade397b53c5249c54c8385e66231"), looks := false }, kinds := [], alts := [], laidByText := true, laidKinds := [.data], laidTests := true, laidLooks := .later }
def PartsPlaysUptoCardSaid : Prop := Claim7.holds Tryz.pinned (.plain (OpenSpec.upto partsPlaysSpec)) partsPlaysUptoCard
end Rows
end Go.Proofs.YtjpmlneihbckpaaGreatDoor
