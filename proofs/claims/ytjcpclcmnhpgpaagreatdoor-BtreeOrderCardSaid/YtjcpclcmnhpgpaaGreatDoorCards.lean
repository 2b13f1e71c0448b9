/-
  DERIVED. GIVEN WITH THE SEED: THE CARDS: each row of YtjcpclcmnhpgpaaGreatDoorRows.lean that lists a variable, with what it lists TIED to the program's text (the seventh form; the later family's looks); each row that meets fmt, with fmt's text TOLD by the authors' own Lean function (tested against real Go, not proved from fmt's source: count such statements apart). THE CARD IS WHAT COUNTS. Prove the row's statement (the work); the ties are given (YtjcpclcmnhpgpaaGreatDoorTie.lean); close each card by the builder's one call (the guide's Derived/Test/ToyasCard.lean, 'card_holds'). Laid BY PROGRAM, IN A SANDBOX (cutbox-door.mjs). By AI agents, Wed Nov 11 2026. No macro, syntax, notation, axiom, sorry.
-/
import Derived.Test.YtjcpclcmnhpgpaaGreatDoorRows
import GoSem.ClaimSeven
namespace Go.Proofs.YtjcpclcmnhpgpaaGreatDoor
namespace Rows

/-- THE TIED CARD OF 'loftlaw16.BtreeFinds'. -/
def btreeFindsCard : Claim7 := { stood := { row := btreeFindsRow, standIns := [], harness := (true, "da49a8503cbf3fe1f53c6b998670c03f8610d52097f9eb1f01dc2bc0484fdb78"), looks := false }, kinds := [], alts := [], laidByText := true, laidKinds := [.data], laidTests := true, laidLooks := .later }
def BtreeFindsCardSaid : Prop := Claim7.holds Tryz.pinned (.plain (OpenSpec.ofChange btreeFindsSpec)) btreeFindsCard

/-- THE TIED CARD OF 'loftlaw16.BtreeOrder'. -/
def btreeOrderCard : Claim7 := { stood := { row := btreeOrderRow, standIns := [], harness := (true, "da49a8503cbf3fe1f53c6b998670c03f8610d52097f9eb1f01dc2bc0484fdb78"), looks := false }, kinds := [], alts := [], laidByText := true, laidKinds := [.data], laidTests := true, laidLooks := .later }
def BtreeOrderCardSaid : Prop := Claim7.holds Tryz.pinned (.plain (OpenSpec.ofChange btreeOrderSpec)) btreeOrderCard

/-- THE TIED CARD OF 'loftlaw16.BtreeInserts'. -/
def btreeInsertsCard : Claim7 := { stood := { row := btreeInsertsRow, standIns := [], harness := (true, "da49a8503cbf3fe1f53c6b998670c03f8610d52097f9eb1f01dc2bc0484fdb78"), looks := false }, kinds := [], alts := [], laidByText := true, laidKinds := [.data], laidTests := true, laidLooks := .later }
def BtreeInsertsCardSaid : Prop := Claim7.holds Tryz.pinned (.plain (OpenSpec.ofChange btreeInsertsSpec)) btreeInsertsCard

/-- THE TIED CARD OF 'loftlaw16.BtreeNone'. -/
def btreeNoneCard : Claim7 := { stood := { row := btreeNoneRow, standIns := [], harness := (true, "da49a8503cbf3fe1f53c6b998670c03f8610d52097f9eb1f01dc2bc0484fdb78"), looks := false }, kinds := [], alts := [], laidByText := true, laidKinds := [.data], laidTests := true, laidLooks := .later }
def BtreeNoneCardSaid : Prop := Claim7.holds Tryz.pinned (.plain (OpenSpec.ofChange btreeNoneSpec)) btreeNoneCard

/-- THE TIED CARD OF 'loftlaw16.BtreeWrong'. -/
def btreeWrongCard : Claim7 := { stood := { row := btreeWrongRow, standIns := [], harness := (true, "da49a8503cbf3fe1f53c6b998670c03f8610d52097f9eb1f01dc2bc0484fdb78"), looks := false }, kinds := [], alts := [], laidByText := true, laidKinds := [.data], laidTests := true, laidLooks := .later }
def BtreeWrongCardSaid : Prop := Claim7.holds Tryz.pinned (.plain (OpenSpec.ofChange btreeWrongSpec)) btreeWrongCard

/-- THE SECOND FORM's CARD OF 'loftlaw16.BtreeFinds'. -/
def btreeFindsUptoCard : Claim7 := { stood := { row := btreeFindsUptoRow, standIns := [], harness := (true, "da49a8503cbf3fe1f53c6b998670c03f8610d52097f9eb1f01dc2bc0484fdb78"), looks := false }, kinds := [], alts := [], laidByText := true, laidKinds := [.data], laidTests := true, laidLooks := .later }
def BtreeFindsUptoCardSaid : Prop := Claim7.holds Tryz.pinned (.plain (OpenSpec.upto btreeFindsSpec)) btreeFindsUptoCard

/-- THE SECOND FORM's CARD OF 'loftlaw16.BtreeOrder'. -/
def btreeOrderUptoCard : Claim7 := { stood := { row := btreeOrderUptoRow, standIns := [], harness := (true, "da49a8503cbf3fe1f53c6b998670c03f8610d52097f9eb1f01dc2bc0484fdb78"), looks := false }, kinds := [], alts := [], laidByText := true, laidKinds := [.data], laidTests := true, laidLooks := .later }
def BtreeOrderUptoCardSaid : Prop := Claim7.holds Tryz.pinned (.plain (OpenSpec.upto btreeOrderSpec)) btreeOrderUptoCard

/-- THE SECOND FORM's CARD OF 'loftlaw16.BtreeInserts'. -/
def btreeInsertsUptoCard : Claim7 := { stood := { row := btreeInsertsUptoRow, standIns := [], harness := (true, "da49a8503cbf3fe1f53c6b998670c03f8610d52097f9eb1f01dc2bc0484fdb78"), looks := false }, kinds := [], alts := [], laidByText := true, laidKinds := [.data], laidTests := true, laidLooks := .later }
def BtreeInsertsUptoCardSaid : Prop := Claim7.holds Tryz.pinned (.plain (OpenSpec.upto btreeInsertsSpec)) btreeInsertsUptoCard

/-- THE SECOND FORM's CARD OF 'loftlaw16.BtreeNone'. -/
def btreeNoneUptoCard : Claim7 := { stood := { row := btreeNoneUptoRow, standIns := [], harness := (true, "da49a8503cbf3fe1f53c6b998670c03f8610d52097f9eb1f01dc2bc0484fdb78"), looks := false }, kinds := [], alts := [], laidByText := true, laidKinds := [.data], laidTests := true, laidLooks := .later }
def BtreeNoneUptoCardSaid : Prop := Claim7.holds Tryz.pinned (.plain (OpenSpec.upto btreeNoneSpec)) btreeNoneUptoCard

/-- THE SECOND FORM's CARD OF 'loftlaw16.BtreeWrong'. -/
def btreeWrongUptoCard : Claim7 := { stood := { row := btreeWrongUptoRow, standIns := [], harness := (true, "da49a8503cbf3fe1f53c6b998670c03f8610d52097f9eb1f01dc2bc0484fdb78"), looks := false }, kinds := [], alts := [], laidByText := true, laidKinds := [.data], laidTests := true, laidLooks := .later }
def BtreeWrongUptoCardSaid : Prop := Claim7.holds Tryz.pinned (.plain (OpenSpec.upto btreeWrongSpec)) btreeWrongUptoCard
end Rows
end Go.Proofs.YtjcpclcmnhpgpaaGreatDoor
