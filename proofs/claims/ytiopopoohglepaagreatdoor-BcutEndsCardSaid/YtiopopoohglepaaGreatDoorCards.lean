/-
  DERIVED. GIVEN WITH THE SEED: THE CARDS: each row of YtiopopoohglepaaGreatDoorRows.lean that lists a variable, with what it lists TIED to the program's text (the seventh form; the later family's looks); each row that meets fmt, with fmt's text TOLD by the authors' own Lean function (tested against real Go, not proved from fmt's source: count such statements apart). THE CARD IS WHAT COUNTS. Prove the row's statement (the work); the ties are given (YtiopopoohglepaaGreatDoorTie.lean); close each card by the builder's one call (the guide's Derived/Test/ToyasCard.lean, 'card_holds'). Laid BY PROGRAM, IN A SANDBOX (cutbox-door.mjs). By AI agents, Wed Nov 11 2026. No macro, syntax, notation, axiom, sorry.
-/
import Derived.Test.YtiopopoohglepaaGreatDoorRows
import GoSem.ClaimSeven
namespace Go.Proofs.YtiopopoohglepaaGreatDoor
namespace Rows

/-- THE TIED CARD OF 'loftlaw17.BcutNone'. -/
def bcutNoneCard : Claim7 := { stood := { row := bcutNoneRow, standIns := [], harness := (true, "decf4495e0eb9d1dc5f760179527da9ce0eac81654323c3da16ae9e0811fd128"), looks := false }, kinds := [], alts := [], laidByText := true, laidKinds := [.data], laidTests := true, laidLooks := .later }
def BcutNoneCardSaid : Prop := Claim7.holds Tryz.pinned (.plain (OpenSpec.ofChange bcutNoneSpec)) bcutNoneCard

/-- THE TIED CARD OF 'loftlaw17.BcutAll'. -/
def bcutAllCard : Claim7 := { stood := { row := bcutAllRow, standIns := [], harness := (true, "decf4495e0eb9d1dc5f760179527da9ce0eac81654323c3da16ae9e0811fd128"), looks := false }, kinds := [], alts := [], laidByText := true, laidKinds := [.data], laidTests := true, laidLooks := .later }
def BcutAllCardSaid : Prop := Claim7.holds Tryz.pinned (.plain (OpenSpec.ofChange bcutAllSpec)) bcutAllCard

/-- THE TIED CARD OF 'loftlaw17.BcutEnds'. -/
def bcutEndsCard : Claim7 := { stood := { row := bcutEndsRow, standIns := [], harness := (true, "decf4495e0eb9d1dc5f760179527da9ce0eac81654323c3da16ae9e0811fd128"), looks := false }, kinds := [], alts := [], laidByText := true, laidKinds := [.data], laidTests := true, laidLooks := .later }
def BcutEndsCardSaid : Prop := Claim7.holds Tryz.pinned (.plain (OpenSpec.ofChange bcutEndsSpec)) bcutEndsCard

/-- THE TIED CARD OF 'loftlaw17.BcutFree'. -/
def bcutFreeCard : Claim7 := { stood := { row := bcutFreeRow, standIns := [], harness := (true, "decf4495e0eb9d1dc5f760179527da9ce0eac81654323c3da16ae9e0811fd128"), looks := false }, kinds := [], alts := [], laidByText := true, laidKinds := [.data], laidTests := true, laidLooks := .later }
def BcutFreeCardSaid : Prop := Claim7.holds Tryz.pinned (.plain (OpenSpec.ofChange bcutFreeSpec)) bcutFreeCard

/-- THE TIED CARD OF 'loftlaw17.BcutPlays'. -/
def bcutPlaysCard : Claim7 := { stood := { row := bcutPlaysRow, standIns := [], harness := (true, "decf4495e0eb9d1dc5f760179527da9ce0eac81654323c3da16ae9e0811fd128"), looks := false }, kinds := [], alts := [], laidByText := true, laidKinds := [.data], laidTests := true, laidLooks := .later }
def BcutPlaysCardSaid : Prop := Claim7.holds Tryz.pinned (.plain (OpenSpec.ofChange bcutPlaysSpec)) bcutPlaysCard

/-- THE SECOND FORM's CARD OF 'loftlaw17.BcutNone'. -/
def bcutNoneUptoCard : Claim7 := { stood := { row := bcutNoneUptoRow, standIns := [], harness := (true, "decf4495e0eb9d1dc5f760179527da9ce0eac81654323c3da16ae9e0811fd128"), looks := false }, kinds := [], alts := [], laidByText := true, laidKinds := [.data], laidTests := true, laidLooks := .later }
def BcutNoneUptoCardSaid : Prop := Claim7.holds Tryz.pinned (.plain (OpenSpec.upto bcutNoneSpec)) bcutNoneUptoCard

/-- THE SECOND FORM's CARD OF 'loftlaw17.BcutAll'. -/
def bcutAllUptoCard : Claim7 := { stood := { row := bcutAllUptoRow, standIns := [], harness := (true, "decf4495e0eb9d1dc5f760179527da9ce0eac81654323c3da16ae9e0811fd128"), looks := false }, kinds := [], alts := [], laidByText := true, laidKinds := [.data], laidTests := true, laidLooks := .later }
def BcutAllUptoCardSaid : Prop := Claim7.holds Tryz.pinned (.plain (OpenSpec.upto bcutAllSpec)) bcutAllUptoCard

/-- THE SECOND FORM's CARD OF 'loftlaw17.BcutEnds'. -/
def bcutEndsUptoCard : Claim7 := { stood := { row := bcutEndsUptoRow, standIns := [], harness := (true, "decf4495e0eb9d1dc5f760179527da9ce0eac81654323c3da16ae9e0811fd128"), looks := false }, kinds := [], alts := [], laidByText := true, laidKinds := [.data], laidTests := true, laidLooks := .later }
def BcutEndsUptoCardSaid : Prop := Claim7.holds Tryz.pinned (.plain (OpenSpec.upto bcutEndsSpec)) bcutEndsUptoCard

/-- THE SECOND FORM's CARD OF 'loftlaw17.BcutFree'. -/
def bcutFreeUptoCard : Claim7 := { stood := { row := bcutFreeUptoRow, standIns := [], harness := (true, "decf4495e0eb9d1dc5f760179527da9ce0eac81654323c3da16ae9e0811fd128"), looks := false }, kinds := [], alts := [], laidByText := true, laidKinds := [.data], laidTests := true, laidLooks := .later }
def BcutFreeUptoCardSaid : Prop := Claim7.holds Tryz.pinned (.plain (OpenSpec.upto bcutFreeSpec)) bcutFreeUptoCard

/-- THE SECOND FORM's CARD OF 'loftlaw17.BcutPlays'. -/
def bcutPlaysUptoCard : Claim7 := { stood := { row := bcutPlaysUptoRow, standIns := [], harness := (true, "decf4495e0eb9d1dc5f760179527da9ce0eac81654323c3da16ae9e0811fd128"), looks := false }, kinds := [], alts := [], laidByText := true, laidKinds := [.data], laidTests := true, laidLooks := .later }
def BcutPlaysUptoCardSaid : Prop := Claim7.holds Tryz.pinned (.plain (OpenSpec.upto bcutPlaysSpec)) bcutPlaysUptoCard
end Rows
end Go.Proofs.YtiopopoohglepaaGreatDoor
