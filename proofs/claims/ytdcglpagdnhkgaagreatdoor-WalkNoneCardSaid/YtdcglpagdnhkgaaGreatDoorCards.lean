/-
  DERIVED. GIVEN WITH THE SEED: THE CARDS: each row of YtdcglpagdnhkgaaGreatDoorRows.lean that lists a variable, with what it lists TIED to the program's text (the seventh form; the later family's looks); each row that meets fmt, with fmt's text TOLD by the authors' own Lean function (tested against real Go, not proved from fmt's source: count such statements apart). THE CARD IS WHAT COUNTS. Prove the row's statement (the work); the ties are given (YtdcglpagdnhkgaaGreatDoorTie.lean); close each card by the builder's one call (the guide's Derived/Test/ToyasCard.lean, 'card_holds'). Laid BY PROGRAM, IN A SANDBOX (cutbox-door.mjs). By AI agents, Wed Nov 11 2026. No macro, syntax, notation, axiom, sorry.
-/
import Derived.Test.YtdcglpagdnhkgaaGreatDoorRows
import GoSem.ClaimSeven
namespace Go.Proofs.YtdcglpagdnhkgaaGreatDoor
namespace Rows

/-- THE TIED CARD OF 'loftlaw11.WalkFinds'. -/
def walkFindsCard : Claim7 := { stood := { row := walkFindsRow, standIns := [], harness := (true, "8c8a8660fac04309ff3d42552d6221c553bd8722c2b18d124dadeef6de242deb"), looks := false }, kinds := [], alts := [], laidByText := true, laidKinds := [.data], laidTests := true, laidLooks := .later }
def WalkFindsCardSaid : Prop := Claim7.holds Tryz.pinned (.plain (OpenSpec.ofChange walkFindsSpec)) walkFindsCard

/-- THE TIED CARD OF 'loftlaw11.WalkRanks'. -/
def walkRanksCard : Claim7 := { stood := { row := walkRanksRow, standIns := [], harness := (true, "8c8a8660fac04309ff3d42552d6221c553bd8722c2b18d124dadeef6de242deb"), looks := false }, kinds := [], alts := [], laidByText := true, laidKinds := [.data], laidTests := true, laidLooks := .later }
def WalkRanksCardSaid : Prop := Claim7.holds Tryz.pinned (.plain (OpenSpec.ofChange walkRanksSpec)) walkRanksCard

/-- THE TIED CARD OF 'loftlaw11.WalkLists'. -/
def walkListsCard : Claim7 := { stood := { row := walkListsRow, standIns := [], harness := (true, "8c8a8660fac04309ff3d42552d6221c553bd8722c2b18d124dadeef6de242deb"), looks := false }, kinds := [], alts := [], laidByText := true, laidKinds := [.data], laidTests := true, laidLooks := .later }
def WalkListsCardSaid : Prop := Claim7.holds Tryz.pinned (.plain (OpenSpec.ofChange walkListsSpec)) walkListsCard

/-- THE TIED CARD OF 'loftlaw11.WalkWrong'. -/
def walkWrongCard : Claim7 := { stood := { row := walkWrongRow, standIns := [], harness := (true, "8c8a8660fac04309ff3d42552d6221c553bd8722c2b18d124dadeef6de242deb"), looks := false }, kinds := [], alts := [], laidByText := true, laidKinds := [.data], laidTests := true, laidLooks := .later }
def WalkWrongCardSaid : Prop := Claim7.holds Tryz.pinned (.plain (OpenSpec.ofChange walkWrongSpec)) walkWrongCard

/-- THE TIED CARD OF 'loftlaw11.WalkNone'. -/
def walkNoneCard : Claim7 := { stood := { row := walkNoneRow, standIns := [], harness := (true, "8c8a8660fac04309ff3d42552d6221c553bd8722c2b18d124dadeef6de242deb"), looks := false }, kinds := [], alts := [], laidByText := true, laidKinds := [.data], laidTests := true, laidLooks := .later }
def WalkNoneCardSaid : Prop := Claim7.holds Tryz.pinned (.plain (OpenSpec.ofChange walkNoneSpec)) walkNoneCard

/-- THE TIED CARD OF 'loftlaw11.WalkEmpty'. -/
def walkEmptyCard : Claim7 := { stood := { row := walkEmptyRow, standIns := [], harness := (true, "8c8a8660fac04309ff3d42552d6221c553bd8722c2b18d124dadeef6de242deb"), looks := false }, kinds := [], alts := [], laidByText := true, laidKinds := [.data], laidTests := true, laidLooks := .later }
def WalkEmptyCardSaid : Prop := Claim7.holds Tryz.pinned (.plain (OpenSpec.ofChange walkEmptySpec)) walkEmptyCard

/-- THE TIED CARD OF 'loftlaw11.WalkFree'. -/
def walkFreeCard : Claim7 := { stood := { row := walkFreeRow, standIns := [], harness := (true, "8c8a8660fac04309ff3d42552d6221c553bd8722c2b18d124dadeef6de242deb"), looks := false }, kinds := [], alts := [], laidByText := true, laidKinds := [.data], laidTests := true, laidLooks := .later }
def WalkFreeCardSaid : Prop := Claim7.holds Tryz.pinned (.plain (OpenSpec.ofChange walkFreeSpec)) walkFreeCard

/-- THE SECOND FORM's CARD OF 'loftlaw11.WalkFinds'. -/
def walkFindsUptoCard : Claim7 := { stood := { row := walkFindsUptoRow, standIns := [], harness := (true, "8c8a8660fac04309ff3d42552d6221c553bd8722c2b18d124dadeef6de242deb"), looks := false }, kinds := [], alts := [], laidByText := true, laidKinds := [.data], laidTests := true, laidLooks := .later }
def WalkFindsUptoCardSaid : Prop := Claim7.holds Tryz.pinned (.plain (OpenSpec.upto walkFindsSpec)) walkFindsUptoCard

/-- THE SECOND FORM's CARD OF 'loftlaw11.WalkRanks'. -/
def walkRanksUptoCard : Claim7 := { stood := { row := walkRanksUptoRow, standIns := [], harness := (true, "8c8a8660fac04309ff3d42552d6221c553bd8722c2b18d124dadeef6de242deb"), looks := false }, kinds := [], alts := [], laidByText := true, laidKinds := [.data], laidTests := true, laidLooks := .later }
def WalkRanksUptoCardSaid : Prop := Claim7.holds Tryz.pinned (.plain (OpenSpec.upto walkRanksSpec)) walkRanksUptoCard

/-- THE SECOND FORM's CARD OF 'loftlaw11.WalkLists'. -/
def walkListsUptoCard : Claim7 := { stood := { row := walkListsUptoRow, standIns := [], harness := (true, "8c8a8660fac04309ff3d42552d6221c553bd8722c2b18d124dadeef6de242deb"), looks := false }, kinds := [], alts := [], laidByText := true, laidKinds := [.data], laidTests := true, laidLooks := .later }
def WalkListsUptoCardSaid : Prop := Claim7.holds Tryz.pinned (.plain (OpenSpec.upto walkListsSpec)) walkListsUptoCard

/-- THE SECOND FORM's CARD OF 'loftlaw11.WalkWrong'. -/
def walkWrongUptoCard : Claim7 := { stood := { row := walkWrongUptoRow, standIns := [], harness := (true, "8c8a8660fac04309ff3d42552d6221c553bd8722c2b18d124dadeef6de242deb"), looks := false }, kinds := [], alts := [], laidByText := true, laidKinds := [.data], laidTests := true, laidLooks := .later }
def WalkWrongUptoCardSaid : Prop := Claim7.holds Tryz.pinned (.plain (OpenSpec.upto walkWrongSpec)) walkWrongUptoCard

/-- THE SECOND FORM's CARD OF 'loftlaw11.WalkNone'. -/
def walkNoneUptoCard : Claim7 := { stood := { row := walkNoneUptoRow, standIns := [], harness := (true, "8c8a8660fac04309ff3d42552d6221c553bd8722c2b18d124dadeef6de242deb"), looks := false }, kinds := [], alts := [], laidByText := true, laidKinds := [.data], laidTests := true, laidLooks := .later }
def WalkNoneUptoCardSaid : Prop := Claim7.holds Tryz.pinned (.plain (OpenSpec.upto walkNoneSpec)) walkNoneUptoCard

/-- THE SECOND FORM's CARD OF 'loftlaw11.WalkEmpty'. -/
def walkEmptyUptoCard : Claim7 := { stood := { row := walkEmptyUptoRow, standIns := [], harness := (true, "8c8a8660fac04309ff3d42552d6221c553bd8722c2b18d124dadeef6de242deb"), looks := false }, kinds := [], alts := [], laidByText := true, laidKinds := [.data], laidTests := true, laidLooks := .later }
def WalkEmptyUptoCardSaid : Prop := Claim7.holds Tryz.pinned (.plain (OpenSpec.upto walkEmptySpec)) walkEmptyUptoCard

/-- THE SECOND FORM's CARD OF 'loftlaw11.WalkFree'. -/
def walkFreeUptoCard : Claim7 := { stood := { row := walkFreeUptoRow, standIns := [], harness := (true, "8c8a8660fac04309ff3d42552d6221c553bd8722c2b18d124dadeef6de242deb"), looks := false }, kinds := [], alts := [], laidByText := true, laidKinds := [.data], laidTests := true, laidLooks := .later }
def WalkFreeUptoCardSaid : Prop := Claim7.holds Tryz.pinned (.plain (OpenSpec.upto walkFreeSpec)) walkFreeUptoCard
end Rows
end Go.Proofs.YtdcglpagdnhkgaaGreatDoor
