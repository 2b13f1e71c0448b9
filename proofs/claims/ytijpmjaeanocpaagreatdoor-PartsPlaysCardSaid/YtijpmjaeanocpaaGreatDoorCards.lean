/-
  DERIVED. GIVEN WITH THE SEED: THE CARDS: each row of YtijpmjaeanocpaaGreatDoorRows.lean that lists a variable, with what it lists TIED to the program's text (the seventh form; the later family's looks); each row that meets fmt, with fmt's text TOLD by the authors' own Lean function (tested against real Go, not proved from fmt's source: count such statements apart). THE CARD IS WHAT COUNTS. Prove the row's statement (the work); the ties are given (YtijpmjaeanocpaaGreatDoorTie.lean); close each card by the builder's one call (the guide's Derived/Test/ToyasCard.lean, 'card_holds'). Laid BY PROGRAM, IN A SANDBOX (cutbox-door.mjs). By AI agents, Wed Nov 11 2026. No macro, syntax, notation, axiom, sorry.
-/
import Derived.Test.YtijpmjaeanocpaaGreatDoorRows
import GoSem.ClaimSeven
namespace Go.Proofs.YtijpmjaeanocpaaGreatDoor
namespace Rows

/-- THE TIED CARD OF 'loftlaw14.PartsPlays'. -/
def partsPlaysCard : Claim7 := { stood := { row := partsPlaysRow, standIns := [], harness := (true, "15b3c24ad2d7d6070b2b9646e3c176f04257c06865d702dafc14716578bbe2db"), looks := false }, kinds := [], alts := [], laidByText := true, laidKinds := [.data], laidTests := true, laidLooks := .later }
def PartsPlaysCardSaid : Prop := Claim7.holds Tryz.pinned (.plain (OpenSpec.ofChange partsPlaysSpec)) partsPlaysCard

/-- THE TIED CARD OF 'loftlaw16.BtreeFinds'. -/
def btreeFindsCard : Claim7 := { stood := { row := btreeFindsRow, standIns := [], harness := (true, "15b3c24ad2d7d6070b2b9646e3c176f04257c06865d702dafc14716578bbe2db"), looks := false }, kinds := [], alts := [], laidByText := true, laidKinds := [.data], laidTests := true, laidLooks := .later }
def BtreeFindsCardSaid : Prop := Claim7.holds Tryz.pinned (.plain (OpenSpec.ofChange btreeFindsSpec)) btreeFindsCard

/-- THE TIED CARD OF 'loftlaw16.BtreeOrder'. -/
def btreeOrderCard : Claim7 := { stood := { row := btreeOrderRow, standIns := [], harness := (true, "15b3c24ad2d7d6070b2b9646e3c176f04257c06865d702dafc14716578bbe2db"), looks := false }, kinds := [], alts := [], laidByText := true, laidKinds := [.data], laidTests := true, laidLooks := .later }
def BtreeOrderCardSaid : Prop := Claim7.holds Tryz.pinned (.plain (OpenSpec.ofChange btreeOrderSpec)) btreeOrderCard

/-- THE TIED CARD OF 'loftlaw16.BtreeInserts'. -/
def btreeInsertsCard : Claim7 := { stood := { row := btreeInsertsRow, standIns := [], harness := (true, "15b3c24ad2d7d6070b2b9646e3c176f04257c06865d702dafc14716578bbe2db"), looks := false }, kinds := [], alts := [], laidByText := true, laidKinds := [.data], laidTests := true, laidLooks := .later }
def BtreeInsertsCardSaid : Prop := Claim7.holds Tryz.pinned (.plain (OpenSpec.ofChange btreeInsertsSpec)) btreeInsertsCard

/-- THE TIED CARD OF 'loftlaw16.BtreeNone'. -/
def btreeNoneCard : Claim7 := { stood := { row := btreeNoneRow, standIns := [], harness := (true, "15b3c24ad2d7d6070b2b9646e3c176f04257c06865d702dafc14716578bbe2db"), looks := false }, kinds := [], alts := [], laidByText := true, laidKinds := [.data], laidTests := true, laidLooks := .later }
def BtreeNoneCardSaid : Prop := Claim7.holds Tryz.pinned (.plain (OpenSpec.ofChange btreeNoneSpec)) btreeNoneCard

/-- THE TIED CARD OF 'loftlaw16.BtreeWrong'. -/
def btreeWrongCard : Claim7 := { stood := { row := btreeWrongRow, standIns := [], harness := (true, "15b3c24ad2d7d6070b2b9646e3c176f04257c06865d702dafc14716578bbe2db"), looks := false }, kinds := [], alts := [], laidByText := true, laidKinds := [.data], laidTests := true, laidLooks := .later }
def BtreeWrongCardSaid : Prop := Claim7.holds Tryz.pinned (.plain (OpenSpec.ofChange btreeWrongSpec)) btreeWrongCard

/-- THE TIED CARD OF 'loftlaw17.BcutNone'. -/
def bcutNoneCard : Claim7 := { stood := { row := bcutNoneRow, standIns := [], harness := (true, "15b3c24ad2d7d6070b2b9646e3c176f04257c06865d702dafc14716578bbe2db"), looks := false }, kinds := [], alts := [], laidByText := true, laidKinds := [.data], laidTests := true, laidLooks := .later }
def BcutNoneCardSaid : Prop := Claim7.holds Tryz.pinned (.plain (OpenSpec.ofChange bcutNoneSpec)) bcutNoneCard

/-- THE TIED CARD OF 'loftlaw17.BcutAll'. -/
def bcutAllCard : Claim7 := { stood := { row := bcutAllRow, standIns := [], harness := (true, "15b3c24ad2d7d6070b2b9646e3c176f04257c06865d702dafc14716578bbe2db"), looks := false }, kinds := [], alts := [], laidByText := true, laidKinds := [.data], laidTests := true, laidLooks := .later }
def BcutAllCardSaid : Prop := Claim7.holds Tryz.pinned (.plain (OpenSpec.ofChange bcutAllSpec)) bcutAllCard

/-- THE TIED CARD OF 'loftlaw17.BcutEnds'. -/
def bcutEndsCard : Claim7 := { stood := { row := bcutEndsRow, standIns := [], harness := (true, "15b3c24ad2d7d6070b2b9646e3c176f04257c06865d702dafc14716578bbe2db"), looks := false }, kinds := [], alts := [], laidByText := true, laidKinds := [.data], laidTests := true, laidLooks := .later }
def BcutEndsCardSaid : Prop := Claim7.holds Tryz.pinned (.plain (OpenSpec.ofChange bcutEndsSpec)) bcutEndsCard

/-- THE TIED CARD OF 'loftlaw17.BcutFree'. -/
def bcutFreeCard : Claim7 := { stood := { row := bcutFreeRow, standIns := [], harness := (true, "15b3c24ad2d7d6070b2b9646e3c176f04257c06865d702dafc14716578bbe2db"), looks := false }, kinds := [], alts := [], laidByText := true, laidKinds := [.data], laidTests := true, laidLooks := .later }
def BcutFreeCardSaid : Prop := Claim7.holds Tryz.pinned (.plain (OpenSpec.ofChange bcutFreeSpec)) bcutFreeCard

/-- THE TIED CARD OF 'loftlaw17.BcutPlays'. -/
def bcutPlaysCard : Claim7 := { stood := { row := bcutPlaysRow, standIns := [], harness := (true, "15b3c24ad2d7d6070b2b9646e3c176f04257c06865d702dafc14716578bbe2db"), looks := false }, kinds := [], alts := [], laidByText := true, laidKinds := [.data], laidTests := true, laidLooks := .later }
def BcutPlaysCardSaid : Prop := Claim7.holds Tryz.pinned (.plain (OpenSpec.ofChange bcutPlaysSpec)) bcutPlaysCard

/-- THE SECOND FORM's CARD OF 'loftlaw14.PartsPlays'. -/
def partsPlaysUptoCard : Claim7 := { stood := { row := partsPlaysUptoRow, standIns := [], harness := (true, "15b3c24ad2d7d6070b2b9646e3c176f04257c06865d702dafc14716578bbe2db"), looks := false }, kinds := [], alts := [], laidByText := true, laidKinds := [.data], laidTests := true, laidLooks := .later }
def PartsPlaysUptoCardSaid : Prop := Claim7.holds Tryz.pinned (.plain (OpenSpec.upto partsPlaysSpec)) partsPlaysUptoCard

/-- THE SECOND FORM's CARD OF 'loftlaw16.BtreeFinds'. -/
def btreeFindsUptoCard : Claim7 := { stood := { row := btreeFindsUptoRow, standIns := [], harness := (true, "15b3c24ad2d7d6070b2b9646e3c176f04257c06865d702dafc14716578bbe2db"), looks := false }, kinds := [], alts := [], laidByText := true, laidKinds := [.data], laidTests := true, laidLooks := .later }
def BtreeFindsUptoCardSaid : Prop := Claim7.holds Tryz.pinned (.plain (OpenSpec.upto btreeFindsSpec)) btreeFindsUptoCard

/-- THE SECOND FORM's CARD OF 'loftlaw16.BtreeOrder'. -/
def btreeOrderUptoCard : Claim7 := { stood := { row := btreeOrderUptoRow, standIns := [], harness := (true, "15b3c24ad2d7d6070b2b9646e3c176f04257c06865d702dafc14716578bbe2db"), looks := false }, kinds := [], alts := [], laidByText := true, laidKinds := [.data], laidTests := true, laidLooks := .later }
def BtreeOrderUptoCardSaid : Prop := Claim7.holds Tryz.pinned (.plain (OpenSpec.upto btreeOrderSpec)) btreeOrderUptoCard

/-- THE SECOND FORM's CARD OF 'loftlaw16.BtreeInserts'. -/
def btreeInsertsUptoCard : Claim7 := { stood := { row := btreeInsertsUptoRow, standIns := [], harness := (true, "15b3c24ad2d7d6070b2b9646e3c176f04257c06865d702dafc14716578bbe2db"), looks := false }, kinds := [], alts := [], laidByText := true, laidKinds := [.data], laidTests := true, laidLooks := .later }
def BtreeInsertsUptoCardSaid : Prop := Claim7.holds Tryz.pinned (.plain (OpenSpec.upto btreeInsertsSpec)) btreeInsertsUptoCard

/-- THE SECOND FORM's CARD OF 'loftlaw16.BtreeNone'. -/
def btreeNoneUptoCard : Claim7 := { stood := { row := btreeNoneUptoRow, standIns := [], harness := (true, "15b3c24ad2d7d6070b2b9646e3c176f04257c06865d702dafc14716578bbe2db"), looks := false }, kinds := [], alts := [], laidByText := true, laidKinds := [.data], laidTests := true, laidLooks := .later }
def BtreeNoneUptoCardSaid : Prop := Claim7.holds Tryz.pinned (.plain (OpenSpec.upto btreeNoneSpec)) btreeNoneUptoCard

/-- THE SECOND FORM's CARD OF 'loftlaw16.BtreeWrong'. -/
def btreeWrongUptoCard : Claim7 := { stood := { row := btreeWrongUptoRow, standIns := [], harness := (true, "15b3c24ad2d7d6070b2b9646e3c176f04257c06865d702dafc14716578bbe2db"), looks := false }, kinds := [], alts := [], laidByText := true, laidKinds := [.data], laidTests := true, laidLooks := .later }
def BtreeWrongUptoCardSaid : Prop := Claim7.holds Tryz.pinned (.plain (OpenSpec.upto btreeWrongSpec)) btreeWrongUptoCard

/-- THE SECOND FORM's CARD OF 'loftlaw17.BcutNone'. -/
def bcutNoneUptoCard : Claim7 := { stood := { row := bcutNoneUptoRow, standIns := [], harness := (true, "15b3c24ad2d7d6070b2b9646e3c176f04257c06865d702dafc14716578bbe2db"), looks := false }, kinds := [], alts := [], laidByText := true, laidKinds := [.data], laidTests := true, laidLooks := .later }
def BcutNoneUptoCardSaid : Prop := Claim7.holds Tryz.pinned (.plain (OpenSpec.upto bcutNoneSpec)) bcutNoneUptoCard

/-- THE SECOND FORM's CARD OF 'loftlaw17.BcutAll'. -/
def bcutAllUptoCard : Claim7 := { stood := { row := bcutAllUptoRow, standIns := [], harness := (true, "15b3c24ad2d7d6070b2b9646e3c176f04257c06865d702dafc14716578bbe2db"), looks := false }, kinds := [], alts := [], laidByText := true, laidKinds := [.data], laidTests := true, laidLooks := .later }
def BcutAllUptoCardSaid : Prop := Claim7.holds Tryz.pinned (.plain (OpenSpec.upto bcutAllSpec)) bcutAllUptoCard

/-- THE SECOND FORM's CARD OF 'loftlaw17.BcutEnds'. -/
def bcutEndsUptoCard : Claim7 := { stood := { row := bcutEndsUptoRow, standIns := [], harness := (true, "15b3c24ad2d7d6070b2b9646e3c176f04257c06865d702dafc14716578bbe2db"), looks := false }, kinds := [], alts := [], laidByText := true, laidKinds := [.data], laidTests := true, laidLooks := .later }
def BcutEndsUptoCardSaid : Prop := Claim7.holds Tryz.pinned (.plain (OpenSpec.upto bcutEndsSpec)) bcutEndsUptoCard

/-- THE SECOND FORM's CARD OF 'loftlaw17.BcutFree'. -/
def bcutFreeUptoCard : Claim7 := { stood := { row := bcutFreeUptoRow, standIns := [], harness := (true, "15b3c24ad2d7d6070b2b9646e3c176f04257c06865d702dafc14716578bbe2db"), looks := false }, kinds := [], alts := [], laidByText := true, laidKinds := [.data], laidTests := true, laidLooks := .later }
def BcutFreeUptoCardSaid : Prop := Claim7.holds Tryz.pinned (.plain (OpenSpec.upto bcutFreeSpec)) bcutFreeUptoCard

/-- THE SECOND FORM's CARD OF 'loftlaw17.BcutPlays'. -/
def bcutPlaysUptoCard : Claim7 := { stood := { row := bcutPlaysUptoRow, standIns := [], harness := (true, "15b3c24ad2d7d6070b2b9646e3c176f04257c06865d702dafc14716578bbe2db"), looks := false }, kinds := [], alts := [], laidByText := true, laidKinds := [.data], laidTests := true, laidLooks := .later }
def BcutPlaysUptoCardSaid : Prop := Claim7.holds Tryz.pinned (.plain (OpenSpec.upto bcutPlaysSpec)) bcutPlaysUptoCard
end Rows
end Go.Proofs.YtijpmjaeanocpaaGreatDoor
