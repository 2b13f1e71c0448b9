/-
  NARROWER THAN 'FOR EVERY INPUT', by the rows' own cells (each row's printed sentence says how): WalkFinds: laid · WalkRanks: laid · WalkLists: laid · WalkWrong: laid · WalkNone: laid · WalkEmpty: laid · WalkFree: laid.
  DERIVED. THE GIVEN ROWS OF THIS SEAT. 7 by the template 'for every input the law returns true; each argument reads behind the call as it read before'; 0 by the template 'total and deterministic' (their statements: YtdcglpagdnhkgaaGreatDoorTotals.lean).
  GIVEN WITH THE SEED: the statements are not yours to turn. If you find one false, say at which input.
  Laid BY PROGRAM, IN A SANDBOX (cutbox-rows.mjs): the forced cells as the released guide's own fill.sh prints them over the translation c20d7b8c557a8ec4… (all of the seat's roots in one cut). By AI agents, Wed Nov 11 2026. No macro, syntax, notation, axiom, sorry.
-/
import Derived.Test.YtdcglpagdnhkgaaGreatDoorChecked
import GoSem.Claim
import GoSem.ClaimJoined
import GoSem.ClaimMapViews
import Derived.JoinedTies
import Derived.KernelRfl
namespace Go.Proofs.YtdcglpagdnhkgaaGreatDoor
/- THE CELL 'sum', in the pinned program and in every row, IS THE sha256 OF THE DUMP (.gsa) THAT YtdcglpagdnhkgaaGreatDoorProg.lean LOADS. Nothing in Lean hashes anything: it is a label: what it is worth is what the hold of that sum in a sandbox is worth. -/
noncomputable def Tryz.pinned : Pinned := { name := "ytdcglpagdnhkgaagreatdoor", sum := "c20d7b8c557a8ec45513dc27aa69dec361e22dd7d94a75370fe799c13bdab2cd", checked := Tryz.checked }
namespace Rows
def none {H : Type} : Left H := { results := [], args := [] }

/- WHAT THE LISTED PACKAGE-LEVEL VARIABLES READ AS WHEN THE CALL BEGINS. Each datum BY PROGRAM (the guide's laid-datum.mjs) off the statement by which the dump's own 'gosem.cut.vars' lays the variable. In a bare row this is a premise. The card (YtdcglpagdnhkgaaGreatDoorCards.lean) ties it to the program's text. -/
def laid_math_bits_deBruijn64tab {H : Type} : DataW H := .agg [.lit (.int .u8 0), .lit (.int .u8 1), .lit (.int .u8 56), .lit (.int .u8 2), .lit (.int .u8 57), .lit (.int .u8 49), .lit (.int .u8 28), .lit (.int .u8 3), .lit (.int .u8 61), .lit (.int .u8 58), .lit (.int .u8 42), .lit (.int .u8 50), .lit (.int .u8 38), .lit (.int .u8 29), .lit (.int .u8 17), .lit (.int .u8 4), .lit (.int .u8 62), .lit (.int .u8 47), .lit (.int .u8 59), .lit (.int .u8 36), .lit (.int .u8 45), .lit (.int .u8 43), .lit (.int .u8 51), .lit (.int .u8 22), .lit (.int .u8 53), .lit (.int .u8 39), .lit (.int .u8 33), .lit (.int .u8 30), .lit (.int .u8 24), .lit (.int .u8 18), .lit (.int .u8 12), .lit (.int .u8 5), .lit (.int .u8 63), .lit (.int .u8 55), .lit (.int .u8 48), .lit (.int .u8 27), .lit (.int .u8 60), .lit (.int .u8 41), .lit (.int .u8 37), .lit (.int .u8 16), .lit (.int .u8 46), .lit (.int .u8 35), .lit (.int .u8 44), .lit (.int .u8 21), .lit (.int .u8 52), .lit (.int .u8 32), .lit (.int .u8 23), .lit (.int .u8 11), .lit (.int .u8 54), .lit (.int .u8 26), .lit (.int .u8 40), .lit (.int .u8 15), .lit (.int .u8 34), .lit (.int .u8 20), .lit (.int .u8 31), .lit (.int .u8 10), .lit (.int .u8 25), .lit (.int .u8 14), .lit (.int .u8 19), .lit (.int .u8 9), .lit (.int .u8 13), .lit (.int .u8 8), .lit (.int .u8 7), .lit (.int .u8 6)]

/-- 'loftlaw11.WalkFinds': WHATEVER THE INPUT: true; the input reads as it did. -/
def walkFindsSpec : ChangeSpec := { name := "walkFinds", fn := fun _ => fun
  | [d1, d2, d3, d4] => { results := [.lit (.bool true)], args := [d1, d2, d3, d4] }
  | _ => none }
def walkFindsRow : OpenClaim := { program := "ytdcglpagdnhkgaagreatdoor", sum := "c20d7b8c557a8ec45513dc27aa69dec361e22dd7d94a75370fe799c13bdab2cd", func := "loft/loftlaw11.WalkFinds", spec := "walkFinds", inPlace := ["internal/bytealg.abigen_runtime_cmpstring"], unfollowed := true, recurses := true, named := ["math/bits.deBruijn64tab"], apart := false, laid := [("math/bits.deBruijn64tab", laid_math_bits_deBruijn64tab)] }
def WalkFindsSaid : Prop := walkFindsRow.holds Tryz.pinned (OpenSpec.ofChange walkFindsSpec)

/-- ITS FALSE NEIGHBOUR: 'it returns false'. Refute it at one input. -/
def walkFindsWrong : ChangeSpec := { name := "walkFinds", fn := fun _ => fun
  | [d1, d2, d3, d4] => { results := [.lit (.bool false)], args := [d1, d2, d3, d4] }
  | _ => none }
def WalkFindsWrongFalsely : Prop := walkFindsRow.holds Tryz.pinned (OpenSpec.ofChange walkFindsWrong)

/-- 'loftlaw11.WalkRanks': WHATEVER THE INPUT: true; the input reads as it did. -/
def walkRanksSpec : ChangeSpec := { name := "walkRanks", fn := fun _ => fun
  | [d1, d2, d3, d4] => { results := [.lit (.bool true)], args := [d1, d2, d3, d4] }
  | _ => none }
def walkRanksRow : OpenClaim := { program := "ytdcglpagdnhkgaagreatdoor", sum := "c20d7b8c557a8ec45513dc27aa69dec361e22dd7d94a75370fe799c13bdab2cd", func := "loft/loftlaw11.WalkRanks", spec := "walkRanks", inPlace := ["internal/bytealg.abigen_runtime_cmpstring"], unfollowed := true, recurses := true, named := ["math/bits.deBruijn64tab"], apart := false, laid := [("math/bits.deBruijn64tab", laid_math_bits_deBruijn64tab)] }
def WalkRanksSaid : Prop := walkRanksRow.holds Tryz.pinned (OpenSpec.ofChange walkRanksSpec)

/-- ITS FALSE NEIGHBOUR: 'it returns false'. Refute it at one input. -/
def walkRanksWrong : ChangeSpec := { name := "walkRanks", fn := fun _ => fun
  | [d1, d2, d3, d4] => { results := [.lit (.bool false)], args := [d1, d2, d3, d4] }
  | _ => none }
def WalkRanksWrongFalsely : Prop := walkRanksRow.holds Tryz.pinned (OpenSpec.ofChange walkRanksWrong)

/-- 'loftlaw11.WalkLists': WHATEVER THE INPUT: true; the input reads as it did. -/
def walkListsSpec : ChangeSpec := { name := "walkLists", fn := fun _ => fun
  | [d1, d2] => { results := [.lit (.bool true)], args := [d1, d2] }
  | _ => none }
def walkListsRow : OpenClaim := { program := "ytdcglpagdnhkgaagreatdoor", sum := "c20d7b8c557a8ec45513dc27aa69dec361e22dd7d94a75370fe799c13bdab2cd", func := "loft/loftlaw11.WalkLists", spec := "walkLists", inPlace := ["internal/bytealg.abigen_runtime_cmpstring"], unfollowed := true, recurses := true, named := ["math/bits.deBruijn64tab"], apart := false, laid := [("math/bits.deBruijn64tab", laid_math_bits_deBruijn64tab)] }
def WalkListsSaid : Prop := walkListsRow.holds Tryz.pinned (OpenSpec.ofChange walkListsSpec)

/-- ITS FALSE NEIGHBOUR: 'it returns false'. Refute it at one input. -/
def walkListsWrong : ChangeSpec := { name := "walkLists", fn := fun _ => fun
  | [d1, d2] => { results := [.lit (.bool false)], args := [d1, d2] }
  | _ => none }
def WalkListsWrongFalsely : Prop := walkListsRow.holds Tryz.pinned (OpenSpec.ofChange walkListsWrong)

/-- 'loftlaw11.WalkWrong': WHATEVER THE INPUT: true; the input reads as it did. -/
def walkWrongSpec : ChangeSpec := { name := "walkWrong", fn := fun _ => fun
  | [d1, d2, d3, d4, d5, d6] => { results := [.lit (.bool true)], args := [d1, d2, d3, d4, d5, d6] }
  | _ => none }
def walkWrongRow : OpenClaim := { program := "ytdcglpagdnhkgaagreatdoor", sum := "c20d7b8c557a8ec45513dc27aa69dec361e22dd7d94a75370fe799c13bdab2cd", func := "loft/loftlaw11.WalkWrong", spec := "walkWrong", inPlace := ["internal/bytealg.abigen_runtime_cmpstring"], unfollowed := true, recurses := true, named := ["math/bits.deBruijn64tab"], apart := false, laid := [("math/bits.deBruijn64tab", laid_math_bits_deBruijn64tab)] }
def WalkWrongSaid : Prop := walkWrongRow.holds Tryz.pinned (OpenSpec.ofChange walkWrongSpec)

/-- ITS FALSE NEIGHBOUR: 'it returns false'. Refute it at one input. -/
def walkWrongWrong : ChangeSpec := { name := "walkWrong", fn := fun _ => fun
  | [d1, d2, d3, d4, d5, d6] => { results := [.lit (.bool false)], args := [d1, d2, d3, d4, d5, d6] }
  | _ => none }
def WalkWrongWrongFalsely : Prop := walkWrongRow.holds Tryz.pinned (OpenSpec.ofChange walkWrongWrong)

/-- 'loftlaw11.WalkNone': WHATEVER THE INPUT: true; the input reads as it did. -/
def walkNoneSpec : ChangeSpec := { name := "walkNone", fn := fun _ => fun
  | [d1, d2, d3] => { results := [.lit (.bool true)], args := [d1, d2, d3] }
  | _ => none }
def walkNoneRow : OpenClaim := { program := "ytdcglpagdnhkgaagreatdoor", sum := "c20d7b8c557a8ec45513dc27aa69dec361e22dd7d94a75370fe799c13bdab2cd", func := "loft/loftlaw11.WalkNone", spec := "walkNone", inPlace := ["internal/bytealg.abigen_runtime_cmpstring"], unfollowed := true, recurses := true, named := ["math/bits.deBruijn64tab"], apart := false, laid := [("math/bits.deBruijn64tab", laid_math_bits_deBruijn64tab)] }
def WalkNoneSaid : Prop := walkNoneRow.holds Tryz.pinned (OpenSpec.ofChange walkNoneSpec)

/-- ITS FALSE NEIGHBOUR: 'it returns false'. Refute it at one input. -/
def walkNoneWrong : ChangeSpec := { name := "walkNone", fn := fun _ => fun
  | [d1, d2, d3] => { results := [.lit (.bool false)], args := [d1, d2, d3] }
  | _ => none }
def WalkNoneWrongFalsely : Prop := walkNoneRow.holds Tryz.pinned (OpenSpec.ofChange walkNoneWrong)

/-- 'loftlaw11.WalkEmpty': WHATEVER THE INPUT: true; the input reads as it did. -/
def walkEmptySpec : ChangeSpec := { name := "walkEmpty", fn := fun _ => fun
  | [d1, d2, d3] => { results := [.lit (.bool true)], args := [d1, d2, d3] }
  | _ => none }
def walkEmptyRow : OpenClaim := { program := "ytdcglpagdnhkgaagreatdoor", sum := "c20d7b8c557a8ec45513dc27aa69dec361e22dd7d94a75370fe799c13bdab2cd", func := "loft/loftlaw11.WalkEmpty", spec := "walkEmpty", inPlace := ["internal/bytealg.abigen_runtime_cmpstring"], unfollowed := true, recurses := true, named := ["math/bits.deBruijn64tab"], apart := false, laid := [("math/bits.deBruijn64tab", laid_math_bits_deBruijn64tab)] }
def WalkEmptySaid : Prop := walkEmptyRow.holds Tryz.pinned (OpenSpec.ofChange walkEmptySpec)

/-- ITS FALSE NEIGHBOUR: 'it returns false'. Refute it at one input. -/
def walkEmptyWrong : ChangeSpec := { name := "walkEmpty", fn := fun _ => fun
  | [d1, d2, d3] => { results := [.lit (.bool false)], args := [d1, d2, d3] }
  | _ => none }
def WalkEmptyWrongFalsely : Prop := walkEmptyRow.holds Tryz.pinned (OpenSpec.ofChange walkEmptyWrong)

/-- 'loftlaw11.WalkFree': WHATEVER THE INPUT: true; the input reads as it did. -/
def walkFreeSpec : ChangeSpec := { name := "walkFree", fn := fun _ => fun
  | [d1, d2, d3] => { results := [.lit (.bool true)], args := [d1, d2, d3] }
  | _ => none }
def walkFreeRow : OpenClaim := { program := "ytdcglpagdnhkgaagreatdoor", sum := "c20d7b8c557a8ec45513dc27aa69dec361e22dd7d94a75370fe799c13bdab2cd", func := "loft/loftlaw11.WalkFree", spec := "walkFree", inPlace := ["internal/bytealg.abigen_runtime_cmpstring"], unfollowed := true, recurses := true, named := ["math/bits.deBruijn64tab"], apart := false, laid := [("math/bits.deBruijn64tab", laid_math_bits_deBruijn64tab)] }
def WalkFreeSaid : Prop := walkFreeRow.holds Tryz.pinned (OpenSpec.ofChange walkFreeSpec)

/-- ITS FALSE NEIGHBOUR: 'it returns false'. Refute it at one input. -/
def walkFreeWrong : ChangeSpec := { name := "walkFree", fn := fun _ => fun
  | [d1, d2, d3] => { results := [.lit (.bool false)], args := [d1, d2, d3] }
  | _ => none }
def WalkFreeWrongFalsely : Prop := walkFreeRow.holds Tryz.pinned (OpenSpec.ofChange walkFreeWrong)

/- THE SECOND FORM. 'bulk': how many values and letters a reading holds, each counted each time it is reached (what is shared counts as often as it is met; a slice's spare places count too). A statement '..UptoSaid' is the law's where the arguments, and the package variables that the reading takes, are together of bulk at most 1048576: NARROWER than '..Said'. Prove '..Said' where nothing that the law and all that it calls make is longer than what came in: it says more and counts as full. Else prove '..UptoSaid'. A law counts once. -/
mutual
def uptoBulk {H : Type} : DataW H → Nat
  | .lit (.string bytes) => bytes.length + 1
  | .lit _ => 1
  | .nil => 1
  | .ptr d => uptoBulk d + 1
  | .slice elems spare => uptoBulkAll elems + uptoBulkAll spare + 1
  | .agg parts => uptoBulkAll parts + 1
  | .iface _ d => uptoBulk d + 1
  | .map entries => uptoBulkEntries entries + 1
  | .held _ => 1
def uptoBulkAll {H : Type} : List (DataW H) → Nat
  | [] => 0
  | d :: r => uptoBulk d + uptoBulkAll r
def uptoBulkEntries {H : Type} : List (Lit × DataW H) → Nat
  | [] => 0
  | x :: r => uptoBulkEntry x + uptoBulkEntries r
def uptoBulkEntry {H : Type} : Lit × DataW H → Nat
  | (.string bytes, d) => bytes.length + uptoBulk d + 1
  | (_, d) => uptoBulk d + 1
 end
def uptoSmall : (H : Type) → List (DataW H) → Bool := fun _ ds => decide (uptoBulkAll ds ≤ 1048576)
def OpenSpec.upto (s : _root_.Go.ChangeSpec) : _root_.Go.OpenSpec := { _root_.Go.OpenSpec.ofChange s with cond := some uptoSmall }

/-- 'loftlaw11.WalkFinds', WHERE WHAT IT READS IS OF BULK AT MOST 1048576: true; the input reads as it did. -/
def walkFindsUptoRow : OpenClaim := { program := "ytdcglpagdnhkgaagreatdoor", sum := "c20d7b8c557a8ec45513dc27aa69dec361e22dd7d94a75370fe799c13bdab2cd", func := "loft/loftlaw11.WalkFinds", spec := "walkFinds", inPlace := ["internal/bytealg.abigen_runtime_cmpstring"], unfollowed := true, recurses := true, named := ["math/bits.deBruijn64tab"], apart := false, laid := [("math/bits.deBruijn64tab", laid_math_bits_deBruijn64tab)], narrowed := true }
def WalkFindsUptoSaid : Prop := walkFindsUptoRow.holds Tryz.pinned (OpenSpec.upto walkFindsSpec)

/-- 'loftlaw11.WalkRanks', WHERE WHAT IT READS IS OF BULK AT MOST 1048576: true; the input reads as it did. -/
def walkRanksUptoRow : OpenClaim := { program := "ytdcglpagdnhkgaagreatdoor", sum := "c20d7b8c557a8ec45513dc27aa69dec361e22dd7d94a75370fe799c13bdab2cd", func := "loft/loftlaw11.WalkRanks", spec := "walkRanks", inPlace := ["internal/bytealg.abigen_runtime_cmpstring"], unfollowed := true, recurses := true, named := ["math/bits.deBruijn64tab"], apart := false, laid := [("math/bits.deBruijn64tab", laid_math_bits_deBruijn64tab)], narrowed := true }
def WalkRanksUptoSaid : Prop := walkRanksUptoRow.holds Tryz.pinned (OpenSpec.upto walkRanksSpec)

/-- 'loftlaw11.WalkLists', WHERE WHAT IT READS IS OF BULK AT MOST 1048576: true; the input reads as it did. -/
def walkListsUptoRow : OpenClaim := { program := "ytdcglpagdnhkgaagreatdoor", sum := "c20d7b8c557a8ec45513dc27aa69dec361e22dd7d94a75370fe799c13bdab2cd", func := "loft/loftlaw11.WalkLists", spec := "walkLists", inPlace := ["internal/bytealg.abigen_runtime_cmpstring"], unfollowed := true, recurses := true, named := ["math/bits.deBruijn64tab"], apart := false, laid := [("math/bits.deBruijn64tab", laid_math_bits_deBruijn64tab)], narrowed := true }
def WalkListsUptoSaid : Prop := walkListsUptoRow.holds Tryz.pinned (OpenSpec.upto walkListsSpec)

/-- 'loftlaw11.WalkWrong', WHERE WHAT IT READS IS OF BULK AT MOST 1048576: true; the input reads as it did. -/
def walkWrongUptoRow : OpenClaim := { program := "ytdcglpagdnhkgaagreatdoor", sum := "c20d7b8c557a8ec45513dc27aa69dec361e22dd7d94a75370fe799c13bdab2cd", func := "loft/loftlaw11.WalkWrong", spec := "walkWrong", inPlace := ["internal/bytealg.abigen_runtime_cmpstring"], unfollowed := true, recurses := true, named := ["math/bits.deBruijn64tab"], apart := false, laid := [("math/bits.deBruijn64tab", laid_math_bits_deBruijn64tab)], narrowed := true }
def WalkWrongUptoSaid : Prop := walkWrongUptoRow.holds Tryz.pinned (OpenSpec.upto walkWrongSpec)

/-- 'loftlaw11.WalkNone', WHERE WHAT IT READS IS OF BULK AT MOST 1048576: true; the input reads as it did. -/
def walkNoneUptoRow : OpenClaim := { program := "ytdcglpagdnhkgaagreatdoor", sum := "c20d7b8c557a8ec45513dc27aa69dec361e22dd7d94a75370fe799c13bdab2cd", func := "loft/loftlaw11.WalkNone", spec := "walkNone", inPlace := ["internal/bytealg.abigen_runtime_cmpstring"], unfollowed := true, recurses := true, named := ["math/bits.deBruijn64tab"], apart := false, laid := [("math/bits.deBruijn64tab", laid_math_bits_deBruijn64tab)], narrowed := true }
def WalkNoneUptoSaid : Prop := walkNoneUptoRow.holds Tryz.pinned (OpenSpec.upto walkNoneSpec)

/-- 'loftlaw11.WalkEmpty', WHERE WHAT IT READS IS OF BULK AT MOST 1048576: true; the input reads as it did. -/
def walkEmptyUptoRow : OpenClaim := { program := "ytdcglpagdnhkgaagreatdoor", sum := "c20d7b8c557a8ec45513dc27aa69dec361e22dd7d94a75370fe799c13bdab2cd", func := "loft/loftlaw11.WalkEmpty", spec := "walkEmpty", inPlace := ["internal/bytealg.abigen_runtime_cmpstring"], unfollowed := true, recurses := true, named := ["math/bits.deBruijn64tab"], apart := false, laid := [("math/bits.deBruijn64tab", laid_math_bits_deBruijn64tab)], narrowed := true }
def WalkEmptyUptoSaid : Prop := walkEmptyUptoRow.holds Tryz.pinned (OpenSpec.upto walkEmptySpec)

/-- 'loftlaw11.WalkFree', WHERE WHAT IT READS IS OF BULK AT MOST 1048576: true; the input reads as it did. -/
def walkFreeUptoRow : OpenClaim := { program := "ytdcglpagdnhkgaagreatdoor", sum := "c20d7b8c557a8ec45513dc27aa69dec361e22dd7d94a75370fe799c13bdab2cd", func := "loft/loftlaw11.WalkFree", spec := "walkFree", inPlace := ["internal/bytealg.abigen_runtime_cmpstring"], unfollowed := true, recurses := true, named := ["math/bits.deBruijn64tab"], apart := false, laid := [("math/bits.deBruijn64tab", laid_math_bits_deBruijn64tab)], narrowed := true }
def WalkFreeUptoSaid : Prop := walkFreeUptoRow.holds Tryz.pinned (OpenSpec.upto walkFreeSpec)

end Rows
end Go.Proofs.YtdcglpagdnhkgaaGreatDoor
