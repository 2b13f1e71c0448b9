/-
  NARROWER THAN 'FOR EVERY INPUT', by the rows' own cells (each row's printed sentence says how): AvlNone: laid · AvlHeight: laid · RedHigh: laid · RedNone: laid · RedWays: laid · AvlJoins: laid · AvlWrong: laid · AvlKeeps: laid · WalkFree: laid · RedJoins: laid · RedWrong: laid · RedKeeps: laid.
  DERIVED. THE GIVEN ROWS OF THIS SEAT. 12 by the template 'for every input the law returns true; each argument reads behind the call as it read before'; 0 by the template 'total and deterministic' (their statements: YtoifdmbffaaffaaGreatDoorTotals.lean).
  GIVEN WITH THE SEED: the statements are not yours to turn. If you find one false, say at which input.
  Laid BY PROGRAM, IN A SANDBOX (cutbox-rows.mjs): the forced cells as the released guide's own fill.sh prints them over the translation 80fd3f59a4bc7c52… (all of the seat's roots in one cut). By AI agents, Wed Nov 11 2026. No macro, syntax, notation, axiom, sorry.
-/
import Derived.Test.YtoifdmbffaaffaaGreatDoorChecked
import GoSem.Claim
import GoSem.ClaimJoined
import GoSem.ClaimMapViews
import Derived.JoinedTies
import Derived.KernelRfl
namespace Go.Proofs.YtoifdmbffaaffaaGreatDoor
/- THE CELL 'sum', in the pinned program and in every row, IS THE sha256 OF THE DUMP (.gsa) THAT YtoifdmbffaaffaaGreatDoorProg.lean LOADS. Nothing in Lean hashes anything: it is a label: what it is worth is what the hold of that sum in a sandbox is worth. -/
noncomputable def Tryz.pinned : Pinned := { name := "ytoifdmbffaaffaagreatdoor", sum := "80fd3f59a4bc7c52c90a09b88f4307492c618adfed1985f8d4362efde6a81a13", checked := Tryz.checked }
namespace Rows
def none {H : Type} : Left H := { results := [], args := [] }

/- WHAT THE LISTED PACKAGE-LEVEL VARIABLES READ AS WHEN THE CALL BEGINS. Each datum BY PROGRAM (the guide's laid-datum.mjs) off the statement by which the dump's own 'gosem.cut.vars' lays the variable. In a bare row this is a premise. The card (YtoifdmbffaaffaaGreatDoorCards.lean) ties it to the program's text. -/
def laid_math_bits_deBruijn64tab {H : Type} : DataW H := .agg [.lit (.int .u8 0), .lit (.int .u8 1), .lit (.int .u8 56), .lit (.int .u8 2), .lit (.int .u8 57), .lit (.int .u8 49), .lit (.int .u8 28), .lit (.int .u8 3), .lit (.int .u8 61), .lit (.int .u8 58), .lit (.int .u8 42), .lit (.int .u8 50), .lit (.int .u8 38), .lit (.int .u8 29), .lit (.int .u8 17), .lit (.int .u8 4), .lit (.int .u8 62), .lit (.int .u8 47), .lit (.int .u8 59), .lit (.int .u8 36), .lit (.int .u8 45), .lit (.int .u8 43), .lit (.int .u8 51), .lit (.int .u8 22), .lit (.int .u8 53), .lit (.int .u8 39), .lit (.int .u8 33), .lit (.int .u8 30), .lit (.int .u8 24), .lit (.int .u8 18), .lit (.int .u8 12), .lit (.int .u8 5), .lit (.int .u8 63), .lit (.int .u8 55), .lit (.int .u8 48), .lit (.int .u8 27), .lit (.int .u8 60), .lit (.int .u8 41), .lit (.int .u8 37), .lit (.int .u8 16), .lit (.int .u8 46), .lit (.int .u8 35), .lit (.int .u8 44), .lit (.int .u8 21), .lit (.int .u8 52), .lit (.int .u8 32), .lit (.int .u8 23), .lit (.int .u8 11), .lit (.int .u8 54), .lit (.int .u8 26), .lit (.int .u8 40), .lit (.int .u8 15), .lit (.int .u8 34), .lit (.int .u8 20), .lit (.int .u8 31), .lit (.int .u8 10), .lit (.int .u8 25), .lit (.int .u8 14), .lit (.int .u8 19), .lit (.int .u8 9), .lit (.int .u8 13), .lit (.int .u8 8), .lit (.int .u8 7), .lit (.int .u8 6)]

/-- 'loftlaw12.AvlNone': WHATEVER THE INPUT: true; the input reads as it did. -/
def avlNoneSpec : ChangeSpec := { name := "avlNone", fn := fun _ => fun
  | [d1, d2, d3] => { results := [.lit (.bool true)], args := [d1, d2, d3] }
  | _ => none }
def avlNoneRow : OpenClaim := { program := "ytoifdmbffaaffaagreatdoor", sum := "80fd3f59a4bc7c52c90a09b88f4307492c618adfed1985f8d4362efde6a81a13", func := "loft/loftlaw12.AvlNone", spec := "avlNone", inPlace := ["internal/bytealg.abigen_runtime_cmpstring"], unfollowed := true, recurses := true, named := ["math/bits.deBruijn64tab"], apart := false, laid := [("math/bits.deBruijn64tab", laid_math_bits_deBruijn64tab)] }
def AvlNoneSaid : Prop := avlNoneRow.holds Tryz.pinned (OpenSpec.ofChange avlNoneSpec)

/-- ITS FALSE NEIGHBOUR: 'it returns false'. Refute it at one input. -/
def avlNoneWrong : ChangeSpec := { name := "avlNone", fn := fun _ => fun
  | [d1, d2, d3] => { results := [.lit (.bool false)], args := [d1, d2, d3] }
  | _ => none }
def AvlNoneWrongFalsely : Prop := avlNoneRow.holds Tryz.pinned (OpenSpec.ofChange avlNoneWrong)

/-- 'loftlaw12.AvlHeight': WHATEVER THE INPUT: true; the input reads as it did. -/
def avlHeightSpec : ChangeSpec := { name := "avlHeight", fn := fun _ => fun
  | [d] => { results := [.lit (.bool true)], args := [d] }
  | _ => none }
def avlHeightRow : OpenClaim := { program := "ytoifdmbffaaffaagreatdoor", sum := "80fd3f59a4bc7c52c90a09b88f4307492c618adfed1985f8d4362efde6a81a13", func := "loft/loftlaw12.AvlHeight", spec := "avlHeight", inPlace := ["internal/bytealg.abigen_runtime_cmpstring"], unfollowed := true, recurses := true, named := ["math/bits.deBruijn64tab"], apart := false, laid := [("math/bits.deBruijn64tab", laid_math_bits_deBruijn64tab)] }
def AvlHeightSaid : Prop := avlHeightRow.holds Tryz.pinned (OpenSpec.ofChange avlHeightSpec)

/-- ITS FALSE NEIGHBOUR: 'it returns false'. Refute it at one input. -/
def avlHeightWrong : ChangeSpec := { name := "avlHeight", fn := fun _ => fun
  | [d] => { results := [.lit (.bool false)], args := [d] }
  | _ => none }
def AvlHeightWrongFalsely : Prop := avlHeightRow.holds Tryz.pinned (OpenSpec.ofChange avlHeightWrong)

/-- 'loftlaw13.RedHigh': WHATEVER THE INPUT: true; the input reads as it did. -/
def redHighSpec : ChangeSpec := { name := "redHigh", fn := fun _ => fun
  | [d1, d2] => { results := [.lit (.bool true)], args := [d1, d2] }
  | _ => none }
def redHighRow : OpenClaim := { program := "ytoifdmbffaaffaagreatdoor", sum := "80fd3f59a4bc7c52c90a09b88f4307492c618adfed1985f8d4362efde6a81a13", func := "loft/loftlaw13.RedHigh", spec := "redHigh", inPlace := ["internal/bytealg.abigen_runtime_cmpstring"], unfollowed := true, recurses := true, named := ["math/bits.deBruijn64tab"], apart := false, laid := [("math/bits.deBruijn64tab", laid_math_bits_deBruijn64tab)] }
def RedHighSaid : Prop := redHighRow.holds Tryz.pinned (OpenSpec.ofChange redHighSpec)

/-- ITS FALSE NEIGHBOUR: 'it returns false'. Refute it at one input. -/
def redHighWrong : ChangeSpec := { name := "redHigh", fn := fun _ => fun
  | [d1, d2] => { results := [.lit (.bool false)], args := [d1, d2] }
  | _ => none }
def RedHighWrongFalsely : Prop := redHighRow.holds Tryz.pinned (OpenSpec.ofChange redHighWrong)

/-- 'loftlaw13.RedNone': WHATEVER THE INPUT: true; the input reads as it did. -/
def redNoneSpec : ChangeSpec := { name := "redNone", fn := fun _ => fun
  | [d1, d2, d3] => { results := [.lit (.bool true)], args := [d1, d2, d3] }
  | _ => none }
def redNoneRow : OpenClaim := { program := "ytoifdmbffaaffaagreatdoor", sum := "80fd3f59a4bc7c52c90a09b88f4307492c618adfed1985f8d4362efde6a81a13", func := "loft/loftlaw13.RedNone", spec := "redNone", inPlace := ["internal/bytealg.abigen_runtime_cmpstring"], unfollowed := true, recurses := true, named := ["math/bits.deBruijn64tab"], apart := false, laid := [("math/bits.deBruijn64tab", laid_math_bits_deBruijn64tab)] }
def RedNoneSaid : Prop := redNoneRow.holds Tryz.pinned (OpenSpec.ofChange redNoneSpec)

/-- ITS FALSE NEIGHBOUR: 'it returns false'. Refute it at one input. -/
def redNoneWrong : ChangeSpec := { name := "redNone", fn := fun _ => fun
  | [d1, d2, d3] => { results := [.lit (.bool false)], args := [d1, d2, d3] }
  | _ => none }
def RedNoneWrongFalsely : Prop := redNoneRow.holds Tryz.pinned (OpenSpec.ofChange redNoneWrong)

/-- 'loftlaw13.RedWays': WHATEVER THE INPUT: true; the input reads as it did. -/
def redWaysSpec : ChangeSpec := { name := "redWays", fn := fun _ => fun
  | [d1, d2] => { results := [.lit (.bool true)], args := [d1, d2] }
  | _ => none }
def redWaysRow : OpenClaim := { program := "ytoifdmbffaaffaagreatdoor", sum := "80fd3f59a4bc7c52c90a09b88f4307492c618adfed1985f8d4362efde6a81a13", func := "loft/loftlaw13.RedWays", spec := "redWays", inPlace := ["internal/bytealg.abigen_runtime_cmpstring"], unfollowed := true, recurses := true, named := ["math/bits.deBruijn64tab"], apart := false, laid := [("math/bits.deBruijn64tab", laid_math_bits_deBruijn64tab)] }
def RedWaysSaid : Prop := redWaysRow.holds Tryz.pinned (OpenSpec.ofChange redWaysSpec)

/-- ITS FALSE NEIGHBOUR: 'it returns false'. Refute it at one input. -/
def redWaysWrong : ChangeSpec := { name := "redWays", fn := fun _ => fun
  | [d1, d2] => { results := [.lit (.bool false)], args := [d1, d2] }
  | _ => none }
def RedWaysWrongFalsely : Prop := redWaysRow.holds Tryz.pinned (OpenSpec.ofChange redWaysWrong)

/-- 'loftlaw12.AvlJoins': WHATEVER THE INPUT: true; the input reads as it did. -/
def avlJoinsSpec : ChangeSpec := { name := "avlJoins", fn := fun _ => fun
  | [d1, d2, d3, d4] => { results := [.lit (.bool true)], args := [d1, d2, d3, d4] }
  | _ => none }
def avlJoinsRow : OpenClaim := { program := "ytoifdmbffaaffaagreatdoor", sum := "80fd3f59a4bc7c52c90a09b88f4307492c618adfed1985f8d4362efde6a81a13", func := "loft/loftlaw12.AvlJoins", spec := "avlJoins", inPlace := ["internal/bytealg.abigen_runtime_cmpstring"], unfollowed := true, recurses := true, named := ["math/bits.deBruijn64tab"], apart := false, laid := [("math/bits.deBruijn64tab", laid_math_bits_deBruijn64tab)] }
def AvlJoinsSaid : Prop := avlJoinsRow.holds Tryz.pinned (OpenSpec.ofChange avlJoinsSpec)

/-- ITS FALSE NEIGHBOUR: 'it returns false'. Refute it at one input. -/
def avlJoinsWrong : ChangeSpec := { name := "avlJoins", fn := fun _ => fun
  | [d1, d2, d3, d4] => { results := [.lit (.bool false)], args := [d1, d2, d3, d4] }
  | _ => none }
def AvlJoinsWrongFalsely : Prop := avlJoinsRow.holds Tryz.pinned (OpenSpec.ofChange avlJoinsWrong)

/-- 'loftlaw12.AvlWrong': WHATEVER THE INPUT: true; the input reads as it did. -/
def avlWrongSpec : ChangeSpec := { name := "avlWrong", fn := fun _ => fun
  | [d1, d2, d3, d4, d5] => { results := [.lit (.bool true)], args := [d1, d2, d3, d4, d5] }
  | _ => none }
def avlWrongRow : OpenClaim := { program := "ytoifdmbffaaffaagreatdoor", sum := "80fd3f59a4bc7c52c90a09b88f4307492c618adfed1985f8d4362efde6a81a13", func := "loft/loftlaw12.AvlWrong", spec := "avlWrong", inPlace := ["internal/bytealg.abigen_runtime_cmpstring"], unfollowed := true, recurses := true, named := ["math/bits.deBruijn64tab"], apart := false, laid := [("math/bits.deBruijn64tab", laid_math_bits_deBruijn64tab)] }
def AvlWrongSaid : Prop := avlWrongRow.holds Tryz.pinned (OpenSpec.ofChange avlWrongSpec)

/-- ITS FALSE NEIGHBOUR: 'it returns false'. Refute it at one input. -/
def avlWrongWrong : ChangeSpec := { name := "avlWrong", fn := fun _ => fun
  | [d1, d2, d3, d4, d5] => { results := [.lit (.bool false)], args := [d1, d2, d3, d4, d5] }
  | _ => none }
def AvlWrongWrongFalsely : Prop := avlWrongRow.holds Tryz.pinned (OpenSpec.ofChange avlWrongWrong)

/-- 'loftlaw12.AvlKeeps': WHATEVER THE INPUT: true; the input reads as it did. -/
def avlKeepsSpec : ChangeSpec := { name := "avlKeeps", fn := fun _ => fun
  | [d1, d2, d3, d4] => { results := [.lit (.bool true)], args := [d1, d2, d3, d4] }
  | _ => none }
def avlKeepsRow : OpenClaim := { program := "ytoifdmbffaaffaagreatdoor", sum := "80fd3f59a4bc7c52c90a09b88f4307492c618adfed1985f8d4362efde6a81a13", func := "loft/loftlaw12.AvlKeeps", spec := "avlKeeps", inPlace := ["internal/bytealg.abigen_runtime_cmpstring"], unfollowed := true, recurses := true, named := ["math/bits.deBruijn64tab"], apart := false, laid := [("math/bits.deBruijn64tab", laid_math_bits_deBruijn64tab)] }
def AvlKeepsSaid : Prop := avlKeepsRow.holds Tryz.pinned (OpenSpec.ofChange avlKeepsSpec)

/-- ITS FALSE NEIGHBOUR: 'it returns false'. Refute it at one input. -/
def avlKeepsWrong : ChangeSpec := { name := "avlKeeps", fn := fun _ => fun
  | [d1, d2, d3, d4] => { results := [.lit (.bool false)], args := [d1, d2, d3, d4] }
  | _ => none }
def AvlKeepsWrongFalsely : Prop := avlKeepsRow.holds Tryz.pinned (OpenSpec.ofChange avlKeepsWrong)

/-- 'loftlaw11.WalkFree': WHATEVER THE INPUT: true; the input reads as it did. -/
def walkFreeSpec : ChangeSpec := { name := "walkFree", fn := fun _ => fun
  | [d1, d2, d3] => { results := [.lit (.bool true)], args := [d1, d2, d3] }
  | _ => none }
def walkFreeRow : OpenClaim := { program := "ytoifdmbffaaffaagreatdoor", sum := "80fd3f59a4bc7c52c90a09b88f4307492c618adfed1985f8d4362efde6a81a13", func := "loft/loftlaw11.WalkFree", spec := "walkFree", inPlace := ["internal/bytealg.abigen_runtime_cmpstring"], unfollowed := true, recurses := true, named := ["math/bits.deBruijn64tab"], apart := false, laid := [("math/bits.deBruijn64tab", laid_math_bits_deBruijn64tab)] }
def WalkFreeSaid : Prop := walkFreeRow.holds Tryz.pinned (OpenSpec.ofChange walkFreeSpec)

/-- ITS FALSE NEIGHBOUR: 'it returns false'. Refute it at one input. -/
def walkFreeWrong : ChangeSpec := { name := "walkFree", fn := fun _ => fun
  | [d1, d2, d3] => { results := [.lit (.bool false)], args := [d1, d2, d3] }
  | _ => none }
def WalkFreeWrongFalsely : Prop := walkFreeRow.holds Tryz.pinned (OpenSpec.ofChange walkFreeWrong)

/-- 'loftlaw13.RedJoins': WHATEVER THE INPUT: true; the input reads as it did. -/
def redJoinsSpec : ChangeSpec := { name := "redJoins", fn := fun _ => fun
  | [d1, d2, d3, d4] => { results := [.lit (.bool true)], args := [d1, d2, d3, d4] }
  | _ => none }
def redJoinsRow : OpenClaim := { program := "ytoifdmbffaaffaagreatdoor", sum := "80fd3f59a4bc7c52c90a09b88f4307492c618adfed1985f8d4362efde6a81a13", func := "loft/loftlaw13.RedJoins", spec := "redJoins", inPlace := ["internal/bytealg.abigen_runtime_cmpstring"], unfollowed := true, recurses := true, named := ["math/bits.deBruijn64tab"], apart := false, laid := [("math/bits.deBruijn64tab", laid_math_bits_deBruijn64tab)] }
def RedJoinsSaid : Prop := redJoinsRow.holds Tryz.pinned (OpenSpec.ofChange redJoinsSpec)

/-- ITS FALSE NEIGHBOUR: 'it returns false'. Refute it at one input. -/
def redJoinsWrong : ChangeSpec := { name := "redJoins", fn := fun _ => fun
  | [d1, d2, d3, d4] => { results := [.lit (.bool false)], args := [d1, d2, d3, d4] }
  | _ => none }
def RedJoinsWrongFalsely : Prop := redJoinsRow.holds Tryz.pinned (OpenSpec.ofChange redJoinsWrong)

/-- 'loftlaw13.RedWrong': WHATEVER THE INPUT: true; the input reads as it did. -/
def redWrongSpec : ChangeSpec := { name := "redWrong", fn := fun _ => fun
  | [d1, d2, d3, d4, d5] => { results := [.lit (.bool true)], args := [d1, d2, d3, d4, d5] }
  | _ => none }
def redWrongRow : OpenClaim := { program := "ytoifdmbffaaffaagreatdoor", sum := "80fd3f59a4bc7c52c90a09b88f4307492c618adfed1985f8d4362efde6a81a13", func := "loft/loftlaw13.RedWrong", spec := "redWrong", inPlace := ["internal/bytealg.abigen_runtime_cmpstring"], unfollowed := true, recurses := true, named := ["math/bits.deBruijn64tab"], apart := false, laid := [("math/bits.deBruijn64tab", laid_math_bits_deBruijn64tab)] }
def RedWrongSaid : Prop := redWrongRow.holds Tryz.pinned (OpenSpec.ofChange redWrongSpec)

/-- ITS FALSE NEIGHBOUR: 'it returns false'. Refute it at one input. -/
def redWrongWrong : ChangeSpec := { name := "redWrong", fn := fun _ => fun
  | [d1, d2, d3, d4, d5] => { results := [.lit (.bool false)], args := [d1, d2, d3, d4, d5] }
  | _ => none }
def RedWrongWrongFalsely : Prop := redWrongRow.holds Tryz.pinned (OpenSpec.ofChange redWrongWrong)

/-- 'loftlaw13.RedKeeps': WHATEVER THE INPUT: true; the input reads as it did. -/
def redKeepsSpec : ChangeSpec := { name := "redKeeps", fn := fun _ => fun
  | [d1, d2, d3, d4] => { results := [.lit (.bool true)], args := [d1, d2, d3, d4] }
  | _ => none }
def redKeepsRow : OpenClaim := { program := "ytoifdmbffaaffaagreatdoor", sum := "80fd3f59a4bc7c52c90a09b88f4307492c618adfed1985f8d4362efde6a81a13", func := "loft/loftlaw13.RedKeeps", spec := "redKeeps", inPlace := ["internal/bytealg.abigen_runtime_cmpstring"], unfollowed := true, recurses := true, named := ["math/bits.deBruijn64tab"], apart := false, laid := [("math/bits.deBruijn64tab", laid_math_bits_deBruijn64tab)] }
def RedKeepsSaid : Prop := redKeepsRow.holds Tryz.pinned (OpenSpec.ofChange redKeepsSpec)

/-- ITS FALSE NEIGHBOUR: 'it returns false'. Refute it at one input. -/
def redKeepsWrong : ChangeSpec := { name := "redKeeps", fn := fun _ => fun
  | [d1, d2, d3, d4] => { results := [.lit (.bool false)], args := [d1, d2, d3, d4] }
  | _ => none }
def RedKeepsWrongFalsely : Prop := redKeepsRow.holds Tryz.pinned (OpenSpec.ofChange redKeepsWrong)

/- THE SECOND FORM. 'bulk': how many values and letters a reading holds, each counted each time it is reached (what is shared counts as often as it is met; a slice's spare places count too). A statement '..UptoSaid' is the law's where the arguments, and the package variables that the reading takes, are together of bulk at most 1048576: NARROWER than '..Said'. Prove '..Said' where nothing that the law and all that it calls make is longer than what came in: it says more and counts as full. Else prove '..UptoSaid'. A law counts once. -/
mutual
def uptoBulk {H : Type} : DataW H → Nat
  | .lit (.string bytes) => bytes.length + 1
  | .lit _ => 1
  | .nil => 1
  | .ptr d => uptoBulk d + 1
  | .slice elems spare => uptoBulkAll elems + uptoBulkAll spare + 1
  | .agg parts => uptoBulkAll parts + 1
  | .iface _ d => uptoBulk d + 1
  | .map entries => uptoBulkEntries entries + 1
  | .held _ => 1
def uptoBulkAll {H : Type} : List (DataW H) → Nat
  | [] => 0
  | d :: r => uptoBulk d + uptoBulkAll r
def uptoBulkEntries {H : Type} : List (Lit × DataW H) → Nat
  | [] => 0
  | x :: r => uptoBulkEntry x + uptoBulkEntries r
def uptoBulkEntry {H : Type} : Lit × DataW H → Nat
  | (.string bytes, d) => bytes.length + uptoBulk d + 1
  | (_, d) => uptoBulk d + 1
 end
def uptoSmall : (H : Type) → List (DataW H) → Bool := fun _ ds => decide (uptoBulkAll ds ≤ 1048576)
def OpenSpec.upto (s : _root_.Go.ChangeSpec) : _root_.Go.OpenSpec := { _root_.Go.OpenSpec.ofChange s with cond := some uptoSmall }

/-- 'loftlaw12.AvlNone', WHERE WHAT IT READS IS OF BULK AT MOST 1048576: true; the input reads as it did. -/
def avlNoneUptoRow : OpenClaim := { program := "ytoifdmbffaaffaagreatdoor", sum := "80fd3f59a4bc7c52c90a09b88f4307492c618adfed1985f8d4362efde6a81a13", func := "loft/loftlaw12.AvlNone", spec := "avlNone", inPlace := ["internal/bytealg.abigen_runtime_cmpstring"], unfollowed := true, recurses := true, named := ["math/bits.deBruijn64tab"], apart := false, laid := [("math/bits.deBruijn64tab", laid_math_bits_deBruijn64tab)], narrowed := true }
def AvlNoneUptoSaid : Prop := avlNoneUptoRow.holds Tryz.pinned (OpenSpec.upto avlNoneSpec)

/-- 'loftlaw12.AvlHeight', WHERE WHAT IT READS IS OF BULK AT MOST 1048576: true; the input reads as it did. -/
def avlHeightUptoRow : OpenClaim := { program := "ytoifdmbffaaffaagreatdoor", sum := "80fd3f59a4bc7c52c90a09b88f4307492c618adfed1985f8d4362efde6a81a13", func := "loft/loftlaw12.AvlHeight", spec := "avlHeight", inPlace := ["internal/bytealg.abigen_runtime_cmpstring"], unfollowed := true, recurses := true, named := ["math/bits.deBruijn64tab"], apart := false, laid := [("math/bits.deBruijn64tab", laid_math_bits_deBruijn64tab)], narrowed := true }
def AvlHeightUptoSaid : Prop := avlHeightUptoRow.holds Tryz.pinned (OpenSpec.upto avlHeightSpec)

/-- 'loftlaw13.RedHigh', WHERE WHAT IT READS IS OF BULK AT MOST 1048576: true; the input reads as it did. -/
def redHighUptoRow : OpenClaim := { program := "ytoifdmbffaaffaagreatdoor", sum := "80fd3f59a4bc7c52c90a09b88f4307492c618adfed1985f8d4362efde6a81a13", func := "loft/loftlaw13.RedHigh", spec := "redHigh", inPlace := ["internal/bytealg.abigen_runtime_cmpstring"], unfollowed := true, recurses := true, named := ["math/bits.deBruijn64tab"], apart := false, laid := [("math/bits.deBruijn64tab", laid_math_bits_deBruijn64tab)], narrowed := true }
def RedHighUptoSaid : Prop := redHighUptoRow.holds Tryz.pinned (OpenSpec.upto redHighSpec)

/-- 'loftlaw13.RedNone', WHERE WHAT IT READS IS OF BULK AT MOST 1048576: true; the input reads as it did. -/
def redNoneUptoRow : OpenClaim := { program := "ytoifdmbffaaffaagreatdoor", sum := "80fd3f59a4bc7c52c90a09b88f4307492c618adfed1985f8d4362efde6a81a13", func := "loft/loftlaw13.RedNone", spec := "redNone", inPlace := ["internal/bytealg.abigen_runtime_cmpstring"], unfollowed := true, recurses := true, named := ["math/bits.deBruijn64tab"], apart := false, laid := [("math/bits.deBruijn64tab", laid_math_bits_deBruijn64tab)], narrowed := true }
def RedNoneUptoSaid : Prop := redNoneUptoRow.holds Tryz.pinned (OpenSpec.upto redNoneSpec)

/-- 'loftlaw13.RedWays', WHERE WHAT IT READS IS OF BULK AT MOST 1048576: true; the input reads as it did. -/
def redWaysUptoRow : OpenClaim := { program := "ytoifdmbffaaffaagreatdoor", sum := "80fd3f59a4bc7c52c90a09b88f4307492c618adfed1985f8d4362efde6a81a13", func := "loft/loftlaw13.RedWays", spec := "redWays", inPlace := ["internal/bytealg.abigen_runtime_cmpstring"], unfollowed := true, recurses := true, named := ["math/bits.deBruijn64tab"], apart := false, laid := [("math/bits.deBruijn64tab", laid_math_bits_deBruijn64tab)], narrowed := true }
def RedWaysUptoSaid : Prop := redWaysUptoRow.holds Tryz.pinned (OpenSpec.upto redWaysSpec)

/-- 'loftlaw12.AvlJoins', WHERE WHAT IT READS IS OF BULK AT MOST 1048576: true; the input reads as it did. -/
def avlJoinsUptoRow : OpenClaim := { program := "ytoifdmbffaaffaagreatdoor", sum := "80fd3f59a4bc7c52c90a09b88f4307492c618adfed1985f8d4362efde6a81a13", func := "loft/loftlaw12.AvlJoins", spec := "avlJoins", inPlace := ["internal/bytealg.abigen_runtime_cmpstring"], unfollowed := true, recurses := true, named := ["math/bits.deBruijn64tab"], apart := false, laid := [("math/bits.deBruijn64tab", laid_math_bits_deBruijn64tab)], narrowed := true }
def AvlJoinsUptoSaid : Prop := avlJoinsUptoRow.holds Tryz.pinned (OpenSpec.upto avlJoinsSpec)

/-- 'loftlaw12.AvlWrong', WHERE WHAT IT READS IS OF BULK AT MOST 1048576: true; the input reads as it did. -/
def avlWrongUptoRow : OpenClaim := { program := "ytoifdmbffaaffaagreatdoor", sum := "80fd3f59a4bc7c52c90a09b88f4307492c618adfed1985f8d4362efde6a81a13", func := "loft/loftlaw12.AvlWrong", spec := "avlWrong", inPlace := ["internal/bytealg.abigen_runtime_cmpstring"], unfollowed := true, recurses := true, named := ["math/bits.deBruijn64tab"], apart := false, laid := [("math/bits.deBruijn64tab", laid_math_bits_deBruijn64tab)], narrowed := true }
def AvlWrongUptoSaid : Prop := avlWrongUptoRow.holds Tryz.pinned (OpenSpec.upto avlWrongSpec)

/-- 'loftlaw12.AvlKeeps', WHERE WHAT IT READS IS OF BULK AT MOST 1048576: true; the input reads as it did. -/
def avlKeepsUptoRow : OpenClaim := { program := "ytoifdmbffaaffaagreatdoor", sum := "80fd3f59a4bc7c52c90a09b88f4307492c618adfed1985f8d4362efde6a81a13", func := "loft/loftlaw12.AvlKeeps", spec := "avlKeeps", inPlace := ["internal/bytealg.abigen_runtime_cmpstring"], unfollowed := true, recurses := true, named := ["math/bits.deBruijn64tab"], apart := false, laid := [("math/bits.deBruijn64tab", laid_math_bits_deBruijn64tab)], narrowed := true }
def AvlKeepsUptoSaid : Prop := avlKeepsUptoRow.holds Tryz.pinned (OpenSpec.upto avlKeepsSpec)

/-- 'loftlaw11.WalkFree', WHERE WHAT IT READS IS OF BULK AT MOST 1048576: true; the input reads as it did. -/
def walkFreeUptoRow : OpenClaim := { program := "ytoifdmbffaaffaagreatdoor", sum := "80fd3f59a4bc7c52c90a09b88f4307492c618adfed1985f8d4362efde6a81a13", func := "loft/loftlaw11.WalkFree", spec := "walkFree", inPlace := ["internal/bytealg.abigen_runtime_cmpstring"], unfollowed := true, recurses := true, named := ["math/bits.deBruijn64tab"], apart := false, laid := [("math/bits.deBruijn64tab", laid_math_bits_deBruijn64tab)], narrowed := true }
def WalkFreeUptoSaid : Prop := walkFreeUptoRow.holds Tryz.pinned (OpenSpec.upto walkFreeSpec)

/-- 'loftlaw13.RedJoins', WHERE WHAT IT READS IS OF BULK AT MOST 1048576: true; the input reads as it did. -/
def redJoinsUptoRow : OpenClaim := { program := "ytoifdmbffaaffaagreatdoor", sum := "80fd3f59a4bc7c52c90a09b88f4307492c618adfed1985f8d4362efde6a81a13", func := "loft/loftlaw13.RedJoins", spec := "redJoins", inPlace := ["internal/bytealg.abigen_runtime_cmpstring"], unfollowed := true, recurses := true, named := ["math/bits.deBruijn64tab"], apart := false, laid := [("math/bits.deBruijn64tab", laid_math_bits_deBruijn64tab)], narrowed := true }
def RedJoinsUptoSaid : Prop := redJoinsUptoRow.holds Tryz.pinned (OpenSpec.upto redJoinsSpec)

/-- 'loftlaw13.RedWrong', WHERE WHAT IT READS IS OF BULK AT MOST 1048576: true; the input reads as it did. -/
def redWrongUptoRow : OpenClaim := { program := "ytoifdmbffaaffaagreatdoor", sum := "80fd3f59a4bc7c52c90a09b88f4307492c618adfed1985f8d4362efde6a81a13", func := "loft/loftlaw13.RedWrong", spec := "redWrong", inPlace := ["internal/bytealg.abigen_runtime_cmpstring"], unfollowed := true, recurses := true, named := ["math/bits.deBruijn64tab"], apart := false, laid := [("math/bits.deBruijn64tab", laid_math_bits_deBruijn64tab)], narrowed := true }
def RedWrongUptoSaid : Prop := redWrongUptoRow.holds Tryz.pinned (OpenSpec.upto redWrongSpec)

/-- 'loftlaw13.RedKeeps', WHERE WHAT IT READS IS OF BULK AT MOST 1048576: true; the input reads as it did. -/
def redKeepsUptoRow : OpenClaim := { program := "ytoifdmbffaaffaagreatdoor", sum := "80fd3f59a4bc7c52c90a09b88f4307492c618adfed1985f8d4362efde6a81a13", func := "loft/loftlaw13.RedKeeps", spec := "redKeeps", inPlace := ["internal/bytealg.abigen_runtime_cmpstring"], unfollowed := true, recurses := true, named := ["math/bits.deBruijn64tab"], apart := false, laid := [("math/bits.deBruijn64tab", laid_math_bits_deBruijn64tab)], narrowed := true }
def RedKeepsUptoSaid : Prop := redKeepsUptoRow.holds Tryz.pinned (OpenSpec.upto redKeepsSpec)

end Rows
end Go.Proofs.YtoifdmbffaaffaaGreatDoor
