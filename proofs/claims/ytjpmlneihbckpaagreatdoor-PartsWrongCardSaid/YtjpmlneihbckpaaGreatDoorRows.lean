/-
  NARROWER THAN 'FOR EVERY INPUT', by the rows' own cells (each row's printed sentence says how): RedHigh: laid · RedNone: laid · RedWays: laid · RedJoins: laid · RedWrong: laid · RedKeeps: laid · PartsOrder: laid · PartsEnds: laid · PartsNone: laid · PartsCut: laid · PartsWrong: laid · PartsPlays: laid.
  DERIVED. THE GIVEN ROWS OF THIS SEAT. 12 by the template 'for every input the law returns true; each argument reads behind the call as it read before'; 0 by the template 'total and deterministic' (their statements: YtjpmlneihbckpaaGreatDoorTotals.lean).
  GIVEN WITH THE SEED: the statements are not yours to turn. If you find one false, say at which input.
  Laid BY PROGRAM, IN A SANDBOX (cutbox-rows.mjs): the forced cells as the released guide's own fill.sh prints them over the translation 08d1268c03f5119c… (all of the seat's roots in one cut). By AI agents, Wed Nov 11 2026. No macro, syntax, notation, axiom, sorry.
-/
import Derived.Test.YtjpmlneihbckpaaGreatDoorChecked
import GoSem.Claim
import GoSem.ClaimJoined
import GoSem.ClaimMapViews
import Derived.JoinedTies
import Derived.KernelRfl
namespace Go.Proofs.YtjpmlneihbckpaaGreatDoor
/- THE CELL 'sum', in the pinned program and in every row, IS THE sha256 OF THE DUMP (.gsa) THAT YtjpmlneihbckpaaGreatDoorProg.lean LOADS. Nothing in Lean hashes anything: it is a label: what it is worth is what the hold of that sum in a sandbox is worth. -/
noncomputable def Tryz.pinned : Pinned := { name := "ytjpmlneihbckpaagreatdoor", sum := "08d1268c03f5119cfe3a16efd371a5c2427da40eb387d1e15870b45cea16e021", checked := Tryz.checked }
namespace Rows
def none {H : Type} : Left H := { results := [], args := [] }

/- WHAT THE LISTED PACKAGE-LEVEL VARIABLES READ AS WHEN THE CALL BEGINS. Each datum BY PROGRAM (the guide's laid-datum.mjs) off the statement by which the dump's own 'gosem.cut.vars' lays the variable. In a bare row this is a premise. The card (YtjpmlneihbckpaaGreatDoorCards.lean) ties it to the program's text. -/
def laid_math_bits_deBruijn64tab {H : Type} : DataW H := .agg [.lit (.int .u8 0), .lit (.int .u8 1), .lit (.int .u8 56), .lit (.int .u8 2), .lit (.int .u8 57), .lit (.int .u8 49), .lit (.int .u8 28), .lit (.int .u8 3), .lit (.int .u8 61), .lit (.int .u8 58), .lit (.int .u8 42), .lit (.int .u8 50), .lit (.int .u8 38), .lit (.int .u8 29), .lit (.int .u8 17), .lit (.int .u8 4), .lit (.int .u8 62), .lit (.int .u8 47), .lit (.int .u8 59), .lit (.int .u8 36), .lit (.int .u8 45), .lit (.int .u8 43), .lit (.int .u8 51), .lit (.int .u8 22), .lit (.int .u8 53), .lit (.int .u8 39), .lit (.int .u8 33), .lit (.int .u8 30), .lit (.int .u8 24), .lit (.int .u8 18), .lit (.int .u8 12), .lit (.int .u8 5), .lit (.int .u8 63), .lit (.int .u8 55), .lit (.int .u8 48), .lit (.int .u8 27), .lit (.int .u8 60), .lit (.int .u8 41), .lit (.int .u8 37), .lit (.int .u8 16), .lit (.int .u8 46), .lit (.int .u8 35), .lit (.int .u8 44), .lit (.int .u8 21), .lit (.int .u8 52), .lit (.int .u8 32), .lit (.int .u8 23), .lit (.int .u8 11), .lit (.int .u8 54), .lit (.int .u8 26), .lit (.int .u8 40), .lit (.int .u8 15), .lit (.int .u8 34), .lit (.int .u8 20), .lit (.int .u8 31), .lit (.int .u8 10), .lit (.int .u8 25), .lit (.int .u8 14), .lit (.int .u8 19), .lit (.int .u8 9), .lit (.int .u8 13), .lit (.int .u8 8), .lit (.int .u8 7), .lit (.int .u8 6)]

/-- 'loftlaw13.RedHigh': WHATEVER THE INPUT: true; the input reads as it did. -/
def redHighSpec : ChangeSpec := { name := "redHigh", fn := fun _ => fun
  | [d1, d2] => { results := [.lit (.bool true)], args := [d1, d2] }
  | _ => none }
def redHighRow : OpenClaim := { program := "ytjpmlneihbckpaagreatdoor", sum := "08d1268c03f5119cfe3a16efd371a5c2427da40eb387d1e15870b45cea16e021", func := "loft/loftlaw13.RedHigh", spec := "redHigh", inPlace := ["internal/bytealg.abigen_runtime_cmpstring"], unfollowed := true, recurses := true, named := ["math/bits.deBruijn64tab"], apart := false, laid := [("math/bits.deBruijn64tab", laid_math_bits_deBruijn64tab)] }
def RedHighSaid : Prop := redHighRow.holds Tryz.pinned (OpenSpec.ofChange redHighSpec)

/-- ITS FALSE NEIGHBOUR: 'it returns false'. Refute it at one input. -/
def redHighWrong : ChangeSpec := { name := "redHigh", fn := fun _ => fun
  | [d1, d2] => { results := [.lit (.bool false)], args := [d1, d2] }
  | _ => none }
def RedHighWrongFalsely : Prop := redHighRow.holds Tryz.pinned (OpenSpec.ofChange redHighWrong)

/-- 'loftlaw13.RedNone': WHATEVER THE INPUT: true; the input reads as it did. -/
def redNoneSpec : ChangeSpec := { name := "redNone", fn := fun _ => fun
  | [d1, d2, d3] => { results := [.lit (.bool true)], args := [d1, d2, d3] }
  | _ => none }
def redNoneRow : OpenClaim := { program := "ytjpmlneihbckpaagreatdoor", sum := "08d1268c03f5119cfe3a16efd371a5c2427da40eb387d1e15870b45cea16e021", func := "loft/loftlaw13.RedNone", spec := "redNone", inPlace := ["internal/bytealg.abigen_runtime_cmpstring"], unfollowed := true, recurses := true, named := ["math/bits.deBruijn64tab"], apart := false, laid := [("math/bits.deBruijn64tab", laid_math_bits_deBruijn64tab)] }
def RedNoneSaid : Prop := redNoneRow.holds Tryz.pinned (OpenSpec.ofChange redNoneSpec)

/-- ITS FALSE NEIGHBOUR: 'it returns false'. Refute it at one input. -/
def redNoneWrong : ChangeSpec := { name := "redNone", fn := fun _ => fun
  | [d1, d2, d3] => { results := [.lit (.bool false)], args := [d1, d2, d3] }
  | _ => none }
def RedNoneWrongFalsely : Prop := redNoneRow.holds Tryz.pinned (OpenSpec.ofChange redNoneWrong)

/-- 'loftlaw13.RedWays': WHATEVER THE INPUT: true; the input reads as it did. -/
def redWaysSpec : ChangeSpec := { name := "redWays", fn := fun _ => fun
  | [d1, d2] => { results := [.lit (.bool true)], args := [d1, d2] }
  | _ => none }
def redWaysRow : OpenClaim := { program := "ytjpmlneihbckpaagreatdoor", sum := "08d1268c03f5119cfe3a16efd371a5c2427da40eb387d1e15870b45cea16e021", func := "loft/loftlaw13.RedWays", spec := "redWays", inPlace := ["internal/bytealg.abigen_runtime_cmpstring"], unfollowed := true, recurses := true, named := ["math/bits.deBruijn64tab"], apart := false, laid := [("math/bits.deBruijn64tab", laid_math_bits_deBruijn64tab)] }
def RedWaysSaid : Prop := redWaysRow.holds Tryz.pinned (OpenSpec.ofChange redWaysSpec)

/-- ITS FALSE NEIGHBOUR: 'it returns false'. Refute it at one input. -/
def redWaysWrong : ChangeSpec := { name := "redWays", fn := fun _ => fun
  | [d1, d2] => { results := [.lit (.bool false)], args := [d1, d2] }
  | _ => none }
def RedWaysWrongFalsely : Prop := redWaysRow.holds Tryz.pinned (OpenSpec.ofChange redWaysWrong)

/-- 'loftlaw13.RedJoins': WHATEVER THE INPUT: true; the input reads as it did. -/
def redJoinsSpec : ChangeSpec := { name := "redJoins", fn := fun _ => fun
  | [d1, d2, d3, d4] => { results := [.lit (.bool true)], args := [d1, d2, d3, d4] }
  | _ => none }
def redJoinsRow : OpenClaim := { program := "ytjpmlneihbckpaagreatdoor", sum := "08d1268c03f5119cfe3a16efd371a5c2427da40eb387d1e15870b45cea16e021", func := "loft/loftlaw13.RedJoins", spec := "redJoins", inPlace := ["internal/bytealg.abigen_runtime_cmpstring"], unfollowed := true, recurses := true, named := ["math/bits.deBruijn64tab"], apart := false, laid := [("math/bits.deBruijn64tab", laid_math_bits_deBruijn64tab)] }
def RedJoinsSaid : Prop := redJoinsRow.holds Tryz.pinned (OpenSpec.ofChange redJoinsSpec)

/-- ITS FALSE NEIGHBOUR: 'it returns false'. Refute it at one input. -/
def redJoinsWrong : ChangeSpec := { name := "redJoins", fn := fun _ => fun
  | [d1, d2, d3, d4] => { results := [.lit (.bool false)], args := [d1, d2, d3, d4] }
  | _ => none }
def RedJoinsWrongFalsely : Prop := redJoinsRow.holds Tryz.pinned (OpenSpec.ofChange redJoinsWrong)

/-- 'loftlaw13.RedWrong': WHATEVER THE INPUT: true; the input reads as it did. -/
def redWrongSpec : ChangeSpec := { name := "redWrong", fn := fun _ => fun
  | [d1, d2, d3, d4, d5] => { results := [.lit (.bool true)], args := [d1, d2, d3, d4, d5] }
  | _ => none }
def redWrongRow : OpenClaim := { program := "ytjpmlneihbckpaagreatdoor", sum := "08d1268c03f5119cfe3a16efd371a5c2427da40eb387d1e15870b45cea16e021", func := "loft/loftlaw13.RedWrong", spec := "redWrong", inPlace := ["internal/bytealg.abigen_runtime_cmpstring"], unfollowed := true, recurses := true, named := ["math/bits.deBruijn64tab"], apart := false, laid := [("math/bits.deBruijn64tab", laid_math_bits_deBruijn64tab)] }
def RedWrongSaid : Prop := redWrongRow.holds Tryz.pinned (OpenSpec.ofChange redWrongSpec)

/-- ITS FALSE NEIGHBOUR: 'it returns false'. Refute it at one input. -/
def redWrongWrong : ChangeSpec := { name := "redWrong", fn := fun _ => fun
  | [d1, d2, d3, d4, d5] => { results := [.lit (.bool false)], args := [d1, d2, d3, d4, d5] }
  | _ => none }
def RedWrongWrongFalsely : Prop := redWrongRow.holds Tryz.pinned (OpenSpec.ofChange redWrongWrong)

/-- 'loftlaw13.RedKeeps': WHATEVER THE INPUT: true; the input reads as it did. -/
def redKeepsSpec : ChangeSpec := { name := "redKeeps", fn := fun _ => fun
  | [d1, d2, d3, d4] => { results := [.lit (.bool true)], args := [d1, d2, d3, d4] }
  | _ => none }
def redKeepsRow : OpenClaim := { program := "ytjpmlneihbckpaagreatdoor", sum := "08d1268c03f5119cfe3a16efd371a5c2427da40eb387d1e15870b45cea16e021", func := "loft/loftlaw13.RedKeeps", spec := "redKeeps", inPlace := ["internal/bytealg.abigen_runtime_cmpstring"], unfollowed := true, recurses := true, named := ["math/bits.deBruijn64tab"], apart := false, laid := [("math/bits.deBruijn64tab", laid_math_bits_deBruijn64tab)] }
def RedKeepsSaid : Prop := redKeepsRow.holds Tryz.pinned (OpenSpec.ofChange redKeepsSpec)

/-- ITS FALSE NEIGHBOUR: 'it returns false'. Refute it at one input. -/
def redKeepsWrong : ChangeSpec := { name := "redKeeps", fn := fun _ => fun
  | [d1, d2, d3, d4] => { results := [.lit (.bool false)], args := [d1, d2, d3, d4] }
  | _ => none }
def RedKeepsWrongFalsely : Prop := redKeepsRow.holds Tryz.pinned (OpenSpec.ofChange redKeepsWrong)

/-- 'loftlaw14.PartsOrder': WHATEVER THE INPUT: true; the input reads as it did. -/
def partsOrderSpec : ChangeSpec := { name := "partsOrder", fn := fun _ => fun
  | [d1, d2] => { results := [.lit (.bool true)], args := [d1, d2] }
  | _ => none }
def partsOrderRow : OpenClaim := { program := "ytjpmlneihbckpaagreatdoor", sum := "08d1268c03f5119cfe3a16efd371a5c2427da40eb387d1e15870b45cea16e021", func := "loft/loftlaw14.PartsOrder", spec := "partsOrder", inPlace := ["internal/bytealg.abigen_runtime_cmpstring"], unfollowed := true, recurses := true, named := ["math/bits.deBruijn64tab"], apart := false, laid := [("math/bits.deBruijn64tab", laid_math_bits_deBruijn64tab)] }
def PartsOrderSaid : Prop := partsOrderRow.holds Tryz.pinned (OpenSpec.ofChange partsOrderSpec)

/-- ITS FALSE NEIGHBOUR: 'it returns false'. Refute it at one input. -/
def partsOrderWrong : ChangeSpec := { name := "partsOrder", fn := fun _ => fun
  | [d1, d2] => { results := [.lit (.bool false)], args := [d1, d2] }
  | _ => none }
def PartsOrderWrongFalsely : Prop := partsOrderRow.holds Tryz.pinned (OpenSpec.ofChange partsOrderWrong)

/-- 'loftlaw14.PartsEnds': WHATEVER THE INPUT: true; the input reads as it did. -/
def partsEndsSpec : ChangeSpec := { name := "partsEnds", fn := fun _ => fun
  | [d1, d2] => { results := [.lit (.bool true)], args := [d1, d2] }
  | _ => none }
def partsEndsRow : OpenClaim := { program := "ytjpmlneihbckpaagreatdoor", sum := "08d1268c03f5119cfe3a16efd371a5c2427da40eb387d1e15870b45cea16e021", func := "loft/loftlaw14.PartsEnds", spec := "partsEnds", inPlace := ["internal/bytealg.abigen_runtime_cmpstring"], unfollowed := true, recurses := true, named := ["math/bits.deBruijn64tab"], apart := false, laid := [("math/bits.deBruijn64tab", laid_math_bits_deBruijn64tab)] }
def PartsEndsSaid : Prop := partsEndsRow.holds Tryz.pinned (OpenSpec.ofChange partsEndsSpec)

/-- ITS FALSE NEIGHBOUR: 'it returns false'. Refute it at one input. -/
def partsEndsWrong : ChangeSpec := { name := "partsEnds", fn := fun _ => fun
  | [d1, d2] => { results := [.lit (.bool false)], args := [d1, d2] }
  | _ => none }
def PartsEndsWrongFalsely : Prop := partsEndsRow.holds Tryz.pinned (OpenSpec.ofChange partsEndsWrong)

/-- 'loftlaw14.PartsNone': WHATEVER THE INPUT: true; the input reads as it did. -/
def partsNoneSpec : ChangeSpec := { name := "partsNone", fn := fun _ => fun
  | [d1, d2] => { results := [.lit (.bool true)], args := [d1, d2] }
  | _ => none }
def partsNoneRow : OpenClaim := { program := "ytjpmlneihbckpaagreatdoor", sum := "08d1268c03f5119cfe3a16efd371a5c2427da40eb387d1e15870b45cea16e021", func := "loft/loftlaw14.PartsNone", spec := "partsNone", inPlace := ["internal/bytealg.abigen_runtime_cmpstring"], unfollowed := true, recurses := true, named := ["math/bits.deBruijn64tab"], apart := false, laid := [("math/bits.deBruijn64tab", laid_math_bits_deBruijn64tab)] }
def PartsNoneSaid : Prop := partsNoneRow.holds Tryz.pinned (OpenSpec.ofChange partsNoneSpec)

/-- ITS FALSE NEIGHBOUR: 'it returns false'. Refute it at one input. -/
def partsNoneWrong : ChangeSpec := { name := "partsNone", fn := fun _ => fun
  | [d1, d2] => { results := [.lit (.bool false)], args := [d1, d2] }
  | _ => none }
def PartsNoneWrongFalsely : Prop := partsNoneRow.holds Tryz.pinned (OpenSpec.ofChange partsNoneWrong)

/-- 'loftlaw14.PartsCut': WHATEVER THE INPUT: true; the input reads as it did. -/
def partsCutSpec : ChangeSpec := { name := "partsCut", fn := fun _ => fun
  | [d1, d2, d3, d4, d5] => { results := [.lit (.bool true)], args := [d1, d2, d3, d4, d5] }
  | _ => none }
def partsCutRow : OpenClaim := { program := "ytjpmlneihbckpaagreatdoor", sum := "08d1268c03f5119cfe3a16efd371a5c2427da40eb387d1e15870b45cea16e021", func := "loft/loftlaw14.PartsCut", spec := "partsCut", inPlace := ["internal/bytealg.abigen_runtime_cmpstring"], unfollowed := true, recurses := true, named := ["math/bits.deBruijn64tab"], apart := false, laid := [("math/bits.deBruijn64tab", laid_math_bits_deBruijn64tab)] }
def PartsCutSaid : Prop := partsCutRow.holds Tryz.pinned (OpenSpec.ofChange partsCutSpec)

/-- ITS FALSE NEIGHBOUR: 'it returns false'. Refute it at one input. -/
def partsCutWrong : ChangeSpec := { name := "partsCut", fn := fun _ => fun
  | [d1, d2, d3, d4, d5] => { results := [.lit (.bool false)], args := [d1, d2, d3, d4, d5] }
  | _ => none }
def PartsCutWrongFalsely : Prop := partsCutRow.holds Tryz.pinned (OpenSpec.ofChange partsCutWrong)

/-- 'loftlaw14.PartsWrong': WHATEVER THE INPUT: true; the input reads as it did. -/
def partsWrongSpec : ChangeSpec := { name := "partsWrong", fn := fun _ => fun
  | [d1, d2, d3, d4, d5] => { results := [.lit (.bool true)], args := [d1, d2, d3, d4, d5] }
  | _ => none }
def partsWrongRow : OpenClaim := { program := "ytjpmlneihbckpaagreatdoor", sum := "08d1268c03f5119cfe3a16efd371a5c2427da40eb387d1e15870b45cea16e021", func := "loft/loftlaw14.PartsWrong", spec := "partsWrong", inPlace := ["internal/bytealg.abigen_runtime_cmpstring"], unfollowed := true, recurses := true, named := ["math/bits.deBruijn64tab"], apart := false, laid := [("math/bits.deBruijn64tab", laid_math_bits_deBruijn64tab)] }
def PartsWrongSaid : Prop := partsWrongRow.holds Tryz.pinned (OpenSpec.ofChange partsWrongSpec)

/-- ITS FALSE NEIGHBOUR: 'it returns false'. Refute it at one input. -/
def partsWrongWrong : ChangeSpec := { name := "partsWrong", fn := fun _ => fun
  | [d1, d2, d3, d4, d5] => { results := [.lit (.bool false)], args := [d1, d2, d3, d4, d5] }
  | _ => none }
def PartsWrongWrongFalsely : Prop := partsWrongRow.holds Tryz.pinned (OpenSpec.ofChange partsWrongWrong)

/-- 'loftlaw14.PartsPlays': WHATEVER THE INPUT: true; the input reads as it did. -/
def partsPlaysSpec : ChangeSpec := { name := "partsPlays", fn := fun _ => fun
  | [d1, d2] => { results := [.lit (.bool true)], args := [d1, d2] }
  | _ => none }
def partsPlaysRow : OpenClaim := { program := "ytjpmlneihbckpaagreatdoor", sum := "08d1268c03f5119cfe3a16efd371a5c2427da40eb387d1e15870b45cea16e021", func := "loft/loftlaw14.PartsPlays", spec := "partsPlays", inPlace := ["internal/bytealg.abigen_runtime_cmpstring"], unfollowed := true, recurses := true, named := ["math/bits.deBruijn64tab"], apart := false, laid := [("math/bits.deBruijn64tab", laid_math_bits_deBruijn64tab)] }
def PartsPlaysSaid : Prop := partsPlaysRow.holds Tryz.pinned (OpenSpec.ofChange partsPlaysSpec)

/-- ITS FALSE NEIGHBOUR: 'it returns false'. Refute it at one input. -/
def partsPlaysWrong : ChangeSpec := { name := "partsPlays", fn := fun _ => fun
  | [d1, d2] => { results := [.lit (.bool false)], args := [d1, d2] }
  | _ => none }
def PartsPlaysWrongFalsely : Prop := partsPlaysRow.holds Tryz.pinned (OpenSpec.ofChange partsPlaysWrong)

/- THE SECOND FORM. 'bulk': how many values and letters a reading holds, each counted each time it is reached (what is shared counts as often as it is met; a slice's spare places count too). A statement '..UptoSaid' is the law's where the arguments, and the package variables that the reading takes, are together of bulk at most 1048576: NARROWER than '..Said'. Prove '..Said' where nothing that the law and all that it calls make is longer than what came in: it says more and counts as full. Else prove '..UptoSaid'. A law counts once. -/
mutual
def uptoBulk {H : Type} : DataW H → Nat
  | .lit (.string bytes) => bytes.length + 1
  | .lit _ => 1
  | .nil => 1
  | .ptr d => uptoBulk d + 1
  | .slice elems spare => uptoBulkAll elems + uptoBulkAll spare + 1
  | .agg parts => uptoBulkAll parts + 1
  | .iface _ d => uptoBulk d + 1
  | .map entries => uptoBulkEntries entries + 1
  | .held _ => 1
def uptoBulkAll {H : Type} : List (DataW H) → Nat
  | [] => 0
  | d :: r => uptoBulk d + uptoBulkAll r
def uptoBulkEntries {H : Type} : List (Lit × DataW H) → Nat
  | [] => 0
  | x :: r => uptoBulkEntry x + uptoBulkEntries r
def uptoBulkEntry {H : Type} : Lit × DataW H → Nat
  | (.string bytes, d) => bytes.length + uptoBulk d + 1
  | (_, d) => uptoBulk d + 1
 end
def uptoSmall : (H : Type) → List (DataW H) → Bool := fun _ ds => decide (uptoBulkAll ds ≤ 1048576)
def OpenSpec.upto (s : _root_.Go.ChangeSpec) : _root_.Go.OpenSpec := { _root_.Go.OpenSpec.ofChange s with cond := some uptoSmall }

/-- 'loftlaw13.RedHigh', WHERE WHAT IT READS IS OF BULK AT MOST 1048576: true; the input reads as it did. -/
def redHighUptoRow : OpenClaim := { program := "ytjpmlneihbckpaagreatdoor", sum := "08d1268c03f5119cfe3a16efd371a5c2427da40eb387d1e15870b45cea16e021", func := "loft/loftlaw13.RedHigh", spec := "redHigh", inPlace := ["internal/bytealg.abigen_runtime_cmpstring"], unfollowed := true, recurses := true, named := ["math/bits.deBruijn64tab"], apart := false, laid := [("math/bits.deBruijn64tab", laid_math_bits_deBruijn64tab)], narrowed := true }
def RedHighUptoSaid : Prop := redHighUptoRow.holds Tryz.pinned (OpenSpec.upto redHighSpec)

/-- 'loftlaw13.RedNone', WHERE WHAT IT READS IS OF BULK AT MOST 1048576: true; the input reads as it did. -/
def redNoneUptoRow : OpenClaim := { program := "ytjpmlneihbckpaagreatdoor", sum := "08d1268c03f5119cfe3a16efd371a5c2427da40eb387d1e15870b45cea16e021", func := "loft/loftlaw13.RedNone", spec := "redNone", inPlace := ["internal/bytealg.abigen_runtime_cmpstring"], unfollowed := true, recurses := true, named := ["math/bits.deBruijn64tab"], apart := false, laid := [("math/bits.deBruijn64tab", laid_math_bits_deBruijn64tab)], narrowed := true }
def RedNoneUptoSaid : Prop := redNoneUptoRow.holds Tryz.pinned (OpenSpec.upto redNoneSpec)

/-- 'loftlaw13.RedWays', WHERE WHAT IT READS IS OF BULK AT MOST 1048576: true; the input reads as it did. -/
def redWaysUptoRow : OpenClaim := { program := "ytjpmlneihbckpaagreatdoor", sum := "08d1268c03f5119cfe3a16efd371a5c2427da40eb387d1e15870b45cea16e021", func := "loft/loftlaw13.RedWays", spec := "redWays", inPlace := ["internal/bytealg.abigen_runtime_cmpstring"], unfollowed := true, recurses := true, named := ["math/bits.deBruijn64tab"], apart := false, laid := [("math/bits.deBruijn64tab", laid_math_bits_deBruijn64tab)], narrowed := true }
def RedWaysUptoSaid : Prop := redWaysUptoRow.holds Tryz.pinned (OpenSpec.upto redWaysSpec)

/-- 'loftlaw13.RedJoins', WHERE WHAT IT READS IS OF BULK AT MOST 1048576: true; the input reads as it did. -/
def redJoinsUptoRow : OpenClaim := { program := "ytjpmlneihbckpaagreatdoor", sum := "08d1268c03f5119cfe3a16efd371a5c2427da40eb387d1e15870b45cea16e021", func := "loft/loftlaw13.RedJoins", spec := "redJoins", inPlace := ["internal/bytealg.abigen_runtime_cmpstring"], unfollowed := true, recurses := true, named := ["math/bits.deBruijn64tab"], apart := false, laid := [("math/bits.deBruijn64tab", laid_math_bits_deBruijn64tab)], narrowed := true }
def RedJoinsUptoSaid : Prop := redJoinsUptoRow.holds Tryz.pinned (OpenSpec.upto redJoinsSpec)

/-- 'loftlaw13.RedWrong', WHERE WHAT IT READS IS OF BULK AT MOST 1048576: true; the input reads as it did. -/
def redWrongUptoRow : OpenClaim := { program := "ytjpmlneihbckpaagreatdoor", sum := "08d1268c03f5119cfe3a16efd371a5c2427da40eb387d1e15870b45cea16e021", func := "loft/loftlaw13.RedWrong", spec := "redWrong", inPlace := ["internal/bytealg.abigen_runtime_cmpstring"], unfollowed := true, recurses := true, named := ["math/bits.deBruijn64tab"], apart := false, laid := [("math/bits.deBruijn64tab", laid_math_bits_deBruijn64tab)], narrowed := true }
def RedWrongUptoSaid : Prop := redWrongUptoRow.holds Tryz.pinned (OpenSpec.upto redWrongSpec)

/-- 'loftlaw13.RedKeeps', WHERE WHAT IT READS IS OF BULK AT MOST 1048576: true; the input reads as it did. -/
def redKeepsUptoRow : OpenClaim := { program := "ytjpmlneihbckpaagreatdoor", sum := "08d1268c03f5119cfe3a16efd371a5c2427da40eb387d1e15870b45cea16e021", func := "loft/loftlaw13.RedKeeps", spec := "redKeeps", inPlace := ["internal/bytealg.abigen_runtime_cmpstring"], unfollowed := true, recurses := true, named := ["math/bits.deBruijn64tab"], apart := false, laid := [("math/bits.deBruijn64tab", laid_math_bits_deBruijn64tab)], narrowed := true }
def RedKeepsUptoSaid : Prop := redKeepsUptoRow.holds Tryz.pinned (OpenSpec.upto redKeepsSpec)

/-- 'loftlaw14.PartsOrder', WHERE WHAT IT READS IS OF BULK AT MOST 1048576: true; the input reads as it did. -/
def partsOrderUptoRow : OpenClaim := { program := "ytjpmlneihbckpaagreatdoor", sum := "08d1268c03f5119cfe3a16efd371a5c2427da40eb387d1e15870b45cea16e021", func := "loft/loftlaw14.PartsOrder", spec := "partsOrder", inPlace := ["internal/bytealg.abigen_runtime_cmpstring"], unfollowed := true, recurses := true, named := ["math/bits.deBruijn64tab"], apart := false, laid := [("math/bits.deBruijn64tab", laid_math_bits_deBruijn64tab)], narrowed := true }
def PartsOrderUptoSaid : Prop := partsOrderUptoRow.holds Tryz.pinned (OpenSpec.upto partsOrderSpec)

/-- 'loftlaw14.PartsEnds', WHERE WHAT IT READS IS OF BULK AT MOST 1048576: true; the input reads as it did. -/
def partsEndsUptoRow : OpenClaim := { program := "ytjpmlneihbckpaagreatdoor", sum := "08d1268c03f5119cfe3a16efd371a5c2427da40eb387d1e15870b45cea16e021", func := "loft/loftlaw14.PartsEnds", spec := "partsEnds", inPlace := ["internal/bytealg.abigen_runtime_cmpstring"], unfollowed := true, recurses := true, named := ["math/bits.deBruijn64tab"], apart := false, laid := [("math/bits.deBruijn64tab", laid_math_bits_deBruijn64tab)], narrowed := true }
def PartsEndsUptoSaid : Prop := partsEndsUptoRow.holds Tryz.pinned (OpenSpec.upto partsEndsSpec)

/-- 'loftlaw14.PartsNone', WHERE WHAT IT READS IS OF BULK AT MOST 1048576: true; the input reads as it did. -/
def partsNoneUptoRow : OpenClaim := { program := "ytjpmlneihbckpaagreatdoor", sum := "08d1268c03f5119cfe3a16efd371a5c2427da40eb387d1e15870b45cea16e021", func := "loft/loftlaw14.PartsNone", spec := "partsNone", inPlace := ["internal/bytealg.abigen_runtime_cmpstring"], unfollowed := true, recurses := true, named := ["math/bits.deBruijn64tab"], apart := false, laid := [("math/bits.deBruijn64tab", laid_math_bits_deBruijn64tab)], narrowed := true }
def PartsNoneUptoSaid : Prop := partsNoneUptoRow.holds Tryz.pinned (OpenSpec.upto partsNoneSpec)

/-- 'loftlaw14.PartsCut', WHERE WHAT IT READS IS OF BULK AT MOST 1048576: true; the input reads as it did. -/
def partsCutUptoRow : OpenClaim := { program := "ytjpmlneihbckpaagreatdoor", sum := "08d1268c03f5119cfe3a16efd371a5c2427da40eb387d1e15870b45cea16e021", func := "loft/loftlaw14.PartsCut", spec := "partsCut", inPlace := ["internal/bytealg.abigen_runtime_cmpstring"], unfollowed := true, recurses := true, named := ["math/bits.deBruijn64tab"], apart := false, laid := [("math/bits.deBruijn64tab", laid_math_bits_deBruijn64tab)], narrowed := true }
def PartsCutUptoSaid : Prop := partsCutUptoRow.holds Tryz.pinned (OpenSpec.upto partsCutSpec)

/-- 'loftlaw14.PartsWrong', WHERE WHAT IT READS IS OF BULK AT MOST 1048576: true; the input reads as it did. -/
def partsWrongUptoRow : OpenClaim := { program := "ytjpmlneihbckpaagreatdoor", sum := "08d1268c03f5119cfe3a16efd371a5c2427da40eb387d1e15870b45cea16e021", func := "loft/loftlaw14.PartsWrong", spec := "partsWrong", inPlace := ["internal/bytealg.abigen_runtime_cmpstring"], unfollowed := true, recurses := true, named := ["math/bits.deBruijn64tab"], apart := false, laid := [("math/bits.deBruijn64tab", laid_math_bits_deBruijn64tab)], narrowed := true }
def PartsWrongUptoSaid : Prop := partsWrongUptoRow.holds Tryz.pinned (OpenSpec.upto partsWrongSpec)

/-- 'loftlaw14.PartsPlays', WHERE WHAT IT READS IS OF BULK AT MOST 1048576: true; the input reads as it did. -/
def partsPlaysUptoRow : OpenClaim := { program := "ytjpmlneihbckpaagreatdoor", sum := "08d1268c03f5119cfe3a16efd371a5c2427da40eb387d1e15870b45cea16e021", func := "loft/loftlaw14.PartsPlays", spec := "partsPlays", inPlace := ["internal/bytealg.abigen_runtime_cmpstring"], unfollowed := true, recurses := true, named := ["math/bits.deBruijn64tab"], apart := false, laid := [("math/bits.deBruijn64tab", laid_math_bits_deBruijn64tab)], narrowed := true }
def PartsPlaysUptoSaid : Prop := partsPlaysUptoRow.holds Tryz.pinned (OpenSpec.upto partsPlaysSpec)

end Rows
end Go.Proofs.YtjpmlneihbckpaaGreatDoor
