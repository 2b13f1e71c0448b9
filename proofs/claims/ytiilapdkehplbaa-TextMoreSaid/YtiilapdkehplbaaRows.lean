/-
  No cell of these rows narrows 'for every input' (looked for: loops, veiled, ifaces, maps, wideKeys, modest, calm, conditions, laid).
  DERIVED. THE GIVEN ROWS OF THIS SEAT. 7 by the template 'for every input the law returns true; each argument reads behind the call as it read before'; 0 by the template 'total and deterministic' (their statements: YtiilapdkehplbaaTotals.lean).
  GIVEN WITH THE SEED: the statements are not yours to turn. If you find one false, say at which input.
  Laid BY PROGRAM, IN A SANDBOX (cutbox-rows.mjs): the forced cells as the released guide's own fill.sh prints them over the translation fe8e7972fb77aabc… (all of the seat's roots in one cut). By AI agents, Wed Nov 11 2026. No macro, syntax, notation, axiom, sorry.
-/
import Derived.Test.YtiilapdkehplbaaChecked
import GoSem.Claim
import GoSem.ClaimJoined
import GoSem.ClaimMapViews
import Derived.JoinedTies
import Derived.KernelRfl
namespace Go.Proofs.Ytiilapdkehplbaa
/- THE CELL 'sum', in the pinned program and in every row, IS THE sha256 OF THE DUMP (.gsa) THAT YtiilapdkehplbaaProg.lean LOADS. Nothing in Lean hashes anything: it is a label: what it is worth is what the hold of that sum in a sandbox is worth. -/
noncomputable def Try.pinned : Pinned := { name := "ytiilapdkehplbaa", sum := "fe8e7972fb77aabc22efa3e5819926d1adeb8b54a7cecbc633a53c02b408d064", checked := Try.checked }
namespace Rows
def none {H : Type} : Left H := { results := [], args := [] }

/-- 'loftlaw08.TextWords': WHATEVER THE INPUT: true; the input reads as it did. -/
def textWordsSpec : ChangeSpec := { name := "textWords", fn := fun _ => fun
  | [d1, d2] => { results := [.lit (.bool true)], args := [d1, d2] }
  | _ => none }
def textWordsRow : OpenClaim := { program := "ytiilapdkehplbaa", sum := "fe8e7972fb77aabc22efa3e5819926d1adeb8b54a7cecbc633a53c02b408d064", func := "loft/loftlaw08.TextWords", spec := "textWords", inPlace := ["internal/bytealg.abigen_runtime_cmpstring"], unfollowed := true, recurses := true, apart := false }
def TextWordsSaid : Prop := textWordsRow.holds Try.pinned (OpenSpec.ofChange textWordsSpec)

/-- ITS FALSE NEIGHBOUR: 'it returns false'. Refute it at one input. -/
def textWordsWrong : ChangeSpec := { name := "textWords", fn := fun _ => fun
  | [d1, d2] => { results := [.lit (.bool false)], args := [d1, d2] }
  | _ => none }
def TextWordsWrongFalsely : Prop := textWordsRow.holds Try.pinned (OpenSpec.ofChange textWordsWrong)

/-- 'loftlaw08.TextOf': WHATEVER THE INPUT: true; the input reads as it did. -/
def textOfSpec : ChangeSpec := { name := "textOf", fn := fun _ => fun
  | [d] => { results := [.lit (.bool true)], args := [d] }
  | _ => none }
def textOfRow : OpenClaim := { program := "ytiilapdkehplbaa", sum := "fe8e7972fb77aabc22efa3e5819926d1adeb8b54a7cecbc633a53c02b408d064", func := "loft/loftlaw08.TextOf", spec := "textOf", inPlace := ["internal/bytealg.abigen_runtime_cmpstring"], unfollowed := true, recurses := true, apart := false }
def TextOfSaid : Prop := textOfRow.holds Try.pinned (OpenSpec.ofChange textOfSpec)

/-- ITS FALSE NEIGHBOUR: 'it returns false'. Refute it at one input. -/
def textOfWrong : ChangeSpec := { name := "textOf", fn := fun _ => fun
  | [d] => { results := [.lit (.bool false)], args := [d] }
  | _ => none }
def TextOfWrongFalsely : Prop := textOfRow.holds Try.pinned (OpenSpec.ofChange textOfWrong)

/-- 'loftlaw08.TextCompare': WHATEVER THE INPUT: true; the input reads as it did. -/
def textCompareSpec : ChangeSpec := { name := "textCompare", fn := fun _ => fun
  | [d1, d2] => { results := [.lit (.bool true)], args := [d1, d2] }
  | _ => none }
def textCompareRow : OpenClaim := { program := "ytiilapdkehplbaa", sum := "fe8e7972fb77aabc22efa3e5819926d1adeb8b54a7cecbc633a53c02b408d064", func := "loft/loftlaw08.TextCompare", spec := "textCompare", inPlace := ["internal/bytealg.abigen_runtime_cmpstring"], unfollowed := true, recurses := true, apart := false }
def TextCompareSaid : Prop := textCompareRow.holds Try.pinned (OpenSpec.ofChange textCompareSpec)

/-- ITS FALSE NEIGHBOUR: 'it returns false'. Refute it at one input. -/
def textCompareWrong : ChangeSpec := { name := "textCompare", fn := fun _ => fun
  | [d1, d2] => { results := [.lit (.bool false)], args := [d1, d2] }
  | _ => none }
def TextCompareWrongFalsely : Prop := textCompareRow.holds Try.pinned (OpenSpec.ofChange textCompareWrong)

/-- 'loftlaw08.TextBack': WHATEVER THE INPUT: true; the input reads as it did. -/
def textBackSpec : ChangeSpec := { name := "textBack", fn := fun _ => fun
  | [d1, d2] => { results := [.lit (.bool true)], args := [d1, d2] }
  | _ => none }
def textBackRow : OpenClaim := { program := "ytiilapdkehplbaa", sum := "fe8e7972fb77aabc22efa3e5819926d1adeb8b54a7cecbc633a53c02b408d064", func := "loft/loftlaw08.TextBack", spec := "textBack", inPlace := ["internal/bytealg.abigen_runtime_cmpstring"], unfollowed := true, recurses := true, apart := false }
def TextBackSaid : Prop := textBackRow.holds Try.pinned (OpenSpec.ofChange textBackSpec)

/-- ITS FALSE NEIGHBOUR: 'it returns false'. Refute it at one input. -/
def textBackWrong : ChangeSpec := { name := "textBack", fn := fun _ => fun
  | [d1, d2] => { results := [.lit (.bool false)], args := [d1, d2] }
  | _ => none }
def TextBackWrongFalsely : Prop := textBackRow.holds Try.pinned (OpenSpec.ofChange textBackWrong)

/-- 'loftlaw08.TextOrder': WHATEVER THE INPUT: true; the input reads as it did. -/
def textOrderSpec : ChangeSpec := { name := "textOrder", fn := fun _ => fun
  | [d1, d2, d3] => { results := [.lit (.bool true)], args := [d1, d2, d3] }
  | _ => none }
def textOrderRow : OpenClaim := { program := "ytiilapdkehplbaa", sum := "fe8e7972fb77aabc22efa3e5819926d1adeb8b54a7cecbc633a53c02b408d064", func := "loft/loftlaw08.TextOrder", spec := "textOrder", inPlace := ["internal/bytealg.abigen_runtime_cmpstring"], unfollowed := true, recurses := true, apart := false }
def TextOrderSaid : Prop := textOrderRow.holds Try.pinned (OpenSpec.ofChange textOrderSpec)

/-- ITS FALSE NEIGHBOUR: 'it returns false'. Refute it at one input. -/
def textOrderWrong : ChangeSpec := { name := "textOrder", fn := fun _ => fun
  | [d1, d2, d3] => { results := [.lit (.bool false)], args := [d1, d2, d3] }
  | _ => none }
def TextOrderWrongFalsely : Prop := textOrderRow.holds Try.pinned (OpenSpec.ofChange textOrderWrong)

/-- 'loftlaw08.TextBytes': WHATEVER THE INPUT: true; the input reads as it did. -/
def textBytesSpec : ChangeSpec := { name := "textBytes", fn := fun _ => fun
  | [d1, d2] => { results := [.lit (.bool true)], args := [d1, d2] }
  | _ => none }
def textBytesRow : OpenClaim := { program := "ytiilapdkehplbaa", sum := "fe8e7972fb77aabc22efa3e5819926d1adeb8b54a7cecbc633a53c02b408d064", func := "loft/loftlaw08.TextBytes", spec := "textBytes", inPlace := ["internal/bytealg.abigen_runtime_cmpstring"], unfollowed := true, recurses := true, apart := false }
def TextBytesSaid : Prop := textBytesRow.holds Try.pinned (OpenSpec.ofChange textBytesSpec)

/-- ITS FALSE NEIGHBOUR: 'it returns false'. Refute it at one input. -/
def textBytesWrong : ChangeSpec := { name := "textBytes", fn := fun _ => fun
  | [d1, d2] => { results := [.lit (.bool false)], args := [d1, d2] }
  | _ => none }
def TextBytesWrongFalsely : Prop := textBytesRow.holds Try.pinned (OpenSpec.ofChange textBytesWrong)

/-- 'loftlaw08.TextMore': WHATEVER THE INPUT: true; the input reads as it did. -/
def textMoreSpec : ChangeSpec := { name := "textMore", fn := fun _ => fun
  | [d1, d2, d3] => { results := [.lit (.bool true)], args := [d1, d2, d3] }
  | _ => none }
def textMoreRow : OpenClaim := { program := "ytiilapdkehplbaa", sum := "fe8e7972fb77aabc22efa3e5819926d1adeb8b54a7cecbc633a53c02b408d064", func := "loft/loftlaw08.TextMore", spec := "textMore", inPlace := ["internal/bytealg.abigen_runtime_cmpstring"], unfollowed := true, recurses := true, apart := false }
def TextMoreSaid : Prop := textMoreRow.holds Try.pinned (OpenSpec.ofChange textMoreSpec)

/-- ITS FALSE NEIGHBOUR: 'it returns false'. Refute it at one input. -/
def textMoreWrong : ChangeSpec := { name := "textMore", fn := fun _ => fun
  | [d1, d2, d3] => { results := [.lit (.bool false)], args := [d1, d2, d3] }
  | _ => none }
def TextMoreWrongFalsely : Prop := textMoreRow.holds Try.pinned (OpenSpec.ofChange textMoreWrong)

/- THE SECOND FORM. 'bulk': how many values and letters a reading holds, each counted each time it is reached (what is shared counts as often as it is met; a slice's spare places count too). A statement '..UptoSaid' is the law's where the arguments, and the package variables that the reading takes, are together of bulk at most 1048576: NARROWER than '..Said'. Prove '..Said' where nothing that the law and all that it calls make is longer than what came in: it says more and counts as full. Else prove '..UptoSaid'. A law counts once. -/
mutual
def uptoBulk {H : Type} : DataW H → Nat
  | .lit (.string bytes) => bytes.length + 1
  | .lit _ => 1
  | .nil => 1
  | .ptr d => uptoBulk d + 1
  | .slice elems spare => uptoBulkAll elems + uptoBulkAll spare + 1
  | .agg parts => uptoBulkAll parts + 1
  | .iface _ d => uptoBulk d + 1
  | .map entries => uptoBulkEntries entries + 1
  | .held _ => 1
def uptoBulkAll {H : Type} : List (DataW H) → Nat
  | [] => 0
  | d :: r => uptoBulk d + uptoBulkAll r
def uptoBulkEntries {H : Type} : List (Lit × DataW H) → Nat
  | [] => 0
  | x :: r => uptoBulkEntry x + uptoBulkEntries r
def uptoBulkEntry {H : Type} : Lit × DataW H → Nat
  | (.string bytes, d) => bytes.length + uptoBulk d + 1
  | (_, d) => uptoBulk d + 1
 end
def uptoSmall : (H : Type) → List (DataW H) → Bool := fun _ ds => decide (uptoBulkAll ds ≤ 1048576)
def OpenSpec.upto (s : _root_.Go.ChangeSpec) : _root_.Go.OpenSpec := { _root_.Go.OpenSpec.ofChange s with cond := some uptoSmall }

/-- 'loftlaw08.TextWords', WHERE WHAT IT READS IS OF BULK AT MOST 1048576: true; the input reads as it did. -/
def textWordsUptoRow : OpenClaim := { program := "ytiilapdkehplbaa", sum := "fe8e7972fb77aabc22efa3e5819926d1adeb8b54a7cecbc633a53c02b408d064", func := "loft/loftlaw08.TextWords", spec := "textWords", inPlace := ["internal/bytealg.abigen_runtime_cmpstring"], unfollowed := true, recurses := true, apart := false, narrowed := true }
def TextWordsUptoSaid : Prop := textWordsUptoRow.holds Try.pinned (OpenSpec.upto textWordsSpec)

/-- 'loftlaw08.TextOf', WHERE WHAT IT READS IS OF BULK AT MOST 1048576: true; the input reads as it did. -/
def textOfUptoRow : OpenClaim := { program := "ytiilapdkehplbaa", sum := "fe8e7972fb77aabc22efa3e5819926d1adeb8b54a7cecbc633a53c02b408d064", func := "loft/loftlaw08.TextOf", spec := "textOf", inPlace := ["internal/bytealg.abigen_runtime_cmpstring"], unfollowed := true, recurses := true, apart := false, narrowed := true }
def TextOfUptoSaid : Prop := textOfUptoRow.holds Try.pinned (OpenSpec.upto textOfSpec)

/-- 'loftlaw08.TextCompare', WHERE WHAT IT READS IS OF BULK AT MOST 1048576: true; the input reads as it did. -/
def textCompareUptoRow : OpenClaim := { program := "ytiilapdkehplbaa", sum := "fe8e7972fb77aabc22efa3e5819926d1adeb8b54a7cecbc633a53c02b408d064", func := "loft/loftlaw08.TextCompare", spec := "textCompare", inPlace := ["internal/bytealg.abigen_runtime_cmpstring"], unfollowed := true, recurses := true, apart := false, narrowed := true }
def TextCompareUptoSaid : Prop := textCompareUptoRow.holds Try.pinned (OpenSpec.upto textCompareSpec)

/-- 'loftlaw08.TextBack', WHERE WHAT IT READS IS OF BULK AT MOST 1048576: true; the input reads as it did. -/
def textBackUptoRow : OpenClaim := { program := "ytiilapdkehplbaa", sum := "fe8e7972fb77aabc22efa3e5819926d1adeb8b54a7cecbc633a53c02b408d064", func := "loft/loftlaw08.TextBack", spec := "textBack", inPlace := ["internal/bytealg.abigen_runtime_cmpstring"], unfollowed := true, recurses := true, apart := false, narrowed := true }
def TextBackUptoSaid : Prop := textBackUptoRow.holds Try.pinned (OpenSpec.upto textBackSpec)

/-- 'loftlaw08.TextOrder', WHERE WHAT IT READS IS OF BULK AT MOST 1048576: true; the input reads as it did. -/
def textOrderUptoRow : OpenClaim := { program := "ytiilapdkehplbaa", sum := "fe8e7972fb77aabc22efa3e5819926d1adeb8b54a7cecbc633a53c02b408d064", func := "loft/loftlaw08.TextOrder", spec := "textOrder", inPlace := ["internal/bytealg.abigen_runtime_cmpstring"], unfollowed := true, recurses := true, apart := false, narrowed := true }
def TextOrderUptoSaid : Prop := textOrderUptoRow.holds Try.pinned (OpenSpec.upto textOrderSpec)

/-- 'loftlaw08.TextBytes', WHERE WHAT IT READS IS OF BULK AT MOST 1048576: true; the input reads as it did. -/
def textBytesUptoRow : OpenClaim := { program := "ytiilapdkehplbaa", sum := "fe8e7972fb77aabc22efa3e5819926d1adeb8b54a7cecbc633a53c02b408d064", func := "loft/loftlaw08.TextBytes", spec := "textBytes", inPlace := ["internal/bytealg.abigen_runtime_cmpstring"], unfollowed := true, recurses := true, apart := false, narrowed := true }
def TextBytesUptoSaid : Prop := textBytesUptoRow.holds Try.pinned (OpenSpec.upto textBytesSpec)

/-- 'loftlaw08.TextMore', WHERE WHAT IT READS IS OF BULK AT MOST 1048576: true; the input reads as it did. -/
def textMoreUptoRow : OpenClaim := { program := "ytiilapdkehplbaa", sum := "fe8e7972fb77aabc22efa3e5819926d1adeb8b54a7cecbc633a53c02b408d064", func := "loft/loftlaw08.TextMore", spec := "textMore", inPlace := ["internal/bytealg.abigen_runtime_cmpstring"], unfollowed := true, recurses := true, apart := false, narrowed := true }
def TextMoreUptoSaid : Prop := textMoreUptoRow.holds Try.pinned (OpenSpec.upto textMoreSpec)

end Rows
end Go.Proofs.Ytiilapdkehplbaa
