/-
  No cell of these rows narrows 'for every input' (looked for: loops, veiled, ifaces, maps, wideKeys, modest, calm, conditions, laid).
  DERIVED. THE GIVEN ROWS OF THIS SEAT. 7 by the template 'for every input the law returns true; each argument reads behind the call as it read before'; 0 by the template 'total and deterministic' (their statements: YtokbglpmkekdnaaTotals.lean).
  GIVEN WITH THE SEED: the statements are not yours to turn. If you find one false, say at which input.
  Laid BY PROGRAM, IN A SANDBOX (cutbox-rows.mjs): the forced cells as the released guide's own fill.sh prints them over the translation 59f5c73f691078ac… (all of the seat's roots in one cut). By AI agents, Wed Nov 11 2026. No macro, syntax, notation, axiom, sorry.
-/
import Derived.Test.YtokbglpmkekdnaaChecked
import GoSem.Claim
import GoSem.ClaimJoined
import GoSem.ClaimMapViews
import Derived.JoinedTies
import Derived.KernelRfl
namespace Go.Proofs.Ytokbglpmkekdnaa
/- THE CELL 'sum', in the pinned program and in every row, IS THE sha256 OF THE DUMP (.gsa) THAT YtokbglpmkekdnaaProg.lean LOADS. Nothing in Lean hashes anything: it is a label: what it is worth is what the hold of that sum in a sandbox is worth. -/
noncomputable def Try.pinned : Pinned := { name := "ytokbglpmkekdnaa", sum := "59f5c73f691078ac028554d92f3d1cf1ed01073d7574d6168f5cca9842ebdfab", checked := Try.checked }
namespace Rows
def none {H : Type} : Left H := { results := [], args := [] }

/-- 'loftlaw03.ClassOf': WHATEVER THE INPUT: true; the input reads as it did. -/
def classOfSpec : ChangeSpec := { name := "classOf", fn := fun _ => fun
  | [d] => { results := [.lit (.bool true)], args := [d] }
  | _ => none }
def classOfRow : OpenClaim := { program := "ytokbglpmkekdnaa", sum := "59f5c73f691078ac028554d92f3d1cf1ed01073d7574d6168f5cca9842ebdfab", func := "loft/loftlaw03.ClassOf", spec := "classOf", unfollowed := true, recurses := true, apart := false }
def ClassOfSaid : Prop := classOfRow.holds Try.pinned (OpenSpec.ofChange classOfSpec)

/-- ITS FALSE NEIGHBOUR: 'it returns false'. Refute it at one input. -/
def classOfWrong : ChangeSpec := { name := "classOf", fn := fun _ => fun
  | [d] => { results := [.lit (.bool false)], args := [d] }
  | _ => none }
def ClassOfWrongFalsely : Prop := classOfRow.holds Try.pinned (OpenSpec.ofChange classOfWrong)

/-- 'loftlaw03.ClassFits': WHATEVER THE INPUT: true; the input reads as it did. -/
def classFitsSpec : ChangeSpec := { name := "classFits", fn := fun _ => fun
  | [d] => { results := [.lit (.bool true)], args := [d] }
  | _ => none }
def classFitsRow : OpenClaim := { program := "ytokbglpmkekdnaa", sum := "59f5c73f691078ac028554d92f3d1cf1ed01073d7574d6168f5cca9842ebdfab", func := "loft/loftlaw03.ClassFits", spec := "classFits", unfollowed := true, recurses := true, apart := false }
def ClassFitsSaid : Prop := classFitsRow.holds Try.pinned (OpenSpec.ofChange classFitsSpec)

/-- ITS FALSE NEIGHBOUR: 'it returns false'. Refute it at one input. -/
def classFitsWrong : ChangeSpec := { name := "classFits", fn := fun _ => fun
  | [d] => { results := [.lit (.bool false)], args := [d] }
  | _ => none }
def ClassFitsWrongFalsely : Prop := classFitsRow.holds Try.pinned (OpenSpec.ofChange classFitsWrong)

/-- 'loftlaw03.ClassGrows': WHATEVER THE INPUT: true; the input reads as it did. -/
def classGrowsSpec : ChangeSpec := { name := "classGrows", fn := fun _ => fun
  | [d1, d2] => { results := [.lit (.bool true)], args := [d1, d2] }
  | _ => none }
def classGrowsRow : OpenClaim := { program := "ytokbglpmkekdnaa", sum := "59f5c73f691078ac028554d92f3d1cf1ed01073d7574d6168f5cca9842ebdfab", func := "loft/loftlaw03.ClassGrows", spec := "classGrows", unfollowed := true, recurses := true, apart := false }
def ClassGrowsSaid : Prop := classGrowsRow.holds Try.pinned (OpenSpec.ofChange classGrowsSpec)

/-- ITS FALSE NEIGHBOUR: 'it returns false'. Refute it at one input. -/
def classGrowsWrong : ChangeSpec := { name := "classGrows", fn := fun _ => fun
  | [d1, d2] => { results := [.lit (.bool false)], args := [d1, d2] }
  | _ => none }
def ClassGrowsWrongFalsely : Prop := classGrowsRow.holds Try.pinned (OpenSpec.ofChange classGrowsWrong)

/-- 'loftlaw03.ClassAll': WHATEVER THE INPUT: true; the input reads as it did. -/
def classAllSpec : ChangeSpec := { name := "classAll", fn := fun _ => fun
  | [d] => { results := [.lit (.bool true)], args := [d] }
  | _ => none }
def classAllRow : OpenClaim := { program := "ytokbglpmkekdnaa", sum := "59f5c73f691078ac028554d92f3d1cf1ed01073d7574d6168f5cca9842ebdfab", func := "loft/loftlaw03.ClassAll", spec := "classAll", unfollowed := true, recurses := true, apart := false }
def ClassAllSaid : Prop := classAllRow.holds Try.pinned (OpenSpec.ofChange classAllSpec)

/-- ITS FALSE NEIGHBOUR: 'it returns false'. Refute it at one input. -/
def classAllWrong : ChangeSpec := { name := "classAll", fn := fun _ => fun
  | [d] => { results := [.lit (.bool false)], args := [d] }
  | _ => none }
def ClassAllWrongFalsely : Prop := classAllRow.holds Try.pinned (OpenSpec.ofChange classAllWrong)

/-- 'loftlaw03.ClassSizes': WHATEVER THE INPUT: true; the input reads as it did. -/
def classSizesSpec : ChangeSpec := { name := "classSizes", fn := fun _ => fun
  | [d1, d2] => { results := [.lit (.bool true)], args := [d1, d2] }
  | _ => none }
def classSizesRow : OpenClaim := { program := "ytokbglpmkekdnaa", sum := "59f5c73f691078ac028554d92f3d1cf1ed01073d7574d6168f5cca9842ebdfab", func := "loft/loftlaw03.ClassSizes", spec := "classSizes", unfollowed := true, recurses := true, apart := false }
def ClassSizesSaid : Prop := classSizesRow.holds Try.pinned (OpenSpec.ofChange classSizesSpec)

/-- ITS FALSE NEIGHBOUR: 'it returns false'. Refute it at one input. -/
def classSizesWrong : ChangeSpec := { name := "classSizes", fn := fun _ => fun
  | [d1, d2] => { results := [.lit (.bool false)], args := [d1, d2] }
  | _ => none }
def ClassSizesWrongFalsely : Prop := classSizesRow.holds Try.pinned (OpenSpec.ofChange classSizesWrong)

/-- 'loftlaw03.ClassApart': WHATEVER THE INPUT: true; the input reads as it did. -/
def classApartSpec : ChangeSpec := { name := "classApart", fn := fun _ => fun
  | [d1, d2, d3] => { results := [.lit (.bool true)], args := [d1, d2, d3] }
  | _ => none }
def classApartRow : OpenClaim := { program := "ytokbglpmkekdnaa", sum := "59f5c73f691078ac028554d92f3d1cf1ed01073d7574d6168f5cca9842ebdfab", func := "loft/loftlaw03.ClassApart", spec := "classApart", unfollowed := true, recurses := true, apart := false }
def ClassApartSaid : Prop := classApartRow.holds Try.pinned (OpenSpec.ofChange classApartSpec)

/-- ITS FALSE NEIGHBOUR: 'it returns false'. Refute it at one input. -/
def classApartWrong : ChangeSpec := { name := "classApart", fn := fun _ => fun
  | [d1, d2, d3] => { results := [.lit (.bool false)], args := [d1, d2, d3] }
  | _ => none }
def ClassApartWrongFalsely : Prop := classApartRow.holds Try.pinned (OpenSpec.ofChange classApartWrong)

/-- 'loftlaw03.ClassRow': WHATEVER THE INPUT: true; the input reads as it did. -/
def classRowSpec : ChangeSpec := { name := "classRow", fn := fun _ => fun
  | [d] => { results := [.lit (.bool true)], args := [d] }
  | _ => none }
def classRowRow : OpenClaim := { program := "ytokbglpmkekdnaa", sum := "59f5c73f691078ac028554d92f3d1cf1ed01073d7574d6168f5cca9842ebdfab", func := "loft/loftlaw03.ClassRow", spec := "classRow", unfollowed := true, recurses := true, apart := false }
def ClassRowSaid : Prop := classRowRow.holds Try.pinned (OpenSpec.ofChange classRowSpec)

/-- ITS FALSE NEIGHBOUR: 'it returns false'. Refute it at one input. -/
def classRowWrong : ChangeSpec := { name := "classRow", fn := fun _ => fun
  | [d] => { results := [.lit (.bool false)], args := [d] }
  | _ => none }
def ClassRowWrongFalsely : Prop := classRowRow.holds Try.pinned (OpenSpec.ofChange classRowWrong)

/- THE SECOND FORM. 'bulk': how many values and letters a reading holds, each counted each time it is reached (what is shared counts as often as it is met; a slice's spare places count too). A statement '..UptoSaid' is the law's where the arguments, and the package variables that the reading takes, are together of bulk at most 1048576: NARROWER than '..Said'. Prove '..Said' where nothing that the law and all that it calls make is longer than what came in: it says more and counts as full. Else prove '..UptoSaid'. A law counts once. -/
mutual
def uptoBulk {H : Type} : DataW H → Nat
  | .lit (.string bytes) => bytes.length + 1
  | .lit _ => 1
  | .nil => 1
  | .ptr d => uptoBulk d + 1
  | .slice elems spare => uptoBulkAll elems + uptoBulkAll spare + 1
  | .agg parts => uptoBulkAll parts + 1
  | .iface _ d => uptoBulk d + 1
  | .map entries => uptoBulkEntries entries + 1
  | .held _ => 1
def uptoBulkAll {H : Type} : List (DataW H) → Nat
  | [] => 0
  | d :: r => uptoBulk d + uptoBulkAll r
def uptoBulkEntries {H : Type} : List (Lit × DataW H) → Nat
  | [] => 0
  | x :: r => uptoBulkEntry x + uptoBulkEntries r
def uptoBulkEntry {H : Type} : Lit × DataW H → Nat
  | (.string bytes, d) => bytes.length + uptoBulk d + 1
  | (_, d) => uptoBulk d + 1
 end
def uptoSmall : (H : Type) → List (DataW H) → Bool := fun _ ds => decide (uptoBulkAll ds ≤ 1048576)
def OpenSpec.upto (s : _root_.Go.ChangeSpec) : _root_.Go.OpenSpec := { _root_.Go.OpenSpec.ofChange s with cond := some uptoSmall }

/-- 'loftlaw03.ClassOf', WHERE WHAT IT READS IS OF BULK AT MOST 1048576: true; the input reads as it did. -/
def classOfUptoRow : OpenClaim := { program := "ytokbglpmkekdnaa", sum := "59f5c73f691078ac028554d92f3d1cf1ed01073d7574d6168f5cca9842ebdfab", func := "loft/loftlaw03.ClassOf", spec := "classOf", unfollowed := true, recurses := true, apart := false, narrowed := true }
def ClassOfUptoSaid : Prop := classOfUptoRow.holds Try.pinned (OpenSpec.upto classOfSpec)

/-- 'loftlaw03.ClassFits', WHERE WHAT IT READS IS OF BULK AT MOST 1048576: true; the input reads as it did. -/
def classFitsUptoRow : OpenClaim := { program := "ytokbglpmkekdnaa", sum := "59f5c73f691078ac028554d92f3d1cf1ed01073d7574d6168f5cca9842ebdfab", func := "loft/loftlaw03.ClassFits", spec := "classFits", unfollowed := true, recurses := true, apart := false, narrowed := true }
def ClassFitsUptoSaid : Prop := classFitsUptoRow.holds Try.pinned (OpenSpec.upto classFitsSpec)

/-- 'loftlaw03.ClassGrows', WHERE WHAT IT READS IS OF BULK AT MOST 1048576: true; the input reads as it did. -/
def classGrowsUptoRow : OpenClaim := { program := "ytokbglpmkekdnaa", sum := "59f5c73f691078ac028554d92f3d1cf1ed01073d7574d6168f5cca9842ebdfab", func := "loft/loftlaw03.ClassGrows", spec := "classGrows", unfollowed := true, recurses := true, apart := false, narrowed := true }
def ClassGrowsUptoSaid : Prop := classGrowsUptoRow.holds Try.pinned (OpenSpec.upto classGrowsSpec)

/-- 'loftlaw03.ClassAll', WHERE WHAT IT READS IS OF BULK AT MOST 1048576: true; the input reads as it did. -/
def classAllUptoRow : OpenClaim := { program := "ytokbglpmkekdnaa", sum := "59f5c73f691078ac028554d92f3d1cf1ed01073d7574d6168f5cca9842ebdfab", func := "loft/loftlaw03.ClassAll", spec := "classAll", unfollowed := true, recurses := true, apart := false, narrowed := true }
def ClassAllUptoSaid : Prop := classAllUptoRow.holds Try.pinned (OpenSpec.upto classAllSpec)

/-- 'loftlaw03.ClassSizes', WHERE WHAT IT READS IS OF BULK AT MOST 1048576: true; the input reads as it did. -/
def classSizesUptoRow : OpenClaim := { program := "ytokbglpmkekdnaa", sum := "59f5c73f691078ac028554d92f3d1cf1ed01073d7574d6168f5cca9842ebdfab", func := "loft/loftlaw03.ClassSizes", spec := "classSizes", unfollowed := true, recurses := true, apart := false, narrowed := true }
def ClassSizesUptoSaid : Prop := classSizesUptoRow.holds Try.pinned (OpenSpec.upto classSizesSpec)

/-- 'loftlaw03.ClassApart', WHERE WHAT IT READS IS OF BULK AT MOST 1048576: true; the input reads as it did. -/
def classApartUptoRow : OpenClaim := { program := "ytokbglpmkekdnaa", sum := "59f5c73f691078ac028554d92f3d1cf1ed01073d7574d6168f5cca9842ebdfab", func := "loft/loftlaw03.ClassApart", spec := "classApart", unfollowed := true, recurses := true, apart := false, narrowed := true }
def ClassApartUptoSaid : Prop := classApartUptoRow.holds Try.pinned (OpenSpec.upto classApartSpec)

/-- 'loftlaw03.ClassRow', WHERE WHAT IT READS IS OF BULK AT MOST 1048576: true; the input reads as it did. -/
def classRowUptoRow : OpenClaim := { program := "ytokbglpmkekdnaa", sum := "59f5c73f691078ac028554d92f3d1cf1ed01073d7574d6168f5cca9842ebdfab", func := "loft/loftlaw03.ClassRow", spec := "classRow", unfollowed := true, recurses := true, apart := false, narrowed := true }
def ClassRowUptoSaid : Prop := classRowUptoRow.holds Try.pinned (OpenSpec.upto classRowSpec)

end Rows
end Go.Proofs.Ytokbglpmkekdnaa
