/-
  No cell of these rows narrows 'for every input' (looked for: loops, veiled, ifaces, maps, wideKeys, modest, calm, conditions, laid).
  DERIVED. THE GIVEN ROWS OF THIS SEAT. 8 by the template 'for every input the law returns true; each argument reads behind the call as it read before'; 0 by the template 'total and deterministic' (their statements: YtglepciddhbmbaaTotals.lean).
  GIVEN WITH THE SEED: the statements are not yours to turn. If you find one false, say at which input.
  Laid BY PROGRAM, IN A SANDBOX (cutbox-rows.mjs): the forced cells as the released guide's own fill.sh prints them over the translation 862d4b167930b981… (all of the seat's roots in one cut). By AI agents, Wed Nov 11 2026. No macro, syntax, notation, axiom, sorry.
-/
import Derived.Test.YtglepciddhbmbaaChecked
import GoSem.Claim
import GoSem.ClaimJoined
import GoSem.ClaimMapViews
import Derived.JoinedTies
import Derived.KernelRfl
namespace Go.Proofs.Ytglepciddhbmbaa
/- THE CELL 'sum', in the pinned program and in every row, IS THE sha256 OF THE DUMP (.gsa) THAT YtglepciddhbmbaaProg.lean LOADS. Nothing in Lean hashes anything: it is a label: what it is worth is what the hold of that sum in a sandbox is worth. -/
noncomputable def Try.pinned : Pinned := { name := "ytglepciddhbmbaa", sum := "862d4b167930b9812c6759b7a2afa071bf413f7d668cd19f45f0a3a515daf320", checked := Try.checked }
namespace Rows
def none {H : Type} : Left H := { results := [], args := [] }

/-- 'quadrillelaw02.ImageSizes': WHATEVER THE INPUT: true; the input reads as it did. -/
def imageSizesSpec : ChangeSpec := { name := "imageSizes", fn := fun _ => fun
  | [d] => { results := [.lit (.bool true)], args := [d] }
  | _ => none }
def imageSizesRow : OpenClaim := { program := "ytglepciddhbmbaa", sum := "862d4b167930b9812c6759b7a2afa071bf413f7d668cd19f45f0a3a515daf320", func := "quadrille/quadrillelaw02.ImageSizes", spec := "imageSizes", unfollowed := true, recurses := true, apart := false }
def ImageSizesSaid : Prop := imageSizesRow.holds Try.pinned (OpenSpec.ofChange imageSizesSpec)

/-- ITS FALSE NEIGHBOUR: 'it returns false'. Refute it at one input. -/
def imageSizesWrong : ChangeSpec := { name := "imageSizes", fn := fun _ => fun
  | [d] => { results := [.lit (.bool false)], args := [d] }
  | _ => none }
def ImageSizesWrongFalsely : Prop := imageSizesRow.holds Try.pinned (OpenSpec.ofChange imageSizesWrong)

/-- 'quadrillelaw02.ImageSingle': WHATEVER THE INPUT: true; the input reads as it did. -/
def imageSingleSpec : ChangeSpec := { name := "imageSingle", fn := fun _ => fun
  | [d1, d2, d3] => { results := [.lit (.bool true)], args := [d1, d2, d3] }
  | _ => none }
def imageSingleRow : OpenClaim := { program := "ytglepciddhbmbaa", sum := "862d4b167930b9812c6759b7a2afa071bf413f7d668cd19f45f0a3a515daf320", func := "quadrille/quadrillelaw02.ImageSingle", spec := "imageSingle", unfollowed := true, recurses := true, apart := false }
def ImageSingleSaid : Prop := imageSingleRow.holds Try.pinned (OpenSpec.ofChange imageSingleSpec)

/-- ITS FALSE NEIGHBOUR: 'it returns false'. Refute it at one input. -/
def imageSingleWrong : ChangeSpec := { name := "imageSingle", fn := fun _ => fun
  | [d1, d2, d3] => { results := [.lit (.bool false)], args := [d1, d2, d3] }
  | _ => none }
def ImageSingleWrongFalsely : Prop := imageSingleRow.holds Try.pinned (OpenSpec.ofChange imageSingleWrong)

/-- 'quadrillelaw02.ImageMakes': WHATEVER THE INPUT: true; the input reads as it did. -/
def imageMakesSpec : ChangeSpec := { name := "imageMakes", fn := fun _ => fun
  | [d1, d2] => { results := [.lit (.bool true)], args := [d1, d2] }
  | _ => none }
def imageMakesRow : OpenClaim := { program := "ytglepciddhbmbaa", sum := "862d4b167930b9812c6759b7a2afa071bf413f7d668cd19f45f0a3a515daf320", func := "quadrille/quadrillelaw02.ImageMakes", spec := "imageMakes", unfollowed := true, recurses := true, apart := false }
def ImageMakesSaid : Prop := imageMakesRow.holds Try.pinned (OpenSpec.ofChange imageMakesSpec)

/-- ITS FALSE NEIGHBOUR: 'it returns false'. Refute it at one input. -/
def imageMakesWrong : ChangeSpec := { name := "imageMakes", fn := fun _ => fun
  | [d1, d2] => { results := [.lit (.bool false)], args := [d1, d2] }
  | _ => none }
def ImageMakesWrongFalsely : Prop := imageMakesRow.holds Try.pinned (OpenSpec.ofChange imageMakesWrong)

/-- 'quadrillelaw02.ImageReads': WHATEVER THE INPUT: true; the input reads as it did. -/
def imageReadsSpec : ChangeSpec := { name := "imageReads", fn := fun _ => fun
  | [d1, d2, d3] => { results := [.lit (.bool true)], args := [d1, d2, d3] }
  | _ => none }
def imageReadsRow : OpenClaim := { program := "ytglepciddhbmbaa", sum := "862d4b167930b9812c6759b7a2afa071bf413f7d668cd19f45f0a3a515daf320", func := "quadrille/quadrillelaw02.ImageReads", spec := "imageReads", unfollowed := true, recurses := true, apart := false }
def ImageReadsSaid : Prop := imageReadsRow.holds Try.pinned (OpenSpec.ofChange imageReadsSpec)

/-- ITS FALSE NEIGHBOUR: 'it returns false'. Refute it at one input. -/
def imageReadsWrong : ChangeSpec := { name := "imageReads", fn := fun _ => fun
  | [d1, d2, d3] => { results := [.lit (.bool false)], args := [d1, d2, d3] }
  | _ => none }
def ImageReadsWrongFalsely : Prop := imageReadsRow.holds Try.pinned (OpenSpec.ofChange imageReadsWrong)

/-- 'quadrillelaw02.ImageSets': WHATEVER THE INPUT: true; the input reads as it did. -/
def imageSetsSpec : ChangeSpec := { name := "imageSets", fn := fun _ => fun
  | [d1, d2, d3, d4, d5] => { results := [.lit (.bool true)], args := [d1, d2, d3, d4, d5] }
  | _ => none }
def imageSetsRow : OpenClaim := { program := "ytglepciddhbmbaa", sum := "862d4b167930b9812c6759b7a2afa071bf413f7d668cd19f45f0a3a515daf320", func := "quadrille/quadrillelaw02.ImageSets", spec := "imageSets", unfollowed := true, recurses := true, apart := false }
def ImageSetsSaid : Prop := imageSetsRow.holds Try.pinned (OpenSpec.ofChange imageSetsSpec)

/-- ITS FALSE NEIGHBOUR: 'it returns false'. Refute it at one input. -/
def imageSetsWrong : ChangeSpec := { name := "imageSets", fn := fun _ => fun
  | [d1, d2, d3, d4, d5] => { results := [.lit (.bool false)], args := [d1, d2, d3, d4, d5] }
  | _ => none }
def ImageSetsWrongFalsely : Prop := imageSetsRow.holds Try.pinned (OpenSpec.ofChange imageSetsWrong)

/-- 'quadrillelaw02.ImageAgain': WHATEVER THE INPUT: true; the input reads as it did. -/
def imageAgainSpec : ChangeSpec := { name := "imageAgain", fn := fun _ => fun
  | [d1, d2, d3, d4] => { results := [.lit (.bool true)], args := [d1, d2, d3, d4] }
  | _ => none }
def imageAgainRow : OpenClaim := { program := "ytglepciddhbmbaa", sum := "862d4b167930b9812c6759b7a2afa071bf413f7d668cd19f45f0a3a515daf320", func := "quadrille/quadrillelaw02.ImageAgain", spec := "imageAgain", unfollowed := true, recurses := true, apart := false }
def ImageAgainSaid : Prop := imageAgainRow.holds Try.pinned (OpenSpec.ofChange imageAgainSpec)

/-- ITS FALSE NEIGHBOUR: 'it returns false'. Refute it at one input. -/
def imageAgainWrong : ChangeSpec := { name := "imageAgain", fn := fun _ => fun
  | [d1, d2, d3, d4] => { results := [.lit (.bool false)], args := [d1, d2, d3, d4] }
  | _ => none }
def ImageAgainWrongFalsely : Prop := imageAgainRow.holds Try.pinned (OpenSpec.ofChange imageAgainWrong)

/-- 'quadrillelaw02.ImageLines': WHATEVER THE INPUT: true; the input reads as it did. -/
def imageLinesSpec : ChangeSpec := { name := "imageLines", fn := fun _ => fun
  | [d1, d2, d3, d4] => { results := [.lit (.bool true)], args := [d1, d2, d3, d4] }
  | _ => none }
def imageLinesRow : OpenClaim := { program := "ytglepciddhbmbaa", sum := "862d4b167930b9812c6759b7a2afa071bf413f7d668cd19f45f0a3a515daf320", func := "quadrille/quadrillelaw02.ImageLines", spec := "imageLines", unfollowed := true, recurses := true, apart := false }
def ImageLinesSaid : Prop := imageLinesRow.holds Try.pinned (OpenSpec.ofChange imageLinesSpec)

/-- ITS FALSE NEIGHBOUR: 'it returns false'. Refute it at one input. -/
def imageLinesWrong : ChangeSpec := { name := "imageLines", fn := fun _ => fun
  | [d1, d2, d3, d4] => { results := [.lit (.bool false)], args := [d1, d2, d3, d4] }
  | _ => none }
def ImageLinesWrongFalsely : Prop := imageLinesRow.holds Try.pinned (OpenSpec.ofChange imageLinesWrong)

/-- 'quadrillelaw02.ImageCopies': WHATEVER THE INPUT: true; the input reads as it did. -/
def imageCopiesSpec : ChangeSpec := { name := "imageCopies", fn := fun _ => fun
  | [d1, d2, d3] => { results := [.lit (.bool true)], args := [d1, d2, d3] }
  | _ => none }
def imageCopiesRow : OpenClaim := { program := "ytglepciddhbmbaa", sum := "862d4b167930b9812c6759b7a2afa071bf413f7d668cd19f45f0a3a515daf320", func := "quadrille/quadrillelaw02.ImageCopies", spec := "imageCopies", unfollowed := true, recurses := true, apart := false }
def ImageCopiesSaid : Prop := imageCopiesRow.holds Try.pinned (OpenSpec.ofChange imageCopiesSpec)

/-- ITS FALSE NEIGHBOUR: 'it returns false'. Refute it at one input. -/
def imageCopiesWrong : ChangeSpec := { name := "imageCopies", fn := fun _ => fun
  | [d1, d2, d3] => { results := [.lit (.bool false)], args := [d1, d2, d3] }
  | _ => none }
def ImageCopiesWrongFalsely : Prop := imageCopiesRow.holds Try.pinned (OpenSpec.ofChange imageCopiesWrong)

/- THE SECOND FORM. 'bulk': how many values and letters a reading holds, each counted each time it is reached (what is shared counts as often as it is met; a slice's spare places count too). A statement '..UptoSaid' is the law's where the arguments, and the package variables that the reading takes, are together of bulk at most 1048576: NARROWER than '..Said'. Prove '..Said' where nothing that the law and all that it calls make is longer than what came in: it says more and counts as full. Else prove '..UptoSaid'. A law counts once. -/
mutual
def uptoBulk {H : Type} : DataW H → Nat
  | .lit (.string bytes) => bytes.length + 1
  | .lit _ => 1
  | .nil => 1
  | .ptr d => uptoBulk d + 1
  | .slice elems spare => uptoBulkAll elems + uptoBulkAll spare + 1
  | .agg parts => uptoBulkAll parts + 1
  | .iface _ d => uptoBulk d + 1
  | .map entries => uptoBulkEntries entries + 1
  | .held _ => 1
def uptoBulkAll {H : Type} : List (DataW H) → Nat
  | [] => 0
  | d :: r => uptoBulk d + uptoBulkAll r
def uptoBulkEntries {H : Type} : List (Lit × DataW H) → Nat
  | [] => 0
  | x :: r => uptoBulkEntry x + uptoBulkEntries r
def uptoBulkEntry {H : Type} : Lit × DataW H → Nat
  | (.string bytes, d) => bytes.length + uptoBulk d + 1
  | (_, d) => uptoBulk d + 1
 end
def uptoSmall : (H : Type) → List (DataW H) → Bool := fun _ ds => decide (uptoBulkAll ds ≤ 1048576)
def OpenSpec.upto (s : _root_.Go.ChangeSpec) : _root_.Go.OpenSpec := { _root_.Go.OpenSpec.ofChange s with cond := some uptoSmall }

/-- 'quadrillelaw02.ImageSizes', WHERE WHAT IT READS IS OF BULK AT MOST 1048576: true; the input reads as it did. -/
def imageSizesUptoRow : OpenClaim := { program := "ytglepciddhbmbaa", sum := "862d4b167930b9812c6759b7a2afa071bf413f7d668cd19f45f0a3a515daf320", func := "quadrille/quadrillelaw02.ImageSizes", spec := "imageSizes", unfollowed := true, recurses := true, apart := false, narrowed := true }
def ImageSizesUptoSaid : Prop := imageSizesUptoRow.holds Try.pinned (OpenSpec.upto imageSizesSpec)

/-- 'quadrillelaw02.ImageSingle', WHERE WHAT IT READS IS OF BULK AT MOST 1048576: true; the input reads as it did. -/
def imageSingleUptoRow : OpenClaim := { program := "ytglepciddhbmbaa", sum := "862d4b167930b9812c6759b7a2afa071bf413f7d668cd19f45f0a3a515daf320", func := "quadrille/quadrillelaw02.ImageSingle", spec := "imageSingle", unfollowed := true, recurses := true, apart := false, narrowed := true }
def ImageSingleUptoSaid : Prop := imageSingleUptoRow.holds Try.pinned (OpenSpec.upto imageSingleSpec)

/-- 'quadrillelaw02.ImageMakes', WHERE WHAT IT READS IS OF BULK AT MOST 1048576: true; the input reads as it did. -/
def imageMakesUptoRow : OpenClaim := { program := "ytglepciddhbmbaa", sum := "862d4b167930b9812c6759b7a2afa071bf413f7d668cd19f45f0a3a515daf320", func := "quadrille/quadrillelaw02.ImageMakes", spec := "imageMakes", unfollowed := true, recurses := true, apart := false, narrowed := true }
def ImageMakesUptoSaid : Prop := imageMakesUptoRow.holds Try.pinned (OpenSpec.upto imageMakesSpec)

/-- 'quadrillelaw02.ImageReads', WHERE WHAT IT READS IS OF BULK AT MOST 1048576: true; the input reads as it did. -/
def imageReadsUptoRow : OpenClaim := { program := "ytglepciddhbmbaa", sum := "862d4b167930b9812c6759b7a2afa071bf413f7d668cd19f45f0a3a515daf320", func := "quadrille/quadrillelaw02.ImageReads", spec := "imageReads", unfollowed := true, recurses := true, apart := false, narrowed := true }
def ImageReadsUptoSaid : Prop := imageReadsUptoRow.holds Try.pinned (OpenSpec.upto imageReadsSpec)

/-- 'quadrillelaw02.ImageSets', WHERE WHAT IT READS IS OF BULK AT MOST 1048576: true; the input reads as it did. -/
def imageSetsUptoRow : OpenClaim := { program := "ytglepciddhbmbaa", sum := "862d4b167930b9812c6759b7a2afa071bf413f7d668cd19f45f0a3a515daf320", func := "quadrille/quadrillelaw02.ImageSets", spec := "imageSets", unfollowed := true, recurses := true, apart := false, narrowed := true }
def ImageSetsUptoSaid : Prop := imageSetsUptoRow.holds Try.pinned (OpenSpec.upto imageSetsSpec)

/-- 'quadrillelaw02.ImageAgain', WHERE WHAT IT READS IS OF BULK AT MOST 1048576: true; the input reads as it did. -/
def imageAgainUptoRow : OpenClaim := { program := "ytglepciddhbmbaa", sum := "862d4b167930b9812c6759b7a2afa071bf413f7d668cd19f45f0a3a515daf320", func := "quadrille/quadrillelaw02.ImageAgain", spec := "imageAgain", unfollowed := true, recurses := true, apart := false, narrowed := true }
def ImageAgainUptoSaid : Prop := imageAgainUptoRow.holds Try.pinned (OpenSpec.upto imageAgainSpec)

/-- 'quadrillelaw02.ImageLines', WHERE WHAT IT READS IS OF BULK AT MOST 1048576: true; the input reads as it did. -/
def imageLinesUptoRow : OpenClaim := { program := "ytglepciddhbmbaa", sum := "862d4b167930b9812c6759b7a2afa071bf413f7d668cd19f45f0a3a515daf320", func := "quadrille/quadrillelaw02.ImageLines", spec := "imageLines", unfollowed := true, recurses := true, apart := false, narrowed := true }
def ImageLinesUptoSaid : Prop := imageLinesUptoRow.holds Try.pinned (OpenSpec.upto imageLinesSpec)

/-- 'quadrillelaw02.ImageCopies', WHERE WHAT IT READS IS OF BULK AT MOST 1048576: true; the input reads as it did. -/
def imageCopiesUptoRow : OpenClaim := { program := "ytglepciddhbmbaa", sum := "862d4b167930b9812c6759b7a2afa071bf413f7d668cd19f45f0a3a515daf320", func := "quadrille/quadrillelaw02.ImageCopies", spec := "imageCopies", unfollowed := true, recurses := true, apart := false, narrowed := true }
def ImageCopiesUptoSaid : Prop := imageCopiesUptoRow.holds Try.pinned (OpenSpec.upto imageCopiesSpec)

end Rows
end Go.Proofs.Ytglepciddhbmbaa
