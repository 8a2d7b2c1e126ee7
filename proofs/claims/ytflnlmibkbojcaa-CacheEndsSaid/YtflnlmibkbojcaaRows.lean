/-
  No cell of these rows narrows 'for every input' (looked for: loops, veiled, ifaces, maps, wideKeys, modest, calm, conditions, laid).
  DERIVED. THE GIVEN ROWS OF THIS SEAT. 8 by the template 'for every input the law returns true; each argument reads behind the call as it read before'; 0 by the template 'total and deterministic' (their statements: YtflnlmibkbojcaaTotals.lean).
  GIVEN WITH THE SEED: the statements are not yours to turn. If you find one false, say at which input.
  Laid BY PROGRAM, IN A SANDBOX (cutbox-rows.mjs): the forced cells as the released guide's own fill.sh prints them over the translation c694d6d4ebe12f99… (all of the seat's roots in one cut). By AI agents, Wed Nov 11 2026. No macro, syntax, notation, axiom, sorry.
-/
import Derived.Test.YtflnlmibkbojcaaChecked
import GoSem.Claim
import GoSem.ClaimJoined
import GoSem.ClaimMapViews
import Derived.JoinedTies
import Derived.KernelRfl
namespace Go.Proofs.Ytflnlmibkbojcaa
/- THE CELL 'sum', in the pinned program and in every row, IS THE sha256 OF THE DUMP (.gsa) THAT YtflnlmibkbojcaaProg.lean LOADS. Nothing in Lean hashes anything: it is a label: what it is worth is what the hold of that sum in a sandbox is worth. -/
noncomputable def Try.pinned : Pinned := { name := "ytflnlmibkbojcaa", sum := "c694d6d4ebe12f99d58a0f79acdd8cd3eebc240540d0bea3befcb69f39141311", checked := Try.checked }
namespace Rows
def none {H : Type} : Left H := { results := [], args := [] }

/-- 'quadrillelaw13.CacheBytes': WHATEVER THE INPUT: true; the input reads as it did. -/
def cacheBytesSpec : ChangeSpec := { name := "cacheBytes", fn := fun _ => fun
  | [d1, d2, d3] => { results := [.lit (.bool true)], args := [d1, d2, d3] }
  | _ => none }
def cacheBytesRow : OpenClaim := { program := "ytflnlmibkbojcaa", sum := "c694d6d4ebe12f99d58a0f79acdd8cd3eebc240540d0bea3befcb69f39141311", func := "quadrille/quadrillelaw13.CacheBytes", spec := "cacheBytes", unfollowed := true, recurses := true, apart := false }
def CacheBytesSaid : Prop := cacheBytesRow.holds Try.pinned (OpenSpec.ofChange cacheBytesSpec)

/-- ITS FALSE NEIGHBOUR: 'it returns false'. Refute it at one input. -/
def cacheBytesWrong : ChangeSpec := { name := "cacheBytes", fn := fun _ => fun
  | [d1, d2, d3] => { results := [.lit (.bool false)], args := [d1, d2, d3] }
  | _ => none }
def CacheBytesWrongFalsely : Prop := cacheBytesRow.holds Try.pinned (OpenSpec.ofChange cacheBytesWrong)

/-- 'quadrillelaw13.CachePlay': WHATEVER THE INPUT: true; the input reads as it did. -/
def cachePlaySpec : ChangeSpec := { name := "cachePlay", fn := fun _ => fun
  | [d1, d2, d3] => { results := [.lit (.bool true)], args := [d1, d2, d3] }
  | _ => none }
def cachePlayRow : OpenClaim := { program := "ytflnlmibkbojcaa", sum := "c694d6d4ebe12f99d58a0f79acdd8cd3eebc240540d0bea3befcb69f39141311", func := "quadrille/quadrillelaw13.CachePlay", spec := "cachePlay", unfollowed := true, recurses := true, apart := false }
def CachePlaySaid : Prop := cachePlayRow.holds Try.pinned (OpenSpec.ofChange cachePlaySpec)

/-- ITS FALSE NEIGHBOUR: 'it returns false'. Refute it at one input. -/
def cachePlayWrong : ChangeSpec := { name := "cachePlay", fn := fun _ => fun
  | [d1, d2, d3] => { results := [.lit (.bool false)], args := [d1, d2, d3] }
  | _ => none }
def CachePlayWrongFalsely : Prop := cachePlayRow.holds Try.pinned (OpenSpec.ofChange cachePlayWrong)

/-- 'quadrillelaw13.CacheAsks': WHATEVER THE INPUT: true; the input reads as it did. -/
def cacheAsksSpec : ChangeSpec := { name := "cacheAsks", fn := fun _ => fun
  | [d1, d2, d3] => { results := [.lit (.bool true)], args := [d1, d2, d3] }
  | _ => none }
def cacheAsksRow : OpenClaim := { program := "ytflnlmibkbojcaa", sum := "c694d6d4ebe12f99d58a0f79acdd8cd3eebc240540d0bea3befcb69f39141311", func := "quadrille/quadrillelaw13.CacheAsks", spec := "cacheAsks", unfollowed := true, recurses := true, apart := false }
def CacheAsksSaid : Prop := cacheAsksRow.holds Try.pinned (OpenSpec.ofChange cacheAsksSpec)

/-- ITS FALSE NEIGHBOUR: 'it returns false'. Refute it at one input. -/
def cacheAsksWrong : ChangeSpec := { name := "cacheAsks", fn := fun _ => fun
  | [d1, d2, d3] => { results := [.lit (.bool false)], args := [d1, d2, d3] }
  | _ => none }
def CacheAsksWrongFalsely : Prop := cacheAsksRow.holds Try.pinned (OpenSpec.ofChange cacheAsksWrong)

/-- 'quadrillelaw13.CacheTakes': WHATEVER THE INPUT: true; the input reads as it did. -/
def cacheTakesSpec : ChangeSpec := { name := "cacheTakes", fn := fun _ => fun
  | [d1, d2, d3] => { results := [.lit (.bool true)], args := [d1, d2, d3] }
  | _ => none }
def cacheTakesRow : OpenClaim := { program := "ytflnlmibkbojcaa", sum := "c694d6d4ebe12f99d58a0f79acdd8cd3eebc240540d0bea3befcb69f39141311", func := "quadrille/quadrillelaw13.CacheTakes", spec := "cacheTakes", unfollowed := true, recurses := true, apart := false }
def CacheTakesSaid : Prop := cacheTakesRow.holds Try.pinned (OpenSpec.ofChange cacheTakesSpec)

/-- ITS FALSE NEIGHBOUR: 'it returns false'. Refute it at one input. -/
def cacheTakesWrong : ChangeSpec := { name := "cacheTakes", fn := fun _ => fun
  | [d1, d2, d3] => { results := [.lit (.bool false)], args := [d1, d2, d3] }
  | _ => none }
def CacheTakesWrongFalsely : Prop := cacheTakesRow.holds Try.pinned (OpenSpec.ofChange cacheTakesWrong)

/-- 'quadrillelaw13.CacheCopies': WHATEVER THE INPUT: true; the input reads as it did. -/
def cacheCopiesSpec : ChangeSpec := { name := "cacheCopies", fn := fun _ => fun
  | [d1, d2, d3] => { results := [.lit (.bool true)], args := [d1, d2, d3] }
  | _ => none }
def cacheCopiesRow : OpenClaim := { program := "ytflnlmibkbojcaa", sum := "c694d6d4ebe12f99d58a0f79acdd8cd3eebc240540d0bea3befcb69f39141311", func := "quadrille/quadrillelaw13.CacheCopies", spec := "cacheCopies", unfollowed := true, recurses := true, apart := false }
def CacheCopiesSaid : Prop := cacheCopiesRow.holds Try.pinned (OpenSpec.ofChange cacheCopiesSpec)

/-- ITS FALSE NEIGHBOUR: 'it returns false'. Refute it at one input. -/
def cacheCopiesWrong : ChangeSpec := { name := "cacheCopies", fn := fun _ => fun
  | [d1, d2, d3] => { results := [.lit (.bool false)], args := [d1, d2, d3] }
  | _ => none }
def CacheCopiesWrongFalsely : Prop := cacheCopiesRow.holds Try.pinned (OpenSpec.ofChange cacheCopiesWrong)

/-- 'quadrillelaw13.CacheNil': WHATEVER THE INPUT: true; the input reads as it did. -/
def cacheNilSpec : ChangeSpec := { name := "cacheNil", fn := fun _ => fun
  | [d] => { results := [.lit (.bool true)], args := [d] }
  | _ => none }
def cacheNilRow : OpenClaim := { program := "ytflnlmibkbojcaa", sum := "c694d6d4ebe12f99d58a0f79acdd8cd3eebc240540d0bea3befcb69f39141311", func := "quadrille/quadrillelaw13.CacheNil", spec := "cacheNil", unfollowed := true, recurses := true, apart := false }
def CacheNilSaid : Prop := cacheNilRow.holds Try.pinned (OpenSpec.ofChange cacheNilSpec)

/-- ITS FALSE NEIGHBOUR: 'it returns false'. Refute it at one input. -/
def cacheNilWrong : ChangeSpec := { name := "cacheNil", fn := fun _ => fun
  | [d] => { results := [.lit (.bool false)], args := [d] }
  | _ => none }
def CacheNilWrongFalsely : Prop := cacheNilRow.holds Try.pinned (OpenSpec.ofChange cacheNilWrong)

/-- 'quadrillelaw13.CacheRuns': WHATEVER THE INPUT: true; the input reads as it did. -/
def cacheRunsSpec : ChangeSpec := { name := "cacheRuns", fn := fun _ => fun
  | [d1, d2, d3] => { results := [.lit (.bool true)], args := [d1, d2, d3] }
  | _ => none }
def cacheRunsRow : OpenClaim := { program := "ytflnlmibkbojcaa", sum := "c694d6d4ebe12f99d58a0f79acdd8cd3eebc240540d0bea3befcb69f39141311", func := "quadrille/quadrillelaw13.CacheRuns", spec := "cacheRuns", unfollowed := true, recurses := true, apart := false }
def CacheRunsSaid : Prop := cacheRunsRow.holds Try.pinned (OpenSpec.ofChange cacheRunsSpec)

/-- ITS FALSE NEIGHBOUR: 'it returns false'. Refute it at one input. -/
def cacheRunsWrong : ChangeSpec := { name := "cacheRuns", fn := fun _ => fun
  | [d1, d2, d3] => { results := [.lit (.bool false)], args := [d1, d2, d3] }
  | _ => none }
def CacheRunsWrongFalsely : Prop := cacheRunsRow.holds Try.pinned (OpenSpec.ofChange cacheRunsWrong)

/-- 'quadrillelaw13.CacheEnds': WHATEVER THE INPUT: true; the input reads as it did. -/
def cacheEndsSpec : ChangeSpec := { name := "cacheEnds", fn := fun _ => fun
  | [d1, d2, d3] => { results := [.lit (.bool true)], args := [d1, d2, d3] }
  | _ => none }
def cacheEndsRow : OpenClaim := { program := "ytflnlmibkbojcaa", sum := "c694d6d4ebe12f99d58a0f79acdd8cd3eebc240540d0bea3befcb69f39141311", func := "quadrille/quadrillelaw13.CacheEnds", spec := "cacheEnds", unfollowed := true, recurses := true, apart := false }
def CacheEndsSaid : Prop := cacheEndsRow.holds Try.pinned (OpenSpec.ofChange cacheEndsSpec)

/-- ITS FALSE NEIGHBOUR: 'it returns false'. Refute it at one input. -/
def cacheEndsWrong : ChangeSpec := { name := "cacheEnds", fn := fun _ => fun
  | [d1, d2, d3] => { results := [.lit (.bool false)], args := [d1, d2, d3] }
  | _ => none }
def CacheEndsWrongFalsely : Prop := cacheEndsRow.holds Try.pinned (OpenSpec.ofChange cacheEndsWrong)

/- THE SECOND FORM. 'bulk': how many values and letters a reading holds, each counted each time it is reached (what is shared counts as often as it is met; a slice's spare places count too). A statement '..UptoSaid' is the law's where the arguments, and the package variables that the reading takes, are together of bulk at most 1048576: NARROWER than '..Said'. Prove '..Said' where nothing that the law and all that it calls make is longer than what came in: it says more and counts as full. Else prove '..UptoSaid'. A law counts once. -/
mutual
def uptoBulk {H : Type} : DataW H → Nat
  | .lit (.string bytes) => bytes.length + 1
  | .lit _ => 1
  | .nil => 1
  | .ptr d => uptoBulk d + 1
  | .slice elems spare => uptoBulkAll elems + uptoBulkAll spare + 1
  | .agg parts => uptoBulkAll parts + 1
  | .iface _ d => uptoBulk d + 1
  | .map entries => uptoBulkEntries entries + 1
  | .held _ => 1
def uptoBulkAll {H : Type} : List (DataW H) → Nat
  | [] => 0
  | d :: r => uptoBulk d + uptoBulkAll r
def uptoBulkEntries {H : Type} : List (Lit × DataW H) → Nat
  | [] => 0
  | x :: r => uptoBulkEntry x + uptoBulkEntries r
def uptoBulkEntry {H : Type} : Lit × DataW H → Nat
  | (.string bytes, d) => bytes.length + uptoBulk d + 1
  | (_, d) => uptoBulk d + 1
 end
def uptoSmall : (H : Type) → List (DataW H) → Bool := fun _ ds => decide (uptoBulkAll ds ≤ 1048576)
def OpenSpec.upto (s : _root_.Go.ChangeSpec) : _root_.Go.OpenSpec := { _root_.Go.OpenSpec.ofChange s with cond := some uptoSmall }

/-- 'quadrillelaw13.CacheBytes', WHERE WHAT IT READS IS OF BULK AT MOST 1048576: true; the input reads as it did. -/
def cacheBytesUptoRow : OpenClaim := { program := "ytflnlmibkbojcaa", sum := "c694d6d4ebe12f99d58a0f79acdd8cd3eebc240540d0bea3befcb69f39141311", func := "quadrille/quadrillelaw13.CacheBytes", spec := "cacheBytes", unfollowed := true, recurses := true, apart := false, narrowed := true }
def CacheBytesUptoSaid : Prop := cacheBytesUptoRow.holds Try.pinned (OpenSpec.upto cacheBytesSpec)

/-- 'quadrillelaw13.CachePlay', WHERE WHAT IT READS IS OF BULK AT MOST 1048576: true; the input reads as it did. -/
def cachePlayUptoRow : OpenClaim := { program := "ytflnlmibkbojcaa", sum := "c694d6d4ebe12f99d58a0f79acdd8cd3eebc240540d0bea3befcb69f39141311", func := "quadrille/quadrillelaw13.CachePlay", spec := "cachePlay", unfollowed := true, recurses := true, apart := false, narrowed := true }
def CachePlayUptoSaid : Prop := cachePlayUptoRow.holds Try.pinned (OpenSpec.upto cachePlaySpec)

/-- 'quadrillelaw13.CacheAsks', WHERE WHAT IT READS IS OF BULK AT MOST 1048576: true; the input reads as it did. -/
def cacheAsksUptoRow : OpenClaim := { program := "ytflnlmibkbojcaa", sum := "c694d6d4ebe12f99d58a0f79acdd8cd3eebc240540d0bea3befcb69f39141311", func := "quadrille/quadrillelaw13.CacheAsks", spec := "cacheAsks", unfollowed := true, recurses := true, apart := false, narrowed := true }
def CacheAsksUptoSaid : Prop := cacheAsksUptoRow.holds Try.pinned (OpenSpec.upto cacheAsksSpec)

/-- 'quadrillelaw13.CacheTakes', WHERE WHAT IT READS IS OF BULK AT MOST 1048576: true; the input reads as it did. -/
def cacheTakesUptoRow : OpenClaim := { program := "ytflnlmibkbojcaa", sum := "c694d6d4ebe12f99d58a0f79acdd8cd3eebc240540d0bea3befcb69f39141311", func := "quadrille/quadrillelaw13.CacheTakes", spec := "cacheTakes", unfollowed := true, recurses := true, apart := false, narrowed := true }
def CacheTakesUptoSaid : Prop := cacheTakesUptoRow.holds Try.pinned (OpenSpec.upto cacheTakesSpec)

/-- 'quadrillelaw13.CacheCopies', WHERE WHAT IT READS IS OF BULK AT MOST 1048576: true; the input reads as it did. -/
def cacheCopiesUptoRow : OpenClaim := { program := "ytflnlmibkbojcaa", sum := "c694d6d4ebe12f99d58a0f79acdd8cd3eebc240540d0bea3befcb69f39141311", func := "quadrille/quadrillelaw13.CacheCopies", spec := "cacheCopies", unfollowed := true, recurses := true, apart := false, narrowed := true }
def CacheCopiesUptoSaid : Prop := cacheCopiesUptoRow.holds Try.pinned (OpenSpec.upto cacheCopiesSpec)

/-- 'quadrillelaw13.CacheNil', WHERE WHAT IT READS IS OF BULK AT MOST 1048576: true; the input reads as it did. -/
def cacheNilUptoRow : OpenClaim := { program := "ytflnlmibkbojcaa", sum := "c694d6d4ebe12f99d58a0f79acdd8cd3eebc240540d0bea3befcb69f39141311", func := "quadrille/quadrillelaw13.CacheNil", spec := "cacheNil", unfollowed := true, recurses := true, apart := false, narrowed := true }
def CacheNilUptoSaid : Prop := cacheNilUptoRow.holds Try.pinned (OpenSpec.upto cacheNilSpec)

/-- 'quadrillelaw13.CacheRuns', WHERE WHAT IT READS IS OF BULK AT MOST 1048576: true; the input reads as it did. -/
def cacheRunsUptoRow : OpenClaim := { program := "ytflnlmibkbojcaa", sum := "c694d6d4ebe12f99d58a0f79acdd8cd3eebc240540d0bea3befcb69f39141311", func := "quadrille/quadrillelaw13.CacheRuns", spec := "cacheRuns", unfollowed := true, recurses := true, apart := false, narrowed := true }
def CacheRunsUptoSaid : Prop := cacheRunsUptoRow.holds Try.pinned (OpenSpec.upto cacheRunsSpec)

/-- 'quadrillelaw13.CacheEnds', WHERE WHAT IT READS IS OF BULK AT MOST 1048576: true; the input reads as it did. -/
def cacheEndsUptoRow : OpenClaim := { program := "ytflnlmibkbojcaa", sum := "c694d6d4ebe12f99d58a0f79acdd8cd3eebc240540d0bea3befcb69f39141311", func := "quadrille/quadrillelaw13.CacheEnds", spec := "cacheEnds", unfollowed := true, recurses := true, apart := false, narrowed := true }
def CacheEndsUptoSaid : Prop := cacheEndsUptoRow.holds Try.pinned (OpenSpec.upto cacheEndsSpec)

end Rows
end Go.Proofs.Ytflnlmibkbojcaa
