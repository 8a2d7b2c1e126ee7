/-
  The walk of BufferPlays, as the statement's frame wants it.
-/
import Derived.Test.YtemihglffmfikaaBufH
import Derived.Test.YtemihglffmfikaaBufO
namespace Go.Proofs.Ytemihglffmfikaa
open Go.RowKit
set_option linter.unusedVariables false
theorem walk_BufferPlays (w : World) (v0 : Value) (hv0 : ActsArg w v0) : Calls Try.prog 7 #[v0] w fun e w' => e = .returned (.bool true) ∧ Below w.heap.size w w' := by
  obtain ⟨A0, c0, l0, rfl, hv0⟩ := hv0
  refine (plays_c hv0).mono ?_
  rintro e w' ⟨v, rfl, rfl, hn⟩
  exact ⟨rfl, hn.nb⟩
end Go.Proofs.Ytemihglffmfikaa
