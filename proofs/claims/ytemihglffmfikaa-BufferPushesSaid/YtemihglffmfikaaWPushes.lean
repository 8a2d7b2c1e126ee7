/-
  The walk of BufferPushes, as the statement's frame wants it.
-/
import Derived.Test.YtemihglffmfikaaBufG
import Derived.Test.YtemihglffmfikaaBufO
namespace Go.Proofs.Ytemihglffmfikaa
open Go.RowKit
set_option linter.unusedVariables false
theorem walk_BufferPushes (w : World) (v0 : Value) (hv0 : StsArg w v0) : Calls Try.prog 5 #[v0] w fun e w' => e = .returned (.bool true) ∧ Below w.heap.size w w' := by
  obtain ⟨A0, c0, l0, rfl, hv0⟩ := hv0
  refine (pushes_c hv0).mono ?_
  rintro e w' ⟨v, rfl, rfl, hn⟩
  exact ⟨rfl, hn.nb⟩
end Go.Proofs.Ytemihglffmfikaa
