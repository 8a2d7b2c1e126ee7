/-
  The walk of BufferCopies, as the statement's frame wants it.
-/
import Derived.Test.YtemihglffmfikaaBufH
import Derived.Test.YtemihglffmfikaaBufO
namespace Go.Proofs.Ytemihglffmfikaa
open Go.RowKit
set_option linter.unusedVariables false
theorem walk_BufferCopies (w : World) (v0 : Value) (hv0 : ActsArg w v0) (v1 : Value) (hv1 : ∃ m : BAct, True ∧ v1 = .agg (actE.arr m)) : Calls Try.prog 8 #[v0, v1] w fun e w' => e = .returned (.bool true) ∧ Below w.heap.size w w' := by
  obtain ⟨A0, c0, l0, rfl, hv0⟩ := hv0
  obtain ⟨m1, -, rfl⟩ := hv1
  refine (copies_c hv0 m1).mono ?_
  rintro e w' ⟨v, rfl, rfl, hn⟩
  exact ⟨rfl, hn.nb⟩
end Go.Proofs.Ytemihglffmfikaa
