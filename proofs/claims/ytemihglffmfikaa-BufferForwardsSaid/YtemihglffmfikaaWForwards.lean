/-
  The walk of BufferForwards, as the statement's frame wants it.
-/
import Derived.Test.YtemihglffmfikaaBufH
import Derived.Test.YtemihglffmfikaaBufO
namespace Go.Proofs.Ytemihglffmfikaa
open Go.RowKit
set_option linter.unusedVariables false
theorem walk_BufferForwards (w : World) (v0 : Value) (hv0 : ActsArg w v0) (a1 : Int) (h1 : (Lit.int .u32 a1).wf = true) (a2 : Int) (h2 : (Lit.int .i64 a2).wf = true) : Calls Try.prog 4 #[v0, .int .u32 a1, .int .i64 a2] w fun e w' => e = .returned (.bool true) ∧ Below w.heap.size w w' := by
  obtain ⟨A0, c0, l0, rfl, hv0⟩ := hv0
  refine (forwards_c hv0 a1 a2 (wf_u32 h1)).mono ?_
  rintro e w' ⟨v, rfl, rfl, hn⟩
  exact ⟨rfl, hn.nb⟩
end Go.Proofs.Ytemihglffmfikaa
