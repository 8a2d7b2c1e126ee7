/-
  The walk of LinesDrops, as the statement's frame wants it.
-/
import Derived.Test.YtdjgfkjcpalihaaLinI
import Derived.Test.YtdjgfkjcpalihaaLinO
namespace Go.Proofs.Ytdjgfkjcpalihaa
open Go.RowKit
set_option linter.unusedVariables false
theorem walk_LinesDrops (w : World) (v0 : Value) (hv0 : LnsArg w v0) (a1 : Int) (h1 : (Lit.int .u32 a1).wf = true) : Calls Try.prog 6 #[v0, .int .u32 a1] w fun e w' => e = .returned (.bool true) ∧ Below w.heap.size w w' := by
  obtain ⟨A0, c0, l0, rfl, hv0⟩ := hv0
  refine (drops_c hv0 a1 (wf_u32 h1)).mono ?_
  rintro e w' ⟨v, rfl, rfl, hn⟩
  exact ⟨rfl, hn.nb⟩
end Go.Proofs.Ytdjgfkjcpalihaa
