/-
  The walk of BufferOne, as the statement's frame wants it.
-/
import Derived.Test.YtemihglffmfikaaBufG
import Derived.Test.YtemihglffmfikaaBufO
namespace Go.Proofs.Ytemihglffmfikaa
open Go.RowKit
set_option linter.unusedVariables false
theorem walk_BufferOne (w : World) (v0 : Value) (hv0 : ∃ m : St, True ∧ v0 = .agg (stE.arr m)) (a1 : Int) (h1 : (Lit.int .u32 a1).wf = true) (a2 : Int) (h2 : (Lit.int .i64 a2).wf = true) : Calls Try.prog 3 #[v0, .int .u32 a1, .int .i64 a2] w fun e w' => e = .returned (.bool true) ∧ Below w.heap.size w w' := by
  obtain ⟨m0, -, rfl⟩ := hv0
  refine (one_c m0 a1 a2 (wf_u32 h1) w).mono ?_
  rintro e w' ⟨v, rfl, rfl, hn⟩
  exact ⟨rfl, hn.nb⟩
end Go.Proofs.Ytemihglffmfikaa
