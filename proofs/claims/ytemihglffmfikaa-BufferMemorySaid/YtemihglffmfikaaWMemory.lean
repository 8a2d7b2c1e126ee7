/-
  The walk of BufferMemory, as the statement's frame wants it.
-/
import Derived.Test.YtemihglffmfikaaBufM
import Derived.Test.YtemihglffmfikaaBufOM
import Derived.Test.YtemihglffmfikaaBufO
namespace Go.Proofs.Ytemihglffmfikaa
open Go.RowKit
set_option linter.unusedVariables false
theorem walk_BufferMemory (w : World) (v0 : Value) (hv0 : ActsArg w v0) (v1 : Value) (hv1 : BytesArg w v1) (a2 : Int) (h2 : (Lit.int .u32 a2).wf = true) (a3 : Int) (h3 : (Lit.int .i64 a3).wf = true) : Calls Try.prog 6 #[v0, v1, .int .u32 a2, .int .i64 a3] w fun e w' => e = .returned (.bool true) ∧ Below w.heap.size w w' := by
  obtain ⟨A0, c0, l0, rfl, hv0⟩ := hv0
  obtain ⟨A1, c1, l1, rfl, hv1⟩ := hv1
  refine (memory_c hv0 hv1 a2 a3 (wf_u32 h2)).mono ?_
  rintro e w' ⟨v, rfl, rfl, hn⟩
  exact ⟨rfl, hn.nb⟩
end Go.Proofs.Ytemihglffmfikaa
