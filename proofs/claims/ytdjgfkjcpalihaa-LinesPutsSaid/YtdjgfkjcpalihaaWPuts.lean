/-
  The walk of LinesPuts, as the statement's frame wants it.
-/
import Derived.Test.YtdjgfkjcpalihaaLinH
import Derived.Test.YtdjgfkjcpalihaaLinO
namespace Go.Proofs.Ytdjgfkjcpalihaa
open Go.RowKit
set_option linter.unusedVariables false
theorem walk_LinesPuts (w : World) (a0 : Int) (h0 : (Lit.int .i64 a0).wf = true) (a1 : Int) (h1 : (Lit.int .i64 a1).wf = true) (v2 : Value) (hv2 : LnsArg w v2) : Calls Try.prog 5 #[.int .i64 a0, .int .i64 a1, v2] w fun e w' => e = .returned (.bool true) ∧ Below w.heap.size w w' := by
  obtain ⟨A2, c2, l2, rfl, hv2⟩ := hv2
  cases hr : rightB a0 a1 with
  | false =>
    refine (puts_no hv2 a0 a1 hr).mono ?_
    rintro e w' ⟨v, rfl, rfl, hn⟩
    exact ⟨rfl, hn.nb⟩
  | true =>
    obtain ⟨n, rfl⟩ := right_nat hr
    refine (puts_yes hv2 n a1 hr).mono ?_
    rintro e w' ⟨v, rfl, rfl, hn⟩
    exact ⟨rfl, hn.nb⟩
end Go.Proofs.Ytdjgfkjcpalihaa
