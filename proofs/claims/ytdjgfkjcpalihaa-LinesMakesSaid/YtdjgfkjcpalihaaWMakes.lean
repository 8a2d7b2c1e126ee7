/-
  The walk of LinesMakes, as the statement's frame wants it.
-/
import Derived.Test.YtdjgfkjcpalihaaLinI
import Derived.Test.YtdjgfkjcpalihaaLinO
namespace Go.Proofs.Ytdjgfkjcpalihaa
open Go.RowKit
set_option linter.unusedVariables false
theorem walk_LinesMakes (w : World) (a0 : Int) (h0 : (Lit.int .i64 a0).wf = true) (a1 : Int) (h1 : (Lit.int .i64 a1).wf = true) : Calls Try.prog 8 #[.int .i64 a0, .int .i64 a1] w fun e w' => e = .returned (.bool true) ∧ Below w.heap.size w w' := by
  cases hr : rightB a0 a1 with
  | false =>
    refine (makes_no a0 a1 hr w).mono ?_
    rintro e w' ⟨v, rfl, rfl, hn⟩
    exact ⟨rfl, hn.nb⟩
  | true =>
    obtain ⟨n, rfl⟩ := right_nat hr
    refine (makes_yes n a1 hr w).mono ?_
    rintro e w' ⟨v, rfl, rfl, hn⟩
    exact ⟨rfl, hn.nb⟩
end Go.Proofs.Ytdjgfkjcpalihaa
