/-
  The walk of LinesCopies, as the statement's frame wants it.
-/
import Derived.Test.YtdjgfkjcpalihaaLinJ
import Derived.Test.YtdjgfkjcpalihaaLinO
namespace Go.Proofs.Ytdjgfkjcpalihaa
open Go.RowKit
set_option linter.unusedVariables false
theorem walk_LinesCopies (w : World) (a0 : Int) (h0 : (Lit.int .i64 a0).wf = true) (a1 : Int) (h1 : (Lit.int .i64 a1).wf = true) (v2 : Value) (hv2 : ActsArg w v2) (v3 : Value) (hv3 : ∃ m : LAct, True ∧ v3 = .agg (actE.arr m)) : Calls Try.prog 9 #[.int .i64 a0, .int .i64 a1, v2, v3] w fun e w' => e = .returned (.bool true) ∧ Below w.heap.size w w' := by
  obtain ⟨A2, c2, l2, rfl, hv2⟩ := hv2
  obtain ⟨m3, -, rfl⟩ := hv3
  cases hr : rightB a0 a1 with
  | false =>
    refine (copies_no hv2 m3 a0 a1 hr).mono ?_
    rintro e w' ⟨v, rfl, rfl, hn⟩
    exact ⟨rfl, hn.nb⟩
  | true =>
    obtain ⟨n, rfl⟩ := right_nat hr
    refine (copies_yes hv2 m3 n a1 hr).mono ?_
    rintro e w' ⟨v, rfl, rfl, hn⟩
    exact ⟨rfl, hn.nb⟩
end Go.Proofs.Ytdjgfkjcpalihaa
