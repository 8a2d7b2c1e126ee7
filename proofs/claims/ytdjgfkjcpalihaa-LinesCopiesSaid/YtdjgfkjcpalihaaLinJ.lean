/-
  LinesCopies. Printed by gen_j.py.
-/
import Derived.Test.YtdjgfkjcpalihaaLinJ1
import Derived.Test.YtdjgfkjcpalihaaLinJ2
namespace Go.Proofs.Ytdjgfkjcpalihaa
open Go.RowKit

theorem copies_yes {w : World} {P : Option Addr} {cp : Nat} {la : List LAct} (hV : View actE w P cp la)  (q : LAct) (n : Nat) (ways : Int) (hr : rightB ((n : Nat) : Int) ways = true) : Calls Try.prog 9 #[.int .i64 ((n : Nat) : Int), .int .i64 ways, .slice P la.length cp, .agg (actE.arr q)] w (Ret fun v w' => v = .bool true ∧ New w w') := by
  rcases Decidable.em (q.what ≠ 0) with h | h
  · exact copies_drop hV q h n ways hr
  · exact copies_put hV q h n ways hr
end Go.Proofs.Ytdjgfkjcpalihaa
