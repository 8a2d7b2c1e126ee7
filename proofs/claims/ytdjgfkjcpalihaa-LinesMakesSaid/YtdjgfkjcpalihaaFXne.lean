/-
  Blocks that are not the same, said so that 'omega' does not look at it.
-/
import Derived.Test.YtdjgfkjcpalihaaKit
namespace Go.Proofs.Ytdjgfkjcpalihaa
/-- Two blocks. -/
def NE (a b : Nat) : Prop := ¬ a = b
theorem NE.mk {a b : Nat} (h : a < b) : NE a b := Nat.ne_of_lt h
theorem NE.symm {a b : Nat} (h : NE a b) : NE b a := fun e => h e.symm
end Go.Proofs.Ytdjgfkjcpalihaa
