/-
  Calls on caches as data; small facts for the statements.
-/
import Derived.Test.YtdjgfkjcpalihaaLinG
namespace Go.Proofs.Ytdjgfkjcpalihaa
open Go.RowKit
structure LAct where
  what : Int
  ln : Ln
  deriving DecidableEq
def LAct.cells (a : LAct) : List Value := .int .i64 a.what :: a.ln.cells
def actE : Enc Try.prog LAct where
  T := 57
  n := 19
  cells := LAct.cells
  len := fun a => by simp [LAct.cells, a.ln.len]
  one := fun a v hv => by
    simp only [LAct.cells, List.mem_cons] at hv
    rcases hv with rfl | hv
    · rfl
    · exact a.ln.one v hv
  pos := by decide
def act0 : LAct := ⟨0, ln0⟩
theorem act_ln (a : LAct) : ((actE.cells a).drop 1).take 18 = lnE.cells a.ln := by
  show a.ln.cells.take 18 = a.ln.cells
  exact List.take_of_length_le (by rw [a.ln.len]; omega)
theorem act_lnA (a : LAct) : ((actE.arr a).toList.drop 1).take 18 = lnE.cells a.ln := by
  rw [actE.toList]
  exact act_ln a
theorem fnd_get (L : List Ln) (num : Int) : (getN L num).isSome = decide (0 ≤ fndI L num) := by
  rcases fnd_spec L num with ⟨hf, hno⟩ | ⟨i, hf, hi, hin, hall⟩
  · rw [hf, fnd_none ⟨hf, hno⟩]; rfl
  · rw [hf, get_at hi hin hall]
    exact (decide_eq_true (by omega)).symm
theorem uniq_get {L : List Ln} (hu : Uniq L) {i : Nat} (hi : i < L.length) : getN L (L.getD i ln0).num = some (L.getD i ln0) := by
  refine get_at hi rfl fun j hj he => ?_
  have h1 := List.pairwise_iff_getElem.1 hu j i (by omega) hi hj
  simp only [List.getD, List.getElem?_eq_getElem hi, List.getElem?_eq_getElem (show j < L.length by omega), Option.getD_some] at he
  exact h1 he
def wl4 : Ln := mkL 4 1
def wl6 : Ln := mkL 6 3
def wl8 : Ln := mkL 8 2
theorem ws1 : putE 2 2 [] wl4 = 0 ∧ putL 2 2 [] wl4 = [wl4] := by decide +kernel
theorem ws2 : putE 2 2 [wl4] wl6 = 0 ∧ putL 2 2 [wl4] wl6 = [wl4, wl6] := by decide +kernel
theorem ws3 : putE 2 2 [wl4, wl6] wl8 = 200 ∧ putL 2 2 [wl4, wl6] wl8 = [wl4, wl6] := by decide +kernel
theorem ws4 : vicL 2 2 [wl4, wl6] 8 (-1) = some wl6 := by decide +kernel
theorem ws5 : (getN [wl4, wl6] 4).isSome = true ∧ dropL [wl4, wl6] 4 = [wl6] := by decide +kernel
theorem ws6 : (getN [wl6] 4).isSome = false ∧ dropL [wl6] 4 = [wl6] := by decide +kernel
theorem ws7 : putE 2 2 [wl6] wl8 = 0 ∧ putL 2 2 [wl6] wl8 = [wl6, wl8] := by decide +kernel
end Go.Proofs.Ytdjgfkjcpalihaa
