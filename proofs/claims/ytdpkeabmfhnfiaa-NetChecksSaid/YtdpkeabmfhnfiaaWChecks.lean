/-
  The walk of NetChecks, as the statement's frame wants it.
-/
import Derived.Test.YtdpkeabmfhnfiaaNetE
import Derived.Test.YtdpkeabmfhnfiaaNetO
namespace Go.Proofs.Ytdpkeabmfhnfiaa
open Go.RowKit
theorem walk_NetChecks (w : World) (v : Value) (hv : ∃ m : Msg, True ∧ v = .agg (msgE.arr m)) : Calls Try.prog 3 #[v] w fun e w' => e = .returned (.bool true) ∧ Below w.heap.size w w' := by
  obtain ⟨m, -, rfl⟩ := hv
  refine (checks_c m w).mono ?_
  rintro e w' ⟨v, rfl, rfl, hn⟩
  exact ⟨rfl, hn.nb⟩
end Go.Proofs.Ytdpkeabmfhnfiaa
