/-
  The walk of NetCopies, as the statement's frame wants it.
-/
import Derived.Test.YtdpkeabmfhnfiaaNetM
import Derived.Test.YtdpkeabmfhnfiaaNetO
namespace Go.Proofs.Ytdpkeabmfhnfiaa
open Go.RowKit
theorem walk_NetCopies (w : World) (most : Int) (_ : (Lit.int .i64 most).wf = true) (v : Value) (hv : ActsArg w v) (u : Value) (hu : ∃ m : NAct, True ∧ u = .agg (actE.arr m)) : Calls Try.prog 9 #[.int .i64 most, v, u] w fun e w' => e = .returned (.bool true) ∧ Below w.heap.size w w' := by
  obtain ⟨A, cap, l, rfl, hv⟩ := hv
  obtain ⟨m, -, rfl⟩ := hu
  refine (copies_c most hv m).mono ?_
  rintro e w' ⟨v, rfl, rfl, hn⟩
  exact ⟨rfl, hn.nb⟩
end Go.Proofs.Ytdpkeabmfhnfiaa
