/-
  The walk of NetAll, as the statement's frame wants it.
-/
import Derived.Test.YtdpkeabmfhnfiaaNetG
import Derived.Test.YtdpkeabmfhnfiaaNetO
namespace Go.Proofs.Ytdpkeabmfhnfiaa
open Go.RowKit
theorem walk_NetAll (w : World) (v : Value) (hv : ActsArg w v) (u : Value) (hu : IntsArg w u) : Calls Try.prog 4 #[v, u] w fun e w' => e = .returned (.bool true) ∧ Below w.heap.size w w' := by
  obtain ⟨A, cap, l, rfl, hv⟩ := hv
  obtain ⟨B, c, q, rfl, hu⟩ := hu
  refine (all_c hv hu).mono ?_
  rintro e w' ⟨v, rfl, rfl, hn⟩
  exact ⟨rfl, hn.nb⟩
end Go.Proofs.Ytdpkeabmfhnfiaa
