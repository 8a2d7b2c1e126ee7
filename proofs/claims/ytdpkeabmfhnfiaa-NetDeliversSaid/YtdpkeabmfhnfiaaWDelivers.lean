/-
  The walk of NetDelivers, as the statement's frame wants it.
-/
import Derived.Test.YtdpkeabmfhnfiaaNetK
import Derived.Test.YtdpkeabmfhnfiaaNetO
namespace Go.Proofs.Ytdpkeabmfhnfiaa
open Go.RowKit
theorem walk_NetDelivers (w : World) (v : Value) (hv : MsgsArg w v) (pick : Int) (_ : (Lit.int .i64 pick).wf = true) : Calls Try.prog 7 #[v, .int .i64 pick] w fun e w' => e = .returned (.bool true) ∧ Below w.heap.size w w' := by
  obtain ⟨A, cap, l, rfl, hv⟩ := hv
  refine (delivers_c hv pick).mono ?_
  rintro e w' ⟨v, rfl, rfl, hn⟩
  exact ⟨rfl, hn.nb⟩
end Go.Proofs.Ytdpkeabmfhnfiaa
