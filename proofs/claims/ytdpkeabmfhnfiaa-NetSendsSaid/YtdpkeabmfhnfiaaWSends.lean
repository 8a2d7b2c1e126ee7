/-
  The walk of NetSends, as the statement's frame wants it.
-/
import Derived.Test.YtdpkeabmfhnfiaaNetK
import Derived.Test.YtdpkeabmfhnfiaaNetO
namespace Go.Proofs.Ytdpkeabmfhnfiaa
open Go.RowKit
theorem walk_NetSends (w : World) (most : Int) (_ : (Lit.int .i64 most).wf = true) (v : Value) (hv : MsgsArg w v) : Calls Try.prog 6 #[.int .i64 most, v] w fun e w' => e = .returned (.bool true) ∧ Below w.heap.size w w' := by
  obtain ⟨A, cap, l, rfl, hv⟩ := hv
  refine (sends_c most hv).mono ?_
  rintro e w' ⟨v, rfl, rfl, hn⟩
  exact ⟨rfl, hn.nb⟩
end Go.Proofs.Ytdpkeabmfhnfiaa
