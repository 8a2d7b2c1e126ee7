/-
  The walk of NetMakes, as the statement's frame wants it.
-/
import Derived.Test.YtdpkeabmfhnfiaaNetL
import Derived.Test.YtdpkeabmfhnfiaaNetO
namespace Go.Proofs.Ytdpkeabmfhnfiaa
open Go.RowKit
theorem walk_NetMakes (w : World) (most : Int) (_ : (Lit.int .i64 most).wf = true) : Calls Try.prog 8 #[.int .i64 most] w fun e w' => e = .returned (.bool true) ∧ Below w.heap.size w w' := by
  by_cases h : most < 1 ∨ 1024 < most
  · refine (makes_no most w h).mono ?_
    rintro e w' ⟨v, rfl, rfl, hn⟩
    exact ⟨rfl, hn.nb⟩
  · refine (makes_yes most w (by omega) (by omega)).mono ?_
    rintro e w' ⟨v, rfl, rfl, hn⟩
    exact ⟨rfl, hn.nb⟩
end Go.Proofs.Ytdpkeabmfhnfiaa
