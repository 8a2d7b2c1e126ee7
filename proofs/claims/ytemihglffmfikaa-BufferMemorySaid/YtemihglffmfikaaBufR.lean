/-
  More plain laws: the first one taken off.
-/
import Derived.Test.YtemihglffmfikaaBufF
namespace Go.Proofs.Ytemihglffmfikaa
open Go.RowKit
theorem tail_slice {w : World} {A : Option Addr} {cap : Nat} {l : List VSt} (hV : View stE w A cap (vals l)) :
    ∃ A' cap', Value.slice (cutA A cap (min 1 (vals l).length) 3) ((vals l).length - min 1 (vals l).length) (cap - min 1 (vals l).length) = .slice A' (vals l.tail).length cap' ∧ View stE w A' cap' (vals l.tail) ∧ ∀ g, inA A' g → inA A g ∨ w.heap.size ≤ g := by
  have h1 := vals_len l
  have hv := hV.drop (min 1 (vals l).length) (Nat.min_le_right _ _)
  have e : (vals l).drop (min 1 (vals l).length) = vals l.tail := by
    cases l with
    | nil => rfl
    | cons x l => simp [vals, show min 1 (l.length + 1) = 1 by omega]
  rw [e] at hv
  refine ⟨_, _, ?_, hv, fun g ⟨o, hg⟩ => .inl ?_⟩
  · rw [← e, List.length_drop]
    rfl
  · change cutA A cap (min 1 (vals l).length) 3 = some _ at hg
    unfold cutA at hg
    split at hg
    · exact ⟨_, hg⟩
    · obtain ⟨_, _, ⟨hA, _⟩ | ⟨g', o', hA, _⟩⟩ := hV
      · rw [hA] at hg; cases hg
      · rw [hA] at hg
        simp only [Option.map_some, Option.some.injEq, addr_add, Addr.mk.injEq] at hg
        exact ⟨o', by rw [hA, hg.1]⟩
def wv1 : VSt := ⟨mkS 8 4 305419896, by decide⟩
def wv2 : VSt := ⟨mkS 9 1 5, by decide⟩
theorem pw1 : pushL [] wv1.1 = [wv1] := by decide +kernel
theorem pe1 : pushE [] wv1.1 = 0 := by decide +kernel
theorem pw2 : pushL [wv1] wv2.1 = [wv1, wv2] := by decide +kernel
theorem pe2 : pushE [wv1] wv2.1 = 0 := by decide +kernel
end Go.Proofs.Ytemihglffmfikaa
