/-
  The argument of BufferMemory: bytes.
-/
import Derived.Test.YtemihglffmfikaaBufO
import Derived.Test.YtemihglffmfikaaBufS
namespace Go.Proofs.Ytemihglffmfikaa
open Go.RowKit Go.ChangeShapes Go.WideShapes Go.ChangeAt
section
variable {H : Type} {enc : TypeId × Value → H} {w : World} {base : Nat} {held : Bool}
def BytesArg (w : World) (v : Value) : Prop := ∃ A cap l, v = .slice A l.length cap ∧ View byE w A cap l
theorem open_byts {r : Reach} {b0 : Nat} {v : Value} {d : DataW H} {p : List MemPlace} (hv : Value.okWide Try.prog w r b0 46 v) (h : DataW.Trod enc Try.prog w base (fun _ => true) held 46 v d p) : BytesArg w v := by
  obtain ⟨A, cap, l, h1, h2, _⟩ := open_recs (E := byE) (OK := fun _ => True) Try.underlying46 cells5 (fun _ cs _ h => by
    obtain ⟨a, e0, _, wa⟩ := DataW.trod_int Try.underlying5 h
    exact ⟨⟨a, wf_u8 wa⟩, trivial, e0⟩) hv h
  exact ⟨A, cap, l, h1, h2⟩
end
end Go.Proofs.Ytemihglffmfikaa
