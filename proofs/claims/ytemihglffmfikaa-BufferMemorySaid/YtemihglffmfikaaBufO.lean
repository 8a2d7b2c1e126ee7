/-
  The arguments of the statements: stores, calls, lists of them.
-/
import Derived.Test.YtemihglffmfikaaFXarg
import Derived.Test.YtemihglffmfikaaBufA
namespace Go.Proofs.Ytemihglffmfikaa
open Go.RowKit Go.ChangeShapes Go.WideShapes Go.ChangeAt
section
variable {H : Type} {enc : TypeId × Value → H} {w : World} {base : Nat} {spare : Nat → Bool} {held : Bool} {fuel : Nat} {cs : List Value} {x : DataW H × List MemPlace}
theorem cells24 : Try.prog.cellsOf 24 = 3 := by kernel_rfl
theorem cells48 : Try.prog.cellsOf 48 = 4 := by kernel_rfl
theorem cells3 : Try.prog.cellsOf 3 = 1 := by kernel_rfl
theorem cells22 : Try.prog.cellsOf 22 = 1 := by kernel_rfl
theorem cells5 : Try.prog.cellsOf 5 = 1 := by kernel_rfl
theorem wf_u32 {a : Int} (h : (Lit.int .u32 a).wf = true) : 0 ≤ a ∧ a < 4294967296 := by
  simp [Lit.wf, IntKind.min, IntKind.max, IntKind.signed, IntKind.bits] at h
  omega
theorem wf_u8 {a : Int} (h : (Lit.int .u8 a).wf = true) : 0 ≤ a ∧ a < 256 := by
  simp [Lit.wf, IntKind.min, IntKind.max, IntKind.signed, IntKind.bits] at h
  omega
theorem trod_st (h : DataW.trod enc Try.prog w base spare held fuel 24 cs = some x) : ∃ s : St, True ∧ cs = s.cells := by
  obtain ⟨xs, n, _, _, hl, hlen, hg⟩ := DataW.trod_struct Try.underlying24 h
  rw [cells24] at hl
  match xs, hlen with
  | [y0, y1, y2], _ =>
    have h0 : DataW.trod enc Try.prog w base spare held n 22 ((cs.drop 0).take (Try.prog.cellsOf 22)) = some y0 := hg 0 _ rfl
    rw [cells22] at h0
    have h1 : DataW.trod enc Try.prog w base spare held n 3 ((cs.drop 1).take (Try.prog.cellsOf 3)) = some y1 := hg 1 _ rfl
    rw [cells3] at h1
    have h2 : DataW.trod enc Try.prog w base spare held n 22 ((cs.drop 2).take (Try.prog.cellsOf 22)) = some y2 := hg 2 _ rfl
    rw [cells22] at h2
    obtain ⟨a0, e0, _, w0⟩ := DataW.trod_int Try.underlying22 h0
    obtain ⟨a1, e1, _⟩ := DataW.trod_int Try.underlying3 h1
    obtain ⟨a2, e2, _, w2⟩ := DataW.trod_int Try.underlying22 h2
    refine ⟨⟨a0, a1, a2, wf_u32 w0, wf_u32 w2⟩, trivial, ?_⟩
    have p3 : cs.drop 3 = [] := List.drop_eq_nil_of_le (by omega)
    have p2 := piece e2 p3
    have p1 := piece e1 p2
    have p0 := piece e0 p1
    rw [List.drop_zero] at p0
    rw [p0]
    simp [St.cells]
theorem trod_act (h : DataW.trod enc Try.prog w base spare held fuel 48 cs = some x) : ∃ m : BAct, True ∧ cs = m.cells := by
  obtain ⟨xs, n, _, _, hl, hlen, hg⟩ := DataW.trod_struct Try.underlying48 h
  rw [cells48] at hl
  match xs, hlen with
  | [y0, y1], _ =>
    have h0 : DataW.trod enc Try.prog w base spare held n 3 ((cs.drop 0).take (Try.prog.cellsOf 3)) = some y0 := hg 0 _ rfl
    rw [cells3] at h0
    have h1 : DataW.trod enc Try.prog w base spare held n 24 ((cs.drop 1).take (Try.prog.cellsOf 24)) = some y1 := hg 1 _ rfl
    rw [cells24] at h1
    obtain ⟨a0, e0, _⟩ := DataW.trod_int Try.underlying3 h0
    obtain ⟨m, -, e1⟩ := trod_st h1
    refine ⟨⟨a0, m⟩, trivial, ?_⟩
    have p3 : cs.drop 4 = [] := List.drop_eq_nil_of_le (by omega)
    have p1 := piece e1 p3
    have p0 := piece e0 p1
    rw [List.drop_zero] at p0
    rw [p0]
    simp [BAct.cells]
theorem open_st {r : Reach} {b0 : Nat} {v : Value} {d : DataW H} {p : List MemPlace} (hv : Value.okWide Try.prog w r b0 24 v) (h : DataW.Trod enc Try.prog w base (fun _ => true) held 24 v d p) : ∃ m : St, True ∧ v = .agg (stE.arr m) :=
  open_rec (E := stE) (OK := fun _ => True) Try.underlying24 (fun _ _ _ => trod_st) hv h
theorem open_act {r : Reach} {b0 : Nat} {v : Value} {d : DataW H} {p : List MemPlace} (hv : Value.okWide Try.prog w r b0 48 v) (h : DataW.Trod enc Try.prog w base (fun _ => true) held 48 v d p) : ∃ m : BAct, True ∧ v = .agg (actE.arr m) :=
  open_rec (E := actE) (OK := fun _ => True) Try.underlying48 (fun _ _ _ => trod_act) hv h
def ActsArg (w : World) (v : Value) : Prop := ∃ A cap l, v = .slice A l.length cap ∧ View actE w A cap l
theorem open_acts {r : Reach} {b0 : Nat} {v : Value} {d : DataW H} {p : List MemPlace} (hv : Value.okWide Try.prog w r b0 40 v) (h : DataW.Trod enc Try.prog w base (fun _ => true) held 40 v d p) : ActsArg w v := by
  obtain ⟨A, cap, l, h1, h2, _⟩ := open_recs (E := actE) (OK := fun _ => True) Try.underlying40 cells48 (fun _ _ _ => trod_act) hv h
  exact ⟨A, cap, l, h1, h2⟩
def StsArg (w : World) (v : Value) : Prop := ∃ A cap l, v = .slice A l.length cap ∧ View stE w A cap l
theorem open_sts {r : Reach} {b0 : Nat} {v : Value} {d : DataW H} {p : List MemPlace} (hv : Value.okWide Try.prog w r b0 32 v) (h : DataW.Trod enc Try.prog w base (fun _ => true) held 32 v d p) : StsArg w v := by
  obtain ⟨A, cap, l, h1, h2, _⟩ := open_recs (E := stE) (OK := fun _ => True) Try.underlying32 cells24 (fun _ _ _ => trod_st) hv h
  exact ⟨A, cap, l, h1, h2⟩
end
end Go.Proofs.Ytemihglffmfikaa
