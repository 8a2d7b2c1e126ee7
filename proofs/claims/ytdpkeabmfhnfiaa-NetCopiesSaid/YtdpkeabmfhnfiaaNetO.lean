/-
  The arguments of the statements: messages, calls, lists of them.
-/
import Derived.Test.YtdpkeabmfhnfiaaFXarg
import Derived.Test.YtdpkeabmfhnfiaaNetN
namespace Go.Proofs.Ytdpkeabmfhnfiaa
open Go.RowKit Go.ChangeShapes Go.WideShapes Go.ChangeAt
section
variable {H : Type} {enc : TypeId × Value → H} {w : World} {base : Nat} {spare : Nat → Bool} {held : Bool} {fuel : Nat} {cs : List Value} {x : DataW H × List MemPlace}

theorem cells24 : Try.prog.cellsOf 24 = 16 := by kernel_rfl
theorem cells26 : Try.prog.cellsOf 26 = 20 := by kernel_rfl
theorem cells40 : Try.prog.cellsOf 40 = 22 := by kernel_rfl
theorem cells3 : Try.prog.cellsOf 3 = 1 := by kernel_rfl
theorem cells5 : Try.prog.cellsOf 5 = 1 := by kernel_rfl
theorem cells22 : Try.prog.cellsOf 22 = 1 := by kernel_rfl
theorem cells23 : Try.prog.cellsOf 23 = 1 := by kernel_rfl
theorem trod_msg (h : DataW.trod enc Try.prog w base spare held fuel 26 cs = some x) : ∃ m : Msg, True ∧ cs = m.cells := by
  obtain ⟨xs, n, _, _, hl, hlen, hg⟩ := DataW.trod_struct Try.underlying26 h
  rw [cells26] at hl
  match xs, hlen with
  | [y0, y1, y2, y3, y4], _ =>
    have h0 : DataW.trod enc Try.prog w base spare held n 22 ((cs.drop 0).take (Try.prog.cellsOf 22)) = some y0 := hg 0 _ rfl
    rw [cells22] at h0
    have h1 : DataW.trod enc Try.prog w base spare held n 3 ((cs.drop 1).take (Try.prog.cellsOf 3)) = some y1 := hg 1 _ rfl
    rw [cells3] at h1
    have h2 : DataW.trod enc Try.prog w base spare held n 3 ((cs.drop 2).take (Try.prog.cellsOf 3)) = some y2 := hg 2 _ rfl
    rw [cells3] at h2
    have h3 : DataW.trod enc Try.prog w base spare held n 23 ((cs.drop 3).take (Try.prog.cellsOf 23)) = some y3 := hg 3 _ rfl
    rw [cells23] at h3
    have h4 : DataW.trod enc Try.prog w base spare held n 24 ((cs.drop 4).take (Try.prog.cellsOf 24)) = some y4 := hg 4 _ rfl
    rw [cells24] at h4
    obtain ⟨a0, e0, _⟩ := DataW.trod_int Try.underlying22 h0
    obtain ⟨a1, e1, _⟩ := DataW.trod_int Try.underlying3 h1
    obtain ⟨a2, e2, _⟩ := DataW.trod_int Try.underlying3 h2
    obtain ⟨a3, e3, _⟩ := DataW.trod_int Try.underlying23 h3
    obtain ⟨l, hll, e4, _⟩ := trod_ints Try.underlying24 Try.underlying5 cells5 cells24 h4
    refine ⟨⟨a0, a1, a2, a3, ⟨l, hll⟩⟩, trivial, ?_⟩
    have p5 : cs.drop 20 = [] := List.drop_eq_nil_of_le (by omega)
    have p4 := piece e4 p5
    have p3 := piece e3 p4
    have p2 := piece e2 p3
    have p1 := piece e1 p2
    have p0 := piece e0 p1
    rw [List.drop_zero] at p0
    rw [p0]
    simp [Msg.cells]
theorem trod_act (h : DataW.trod enc Try.prog w base spare held fuel 40 cs = some x) : ∃ m : NAct, True ∧ cs = m.cells := by
  obtain ⟨xs, n, _, _, hl, hlen, hg⟩ := DataW.trod_struct Try.underlying40 h
  rw [cells40] at hl
  match xs, hlen with
  | [y0, y1, y2], _ =>
    have h0 : DataW.trod enc Try.prog w base spare held n 3 ((cs.drop 0).take (Try.prog.cellsOf 3)) = some y0 := hg 0 _ rfl
    rw [cells3] at h0
    have h1 : DataW.trod enc Try.prog w base spare held n 26 ((cs.drop 1).take (Try.prog.cellsOf 26)) = some y1 := hg 1 _ rfl
    rw [cells26] at h1
    have h2 : DataW.trod enc Try.prog w base spare held n 3 ((cs.drop 21).take (Try.prog.cellsOf 3)) = some y2 := hg 2 _ rfl
    rw [cells3] at h2
    obtain ⟨a0, e0, _⟩ := DataW.trod_int Try.underlying3 h0
    obtain ⟨m, -, e1⟩ := trod_msg h1
    obtain ⟨a2, e2, _⟩ := DataW.trod_int Try.underlying3 h2
    refine ⟨⟨a0, m, a2⟩, trivial, ?_⟩
    have p3 : cs.drop 22 = [] := List.drop_eq_nil_of_le (by omega)
    have p2 := piece e2 p3
    have p1 := piece e1 p2
    have p0 := piece e0 p1
    rw [List.drop_zero] at p0
    rw [p0]
    simp [NAct.cells]
theorem open_act {r : Reach} {b0 : Nat} {v : Value} {d : DataW H} {p : List MemPlace} (hv : Value.okWide Try.prog w r b0 40 v) (h : DataW.Trod enc Try.prog w base (fun _ => true) held 40 v d p) : ∃ m : NAct, True ∧ v = .agg (actE.arr m) :=
  open_rec (E := actE) (OK := fun _ => True) Try.underlying40 (fun _ _ _ => trod_act) hv h
def ActsArg (w : World) (v : Value) : Prop := ∃ A cap l, v = .slice A l.length cap ∧ View actE w A cap l
def IntsArg (w : World) (v : Value) : Prop := ∃ A cap l, v = .slice A l.length cap ∧ View intE w A cap l
theorem open_acts {r : Reach} {b0 : Nat} {v : Value} {d : DataW H} {p : List MemPlace} (hv : Value.okWide Try.prog w r b0 33 v) (h : DataW.Trod enc Try.prog w base (fun _ => true) held 33 v d p) : ActsArg w v := by
  obtain ⟨A, cap, l, h1, h2, _⟩ := open_recs (E := actE) (OK := fun _ => True) Try.underlying33 cells40 (fun _ _ _ => trod_act) hv h
  exact ⟨A, cap, l, h1, h2⟩
theorem open_intsA {r : Reach} {b0 : Nat} {v : Value} {d : DataW H} {p : List MemPlace} (hv : Value.okWide Try.prog w r b0 34 v) (h : DataW.Trod enc Try.prog w base (fun _ => true) held 34 v d p) : IntsArg w v := by
  obtain ⟨A, cap, l, h1, h2, _⟩ := open_recs (E := intE) (OK := fun _ => True) Try.underlying34 cells3 (fun _ cs _ h => by
    obtain ⟨a, e0, _⟩ := DataW.trod_int Try.underlying3 h
    exact ⟨a, trivial, e0⟩) hv h
  exact ⟨A, cap, l, h1, h2⟩
def MsgsArg (w : World) (v : Value) : Prop := ∃ A cap l, v = .slice A l.length cap ∧ View msgE w A cap l
theorem open_msgs {r : Reach} {b0 : Nat} {v : Value} {d : DataW H} {p : List MemPlace} (hv : Value.okWide Try.prog w r b0 38 v) (h : DataW.Trod enc Try.prog w base (fun _ => true) held 38 v d p) : MsgsArg w v := by
  obtain ⟨A, cap, l, h1, h2, _⟩ := open_recs (E := msgE) (OK := fun _ => True) Try.underlying38 cells26 (fun _ _ _ => trod_msg) hv h
  exact ⟨A, cap, l, h1, h2⟩
theorem open_msg {r : Reach} {b0 : Nat} {v : Value} {d : DataW H} {p : List MemPlace} (hv : Value.okWide Try.prog w r b0 26 v) (h : DataW.Trod enc Try.prog w base (fun _ => true) held 26 v d p) : ∃ m : Msg, True ∧ v = .agg (msgE.arr m) :=
  open_rec (E := msgE) (OK := fun _ => True) Try.underlying26 (fun _ _ _ => trod_msg) hv h
end
end Go.Proofs.Ytdpkeabmfhnfiaa
