/-
  The arguments of the statements: lines, calls, questions, lists of them.
-/
import Derived.Test.YtdjgfkjcpalihaaFXarg
import Derived.Test.YtdjgfkjcpalihaaLinH0
namespace Go.Proofs.Ytdjgfkjcpalihaa
open Go.RowKit Go.ChangeShapes Go.WideShapes Go.ChangeAt
section
variable {H : Type} {enc : TypeId × Value → H} {w : World} {base : Nat} {spare : Nat → Bool} {held : Bool} {fuel : Nat} {cs : List Value} {x : DataW H × List MemPlace}
theorem cellsLINE : Try.prog.cellsOf 39 = 18 := by kernel_rfl
theorem cellsACT : Try.prog.cellsOf 57 = 19 := by kernel_rfl
theorem cellsASK : Try.prog.cellsOf 35 = 2 := by kernel_rfl
theorem cellsU32 : Try.prog.cellsOf 33 = 1 := by kernel_rfl
theorem cellsSTATE : Try.prog.cellsOf 36 = 1 := by kernel_rfl
theorem cellsARR : Try.prog.cellsOf 37 = 16 := by kernel_rfl
theorem cellsU8 : Try.prog.cellsOf 5 = 1 := by kernel_rfl
theorem cellsI64 : Try.prog.cellsOf 3 = 1 := by kernel_rfl
theorem wf_u32 {a : Int} (h : (Lit.int .u32 a).wf = true) : 0 ≤ a ∧ a < 4294967296 := by
  simp [Lit.wf, IntKind.min, IntKind.max, IntKind.signed, IntKind.bits] at h
  omega
theorem wf_u8 {a : Int} (h : (Lit.int .u8 a).wf = true) : 0 ≤ a ∧ a < 256 := by
  simp [Lit.wf, IntKind.min, IntKind.max, IntKind.signed, IntKind.bits] at h
  omega
theorem trod_ln (h : DataW.trod enc Try.prog w base spare held fuel 39 cs = some x) : ∃ m : Ln, True ∧ cs = m.cells := by
  obtain ⟨xs, n, _, _, hl, hlen, hg⟩ := DataW.trod_struct Try.underlying39 h
  rw [cellsLINE] at hl
  match xs, hlen with
  | [y0, y1, y2], _ =>
    have h0 : DataW.trod enc Try.prog w base spare held n 33 ((cs.drop 0).take (Try.prog.cellsOf 33)) = some y0 := hg 0 _ rfl
    rw [cellsU32] at h0
    have h1 : DataW.trod enc Try.prog w base spare held n 36 ((cs.drop 1).take (Try.prog.cellsOf 36)) = some y1 := hg 1 _ rfl
    rw [cellsSTATE] at h1
    have h2 : DataW.trod enc Try.prog w base spare held n 37 ((cs.drop 2).take (Try.prog.cellsOf 37)) = some y2 := hg 2 _ rfl
    rw [cellsARR] at h2
    obtain ⟨a0, e0, _, w0⟩ := DataW.trod_int Try.underlying33 h0
    obtain ⟨a1, e1, _⟩ := DataW.trod_int Try.underlying36 h1
    obtain ⟨l, hll, e2, hw⟩ := trod_ints Try.underlying37 Try.underlying5 cellsU8 cellsARR h2
    refine ⟨⟨a0, a1, ⟨l, hll, fun a ha => wf_u8 (hw a ha)⟩, wf_u32 w0⟩, trivial, ?_⟩
    have p3 : cs.drop 18 = [] := List.drop_eq_nil_of_le (by omega)
    have p2 := piece e2 p3
    have p1 := piece e1 p2
    have p0 := piece e0 p1
    rw [List.drop_zero] at p0
    rw [p0]
    simp [Ln.cells]
theorem trod_act (h : DataW.trod enc Try.prog w base spare held fuel 57 cs = some x) : ∃ m : LAct, True ∧ cs = m.cells := by
  obtain ⟨xs, n, _, _, hl, hlen, hg⟩ := DataW.trod_struct Try.underlying57 h
  rw [cellsACT] at hl
  match xs, hlen with
  | [y0, y1], _ =>
    have h0 : DataW.trod enc Try.prog w base spare held n 3 ((cs.drop 0).take (Try.prog.cellsOf 3)) = some y0 := hg 0 _ rfl
    rw [cellsI64] at h0
    have h1 : DataW.trod enc Try.prog w base spare held n 39 ((cs.drop 1).take (Try.prog.cellsOf 39)) = some y1 := hg 1 _ rfl
    rw [cellsLINE] at h1
    obtain ⟨a0, e0, _⟩ := DataW.trod_int Try.underlying3 h0
    obtain ⟨m, -, e1⟩ := trod_ln h1
    refine ⟨⟨a0, m⟩, trivial, ?_⟩
    have p3 : cs.drop 19 = [] := List.drop_eq_nil_of_le (by omega)
    have p1 := piece e1 p3
    have p0 := piece e0 p1
    rw [List.drop_zero] at p0
    rw [p0]
    simp [LAct.cells]
/-- A question: a number and a pick. -/
structure Qy where
  num : Int
  pick : Int
  hn : 0 ≤ num ∧ num < 4294967296
  deriving DecidableEq
def Qy.cells (q : Qy) : List Value := [.int .u32 q.num, .int .i64 q.pick]
def qyE : Enc Try.prog Qy where
  T := 35
  n := 2
  cells := Qy.cells
  len := fun q => rfl
  one := fun q v hv => by
    simp only [Qy.cells, List.mem_cons, List.mem_nil_iff, or_false] at hv
    rcases hv with rfl | rfl <;> rfl
  pos := by decide
theorem trod_qy (h : DataW.trod enc Try.prog w base spare held fuel 35 cs = some x) : ∃ m : Qy, True ∧ cs = m.cells := by
  obtain ⟨xs, n, _, _, hl, hlen, hg⟩ := DataW.trod_struct Try.underlying35 h
  rw [cellsASK] at hl
  match xs, hlen with
  | [y0, y1], _ =>
    have h0 : DataW.trod enc Try.prog w base spare held n 33 ((cs.drop 0).take (Try.prog.cellsOf 33)) = some y0 := hg 0 _ rfl
    rw [cellsU32] at h0
    have h1 : DataW.trod enc Try.prog w base spare held n 3 ((cs.drop 1).take (Try.prog.cellsOf 3)) = some y1 := hg 1 _ rfl
    rw [cellsI64] at h1
    obtain ⟨a0, e0, _, w0⟩ := DataW.trod_int Try.underlying33 h0
    obtain ⟨a1, e1, _⟩ := DataW.trod_int Try.underlying3 h1
    refine ⟨⟨a0, a1, wf_u32 w0⟩, trivial, ?_⟩
    have p3 : cs.drop 2 = [] := List.drop_eq_nil_of_le (by omega)
    have p1 := piece e1 p3
    have p0 := piece e0 p1
    rw [List.drop_zero] at p0
    rw [p0]
    simp [Qy.cells]
theorem open_act {r : Reach} {b0 : Nat} {v : Value} {d : DataW H} {p : List MemPlace} (hv : Value.okWide Try.prog w r b0 57 v) (h : DataW.Trod enc Try.prog w base (fun _ => true) held 57 v d p) : ∃ m : LAct, True ∧ v = .agg (actE.arr m) :=
  open_rec (E := actE) (OK := fun _ => True) Try.underlying57 (fun _ _ _ => trod_act) hv h
theorem open_ask {r : Reach} {b0 : Nat} {v : Value} {d : DataW H} {p : List MemPlace} (hv : Value.okWide Try.prog w r b0 35 v) (h : DataW.Trod enc Try.prog w base (fun _ => true) held 35 v d p) : ∃ m : Qy, True ∧ v = .agg (qyE.arr m) :=
  open_rec (E := qyE) (OK := fun _ => True) Try.underlying35 (fun _ _ _ => trod_qy) hv h
def ActsArg (w : World) (v : Value) : Prop := ∃ A cap l, v = .slice A l.length cap ∧ View actE w A cap l
theorem open_acts {r : Reach} {b0 : Nat} {v : Value} {d : DataW H} {p : List MemPlace} (hv : Value.okWide Try.prog w r b0 22 v) (h : DataW.Trod enc Try.prog w base (fun _ => true) held 22 v d p) : ActsArg w v := by
  obtain ⟨A, cap, l, h1, h2, _⟩ := open_recs (E := actE) (OK := fun _ => True) Try.underlying22 cellsACT (fun _ _ _ => trod_act) hv h
  exact ⟨A, cap, l, h1, h2⟩
def LnsArg (w : World) (v : Value) : Prop := ∃ A cap l, v = .slice A l.length cap ∧ View lnE w A cap l
theorem open_lns {r : Reach} {b0 : Nat} {v : Value} {d : DataW H} {p : List MemPlace} (hv : Value.okWide Try.prog w r b0 26 v) (h : DataW.Trod enc Try.prog w base (fun _ => true) held 26 v d p) : LnsArg w v := by
  obtain ⟨A, cap, l, h1, h2, _⟩ := open_recs (E := lnE) (OK := fun _ => True) Try.underlying26 cellsLINE (fun _ _ _ => trod_ln) hv h
  exact ⟨A, cap, l, h1, h2⟩
theorem right_nat {a b : Int} (h : rightB a b = true) : ∃ n : Nat, a = (n : Int) := ⟨a.toNat, by have := right_yes h; omega⟩
end
end Go.Proofs.Ytdjgfkjcpalihaa
