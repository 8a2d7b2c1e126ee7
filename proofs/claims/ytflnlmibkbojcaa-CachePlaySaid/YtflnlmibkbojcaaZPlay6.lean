/-
  Part 6 of what the claim stands on: walks through the code, plain laws.
-/
import Derived.Test.YtflnlmibkbojcaaZPlay5
namespace Go.Proofs.Ytflnlmibkbojcaa
open Go.RowKit Go.ChangeShapes Go.WideShapes Go.ChangeAt
section
variable {H : Type} {enc : TypeId × Value → H} {w : World} {base : Nat} {spare : Nat → Bool} {held : Bool} {fuel : Nat} {cs : List Value} {x : DataW H × List MemPlace}
theorem cellsMSG : Try.prog.cellsOf 35 = 20 := by kernel_rfl
theorem cellsSTEP : Try.prog.cellsOf 45 = 27 := by kernel_rfl
theorem cellsFORM : Try.prog.cellsOf 55 = 2 := by kernel_rfl
theorem cellsKIND : Try.prog.cellsOf 33 = 1 := by kernel_rfl
theorem cellsBOOL : Try.prog.cellsOf 4 = 1 := by kernel_rfl
theorem cellsU32 : Try.prog.cellsOf 32 = 1 := by kernel_rfl
theorem cellsARR : Try.prog.cellsOf 22 = 16 := by kernel_rfl
theorem cellsU8 : Try.prog.cellsOf 5 = 1 := by kernel_rfl
theorem cellsI64 : Try.prog.cellsOf 3 = 1 := by kernel_rfl
theorem wf_u32 {a : Int} (h : (Lit.int .u32 a).wf = true) : 0 ≤ a ∧ a < 4294967296 := by
  simp [Lit.wf, IntKind.min, IntKind.max, IntKind.signed, IntKind.bits] at h
  omega
theorem wf_u8 {a : Int} (h : (Lit.int .u8 a).wf = true) : 0 ≤ a ∧ a < 256 := by
  simp [Lit.wf, IntKind.min, IntKind.max, IntKind.signed, IntKind.bits] at h
  omega
theorem trod_msg (h : DataW.trod enc Try.prog w base spare held fuel 35 cs = some x) : ∃ m : Msg, True ∧ cs = m.cells := by
  obtain ⟨xs, n, _, _, hl, hlen, hg⟩ := DataW.trod_struct Try.underlying35 h
  rw [cellsMSG] at hl
  match xs, hlen with
  | [y0, y1, y2, y3, y4], _ =>
    have h0 : DataW.trod enc Try.prog w base spare held n 33 ((cs.drop 0).take (Try.prog.cellsOf 33)) = some y0 := hg 0 _ rfl
    rw [cellsKIND] at h0
    have h1 : DataW.trod enc Try.prog w base spare held n 3 ((cs.drop 1).take (Try.prog.cellsOf 3)) = some y1 := hg 1 _ rfl
    rw [cellsI64] at h1
    have h2 : DataW.trod enc Try.prog w base spare held n 3 ((cs.drop 2).take (Try.prog.cellsOf 3)) = some y2 := hg 2 _ rfl
    rw [cellsI64] at h2
    have h3 : DataW.trod enc Try.prog w base spare held n 32 ((cs.drop 3).take (Try.prog.cellsOf 32)) = some y3 := hg 3 _ rfl
    rw [cellsU32] at h3
    have h4 : DataW.trod enc Try.prog w base spare held n 22 ((cs.drop 4).take (Try.prog.cellsOf 22)) = some y4 := hg 4 _ rfl
    rw [cellsARR] at h4
    obtain ⟨a0, e0, _⟩ := DataW.trod_int Try.underlying33 h0
    obtain ⟨a1, e1, _⟩ := DataW.trod_int Try.underlying3 h1
    obtain ⟨a2, e2, _⟩ := DataW.trod_int Try.underlying3 h2
    obtain ⟨a3, e3, _, w3⟩ := DataW.trod_int Try.underlying32 h3
    obtain ⟨l, hll, e4, hw⟩ := trod_ints Try.underlying22 Try.underlying5 cellsU8 cellsARR h4
    refine ⟨⟨a0, a1, a2, a3, ⟨l, hll, fun a ha => wf_u8 (hw a ha)⟩, wf_u32 w3⟩, trivial, ?_⟩
    have p5 : cs.drop 20 = [] := List.drop_eq_nil_of_le (by omega)
    have p4 := piece e4 p5
    have p3 := piece e3 p4
    have p2 := piece e2 p3
    have p1 := piece e1 p2
    have p0 := piece e0 p1
    rw [List.drop_zero] at p0
    rw [p0]
    simp [Msg.cells]
theorem trod_stp (h : DataW.trod enc Try.prog w base spare held fuel 45 cs = some x) : ∃ m : Stp, True ∧ cs = m.cells := by
  obtain ⟨xs, n, _, _, hl, hlen, hg⟩ := DataW.trod_struct Try.underlying45 h
  rw [cellsSTEP] at hl
  match xs, hlen with
  | [y0, y1, y2, y3, y4, y5, y6, y7], _ =>
    have h0 : DataW.trod enc Try.prog w base spare held n 3 ((cs.drop 0).take (Try.prog.cellsOf 3)) = some y0 := hg 0 _ rfl
    rw [cellsI64] at h0
    have h1 : DataW.trod enc Try.prog w base spare held n 3 ((cs.drop 1).take (Try.prog.cellsOf 3)) = some y1 := hg 1 _ rfl
    rw [cellsI64] at h1
    have h2 : DataW.trod enc Try.prog w base spare held n 3 ((cs.drop 2).take (Try.prog.cellsOf 3)) = some y2 := hg 2 _ rfl
    rw [cellsI64] at h2
    have h3 : DataW.trod enc Try.prog w base spare held n 32 ((cs.drop 3).take (Try.prog.cellsOf 32)) = some y3 := hg 3 _ rfl
    rw [cellsU32] at h3
    have h4 : DataW.trod enc Try.prog w base spare held n 32 ((cs.drop 4).take (Try.prog.cellsOf 32)) = some y4 := hg 4 _ rfl
    rw [cellsU32] at h4
    have h5 : DataW.trod enc Try.prog w base spare held n 32 ((cs.drop 5).take (Try.prog.cellsOf 32)) = some y5 := hg 5 _ rfl
    rw [cellsU32] at h5
    have h6 : DataW.trod enc Try.prog w base spare held n 4 ((cs.drop 6).take (Try.prog.cellsOf 4)) = some y6 := hg 6 _ rfl
    rw [cellsBOOL] at h6
    have h7 : DataW.trod enc Try.prog w base spare held n 35 ((cs.drop 7).take (Try.prog.cellsOf 35)) = some y7 := hg 7 _ rfl
    rw [cellsMSG] at h7
    obtain ⟨a0, e0, _⟩ := DataW.trod_int Try.underlying3 h0
    obtain ⟨a1, e1, _⟩ := DataW.trod_int Try.underlying3 h1
    obtain ⟨a2, e2, _⟩ := DataW.trod_int Try.underlying3 h2
    obtain ⟨a3, e3, _, w3⟩ := DataW.trod_int Try.underlying32 h3
    obtain ⟨a4, e4, _, w4⟩ := DataW.trod_int Try.underlying32 h4
    obtain ⟨a5, e5, _, w5⟩ := DataW.trod_int Try.underlying32 h5
    obtain ⟨a6, e6, _⟩ := DataW.trod_bool Try.underlying4 h6
    obtain ⟨m7, -, e7⟩ := trod_msg h7
    refine ⟨⟨a0, a1, a2, a3, a4, a5, a6, m7, wf_u32 w3, wf_u32 w4, wf_u32 w5⟩, trivial, ?_⟩
    have p8 : cs.drop 27 = [] := List.drop_eq_nil_of_le (by omega)
    have p7 := piece e7 p8
    have p6 := piece e6 p7
    have p5 := piece e5 p6
    have p4 := piece e4 p5
    have p3 := piece e3 p4
    have p2 := piece e2 p3
    have p1 := piece e1 p2
    have p0 := piece e0 p1
    rw [List.drop_zero] at p0
    rw [p0]
    simp [Stp.cells]
structure Frm where
  sets : Int
  ways : Int
  deriving DecidableEq
def Frm.cells (q : Frm) : List Value := [.int .i64 q.sets, .int .i64 q.ways]
def frmE : Enc Try.prog Frm where
  T := 55
  n := 2
  cells := Frm.cells
  len := fun q => rfl
  one := fun q v hv => by
    simp only [Frm.cells, List.mem_cons, List.mem_nil_iff, or_false] at hv
    rcases hv with rfl | rfl <;> rfl
  pos := by decide
theorem trod_frm (h : DataW.trod enc Try.prog w base spare held fuel 55 cs = some x) : ∃ m : Frm, True ∧ cs = m.cells := by
  obtain ⟨xs, n, _, _, hl, hlen, hg⟩ := DataW.trod_struct Try.underlying55 h
  rw [cellsFORM] at hl
  match xs, hlen with
  | [y0, y1], _ =>
    have h0 : DataW.trod enc Try.prog w base spare held n 3 ((cs.drop 0).take (Try.prog.cellsOf 3)) = some y0 := hg 0 _ rfl
    rw [cellsI64] at h0
    have h1 : DataW.trod enc Try.prog w base spare held n 3 ((cs.drop 1).take (Try.prog.cellsOf 3)) = some y1 := hg 1 _ rfl
    rw [cellsI64] at h1
    obtain ⟨a0, e0, _⟩ := DataW.trod_int Try.underlying3 h0
    obtain ⟨a1, e1, _⟩ := DataW.trod_int Try.underlying3 h1
    refine ⟨⟨a0, a1⟩, trivial, ?_⟩
    have p2 : cs.drop 2 = [] := List.drop_eq_nil_of_le (by omega)
    have p1 := piece e1 p2
    have p0 := piece e0 p1
    rw [List.drop_zero] at p0
    rw [p0]
    simp [Frm.cells]
set_option maxRecDepth 100000 in
theorem open_frm {r : Reach} {b0 : Nat} {v : Value} {d : DataW H} {p : List MemPlace} (hv : Value.okWide Try.prog w r b0 55 v) (h : DataW.Trod enc Try.prog w base (fun _ => true) held 55 v d p) : ∃ m : Frm, True ∧ v = .agg (frmE.arr m) :=
  open_rec (E := frmE) (OK := fun _ => True) Try.underlying55 (fun _ _ _ => trod_frm) hv h
def StpsArg (w : World) (v : Value) : Prop := ∃ A cap l, v = .slice A l.length cap ∧ View stpE w A cap l
set_option maxRecDepth 100000 in
theorem open_stps {r : Reach} {b0 : Nat} {v : Value} {d : DataW H} {p : List MemPlace} (hv : Value.okWide Try.prog w r b0 23 v) (h : DataW.Trod enc Try.prog w base (fun _ => true) held 23 v d p) : StpsArg w v := by
  obtain ⟨A, cap, l, h1, h2, _⟩ := open_recs (E := stpE) (OK := fun _ => True) Try.underlying23 cellsSTEP (fun _ _ _ => trod_stp) hv h
  exact ⟨A, cap, l, h1, h2⟩
theorem right_nat {a b : Int} (h : rightB a b = true) : ∃ n : Nat, a = (n : Int) := ⟨a.toNat, by have := right_yes h; omega⟩
end
end Go.Proofs.Ytflnlmibkbojcaa
namespace Go.Proofs.Ytflnlmibkbojcaa
open Go.RowKit
set_option linter.unusedVariables false
theorem walk_CachePlay (w : World) (a0 : Int) (h0 : (Lit.int .i64 a0).wf = true) (v1 : Value) (hv1 : ∃ m : Frm, True ∧ v1 = .agg (frmE.arr m)) (v2 : Value) (hv2 : StpsArg w v2) : Calls Try.prog 4 #[.int .i64 a0, v1, v2] w fun e w' => e = .returned (.bool true) ∧ Below w.heap.size w w' := by
  obtain ⟨m1, -, rfl⟩ := hv1
  obtain ⟨A2, c2, l2, rfl, hv2⟩ := hv2
  obtain ⟨sets, ways⟩ := m1
  by_cases h1 : a0 < 0
  · refine (play_lo a0 sets ways h1 hv2).mono ?_
    rintro e w' ⟨v, rfl, rfl, hn⟩
    exact ⟨rfl, hn.nb⟩
  by_cases h2 : 3 < a0
  · refine (play_hi a0 sets ways h1 h2 hv2).mono ?_
    rintro e w' ⟨v, rfl, rfl, hn⟩
    exact ⟨rfl, hn.nb⟩
  cases hr : rightB sets ways with
  | false =>
    refine (play_no a0 sets ways h1 h2 hr hv2).mono ?_
    rintro e w' ⟨v, rfl, rfl, hn⟩
    exact ⟨rfl, hn.nb⟩
  | true =>
    obtain ⟨n, rfl⟩ := right_nat hr
    refine (play_yes a0 n ways h1 h2 hr hv2).mono ?_
    rintro e w' ⟨v, rfl, rfl, hn⟩
    exact ⟨rfl, hn.nb⟩
end Go.Proofs.Ytflnlmibkbojcaa
