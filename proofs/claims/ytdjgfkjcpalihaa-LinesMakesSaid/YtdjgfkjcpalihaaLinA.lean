/-
  Lines as data.
-/
import Derived.Test.YtdjgfkjcpalihaaFXround
namespace Go.Proofs.Ytdjgfkjcpalihaa
open Go.RowKit

/-- A line's bytes. -/
abbrev B16 := { l : List Int // l.length = 16 ∧ ∀ a ∈ l, 0 ≤ a ∧ a < 256 }
def b16z : B16 := ⟨List.replicate 16 0, by simp, by simp⟩
/-- A line. -/
structure Ln where
  num : Int
  state : Int
  bs : B16
  hn : 0 ≤ num ∧ num < 4294967296
def mkL (n s : Int) (b : B16 := b16z) (h : 0 ≤ n ∧ n < 4294967296 := by omega) : Ln := ⟨n, s, b, h⟩
theorem Ln.ext_iff' (m m' : Ln) : m = m' ↔ m.num = m'.num ∧ m.state = m'.state ∧ m.bs.1 = m'.bs.1 := by
  constructor
  · rintro rfl; simp
  · rintro ⟨h1, h2, h3⟩
    cases m; cases m'
    simp only [Ln.mk.injEq]
    exact ⟨h1, h2, Subtype.ext h3⟩
instance : DecidableEq Ln := fun s t => decidable_of_iff _ (Ln.ext_iff' s t).symm
def Ln.cells (m : Ln) : List Value := .int .u32 m.num :: .int .i64 m.state :: m.bs.1.map (Value.int .u8)
theorem sizeU8 : (Try.prog.info? 5).map (·.size) = some 1 := by kernel_rfl
theorem ln_eq (w : World) (m m' : Ln) : (Op.equal 39 (.agg m.cells.toArray) (.agg m'.cells.toArray)).run Try.prog w = .ok (decide (m = m')) w := by
  have h := run_equalIn_struct (P := Try.prog) w 9999 39 m.cells.toArray m'.cells.toArray (by kernel_rfl) (by kernel_rfl)
  have ha : (Op.equalIn 9999 37 (.agg (m.bs.1.map (Value.int .u8)).toArray) (.agg (m'.bs.1.map (Value.int .u8)).toArray)).run Try.prog w = .ok (decide (m.bs.1 = m'.bs.1)) w :=
    run_equalIn_arr (P := Try.prog) w 9997 Try.underlying37 Try.underlying5 sizeU8 m.bs.1 m'.bs.1 m.bs.2.1 m'.bs.2.1
  have t1 : List.take 16 (m.bs.1.map (Value.int .u8)) = m.bs.1.map (Value.int .u8) := List.take_of_length_le (by simp [m.bs.2.1])
  have t2 : List.take 16 (m'.bs.1.map (Value.int .u8)) = m'.bs.1.map (Value.int .u8) := List.take_of_length_le (by simp [m'.bs.2.1])
  show (Op.equalIn (9999 + 1) 39 _ _).run Try.prog w = _
  rw [h]
  simp only [Program.fieldsOf, Try.underlying39, Op.eqFields]
  simp [go_sem, Ln.cells, Ln.ext_iff', t1, t2]
  by_cases a1 : m.num = m'.num
  · by_cases a2 : m.state = m'.state
    · simp only [a1, a2, if_true, ha, Result.andThen]
      by_cases a5 : m.bs.1 = m'.bs.1 <;> simp [a5]
    · simp [a1, a2]
  · simp [a1]
theorem Ln.len (m : Ln) : m.cells.length = 18 := by simp [Ln.cells, m.bs.2.1]
theorem Ln.one (m : Ln) : ∀ v ∈ m.cells, v.oneCell' = true := by
  intro v hv
  simp only [Ln.cells, List.mem_cons, List.mem_map] at hv
  rcases hv with rfl | rfl | ⟨a, _, rfl⟩ <;> rfl
def lnE : Enc Try.prog Ln where
  T := 39
  n := 18
  cells := Ln.cells
  len := Ln.len
  one := Ln.one
  pos := by decide
theorem lnER : lnE.Rec where
  eq := ln_eq
  calm := by kernel_rfl
def ln0 : Ln := ⟨0, 0, b16z, by decide⟩
theorem elLn : ElemI lnE 26 32 := ⟨Try.underlying26, by
  obtain ⟨i0, hi, hz0, hz1, hz2⟩ := info_parts (show (Try.prog.info? 39).map (fun i => (i.zero, i.size, i.bytes)) = some (some (.agg (lnE.arr ln0)), 18, 32) by kernel_rfl)
  exact ⟨i0, _, hi, hz0, hz1, hz2, by rw [show (Value.agg (lnE.arr ln0)).cells = lnE.arr ln0 from rfl, lnE.size]⟩⟩

/-! ### Rows: a set each -/
structure Row where
  A : Option Addr
  cap : Nat
  l : List Ln
def r0 : Row := ⟨none, 0, []⟩
def Row.val (r : Row) : Value := .slice r.A r.l.length r.cap
def rowsArr (rs : List Row) : Array Value := (rs.map Row.val).toArray
theorem rows_size (rs : List Row) : (rowsArr rs).size = rs.length := by simp [rowsArr]
theorem rows_cell (rs : List Row) {i : Nat} (h : i < rs.length) : (rowsArr rs)[i]? = some (.slice (rs.getD i r0).A (rs.getD i r0).l.length (rs.getD i r0).cap) := by
  simp [rowsArr, List.getD, h, Row.val]
theorem rows_set (rs : List Row) {i : Nat} {r : Row} : (rowsArr rs).setIfInBounds i (.slice r.A r.l.length r.cap) = rowsArr (rs.set i r) := by
  apply Array.toList_inj.1
  rw [Array.toList_setIfInBounds]
  show (rs.map Row.val).set i r.val = (rs.set i r).map Row.val
  rw [List.map_set]
/-- The rows own their lines; F: their blocks. -/
structure RowsAt (w : World) (F : Nat → Prop) (rs : List Row) : Prop where
  foot : ∀ k, F k ↔ ∃ i, i < rs.length ∧ inA (rs.getD i r0).A k
  own : ∀ {i}, i < rs.length → Own lnE w (rs.getD i r0).A (rs.getD i r0).cap (rs.getD i r0).l
  ap : ∀ {i j}, i < rs.length → j < rs.length → i ≠ j → Apart2 (rs.getD i r0).A (rs.getD j r0).A
/-- All rows but one. -/
structure RowsBut (w : World) (F : Nat → Prop) (rs : List Row) (q : Nat) : Prop where
  foot : ∀ k, F k ↔ ∃ i, i < rs.length ∧ i ≠ q ∧ inA (rs.getD i r0).A k
  own : ∀ {i}, i < rs.length → i ≠ q → Own lnE w (rs.getD i r0).A (rs.getD i r0).cap (rs.getD i r0).l
  ap : ∀ {i j}, i < rs.length → j < rs.length → i ≠ q → j ≠ q → i ≠ j → Apart2 (rs.getD i r0).A (rs.getD j r0).A
section
variable {w w' : World} {F S : Nat → Prop} {rs : List Row} {q b D : Nat}
theorem RowsAt.only (h : RowsAt w F rs) (k : Only S w w') (hs : ∀ g, F g → ¬ S g) : RowsAt w' F rs := ⟨h.foot, fun hi => (h.own hi).only k fun g hg => hs g ((h.foot g).2 ⟨_, hi, hg⟩), h.ap⟩
theorem RowsAt.new (h : RowsAt w F rs) (k : New w w') : RowsAt w' F rs := h.only k fun _ _ => id
theorem RowsAt.lt (h : RowsAt w F rs) {g : Nat} (hg : F g) : g < w.heap.size := by obtain ⟨i, hi, hi2⟩ := (h.foot g).1 hg; exact (h.own hi).lt hi2
theorem RowsAt.apart (h : RowsAt w F rs) (hb : w.heap.size ≤ b) : ¬ F b := fun hi => by have := h.lt hi; omega
theorem RowsAt.turn {B : Nat} (h : RowsAt w F rs) (k : Turn B w w') : RowsAt w' F rs := ⟨h.foot, fun hi => (h.own hi).turn k, h.ap⟩
theorem RowsAt.mark (h : RowsAt w F rs) (k : MarkAt w D) : ¬ F D := fun hi => by obtain ⟨i, h1, h2⟩ := (h.foot D).1 hi; exact (h.own h1).mark k h2
theorem RowsAt.cells (h : RowsAt w F rs) {g : Nat} (hg : F g) : ∃ o : Obj, w.heap[g]? = some o ∧ o.isCells = true := by obtain ⟨i, hi, hi2⟩ := (h.foot g).1 hg; exact (h.own hi).cells hi2
theorem RowsBut.only (h : RowsBut w F rs q) (k : Only S w w') (hs : ∀ g, F g → ¬ S g) : RowsBut w' F rs q := ⟨h.foot, fun hi hq => (h.own hi hq).only k fun g hg => hs g ((h.foot g).2 ⟨_, hi, hq, hg⟩), h.ap⟩
theorem RowsBut.new (h : RowsBut w F rs q) (k : New w w') : RowsBut w' F rs q := h.only k fun _ _ => id
theorem RowsBut.lt (h : RowsBut w F rs q) {g : Nat} (hg : F g) : g < w.heap.size := by obtain ⟨i, hi, hq, hi2⟩ := (h.foot g).1 hg; exact (h.own hi hq).lt hi2
theorem RowsBut.apart (h : RowsBut w F rs q) (hb : w.heap.size ≤ b) : ¬ F b := fun hi => by have := h.lt hi; omega
/-- One row is taken out. -/
theorem RowsAt.split (h : RowsAt w F rs) (hq : q < rs.length) : ∃ F', RowsBut w F' rs q ∧ (∀ k, inA (rs.getD q r0).A k → F' k → False) ∧ (∀ k, F k ↔ F' k ∨ inA (rs.getD q r0).A k) := by
  refine ⟨fun k => ∃ i, i < rs.length ∧ i ≠ q ∧ inA (rs.getD i r0).A k, ⟨fun k => Iff.rfl, fun hi _ => h.own hi, fun hi hj _ _ hn => h.ap hi hj hn⟩, fun k h1 ⟨i, hi, hn, h2⟩ => h.ap hi hq hn k h2 h1, fun k => ?_⟩
  rw [h.foot]
  constructor
  · rintro ⟨i, hi, h2⟩
    by_cases e : i = q
    · subst e; exact .inr h2
    · exact .inl ⟨i, hi, e, h2⟩
  · rintro (⟨i, hi, _, h2⟩ | h2)
    · exact ⟨i, hi, h2⟩
    · exact ⟨q, hq, h2⟩
theorem getD_setR {rs : List Row} {q i : Nat} {r : Row} (hq : q < rs.length) : (rs.set q r).getD i r0 = if q = i then r else rs.getD i r0 := by
  simp only [List.getD, List.getElem?_set]
  split
  · rename_i h; subst h; simp [hq]
  · rfl
/-- A row is put in its place. -/
theorem RowsBut.join (h : RowsBut w F rs q) (hq : q < rs.length) {r : Row} (hO : Own lnE w r.A r.cap r.l) (ha : ∀ k, inA r.A k → F k → False) : RowsAt w (fun k => F k ∨ inA r.A k) (rs.set q r) := by
  have hl : (rs.set q r).length = rs.length := List.length_set
  refine ⟨fun k => ?_, fun {i} hi => ?_, fun {i j} hi hj hn => ?_⟩
  · rw [h.foot]
    constructor
    · rintro (⟨i, hi, hn, h2⟩ | h2)
      · exact ⟨i, by rw [hl]; exact hi, by rw [getD_setR hq, if_neg (fun e => hn e.symm)]; exact h2⟩
      · exact ⟨q, by rw [hl]; exact hq, by rw [getD_setR hq, if_pos rfl]; exact h2⟩
    · rintro ⟨i, hi, h2⟩
      rw [getD_setR hq] at h2
      by_cases e : q = i
      · rw [if_pos e] at h2; exact .inr h2
      · rw [if_neg e] at h2; exact .inl ⟨i, by rw [← hl]; exact hi, fun h => e h.symm, h2⟩
  · rw [getD_setR hq]
    by_cases e : q = i
    · rw [if_pos e]; exact hO
    · rw [if_neg e]; exact h.own (by rw [← hl]; exact hi) fun h => e h.symm
  · rw [hl] at hi hj
    rw [getD_setR hq, getD_setR hq]
    by_cases e : q = i
    · rw [if_pos e]
      by_cases e2 : q = j
      · omega
      · rw [if_neg e2]
        exact fun k h1 h2 => ha k h1 ((h.foot k).2 ⟨j, hj, fun h => e2 h.symm, h2⟩)
    · rw [if_neg e]
      by_cases e2 : q = j
      · rw [if_pos e2]
        exact fun k h1 h2 => ha k h2 ((h.foot k).2 ⟨i, hi, fun h => e h.symm, h1⟩)
      · rw [if_neg e2]
        exact h.ap hi hj (fun h => e h.symm) (fun h => e2 h.symm) hn
theorem RowsAt.nil (w : World) (n : Nat) : RowsAt w (fun _ => False) (List.replicate n r0) := by
  have e : ∀ i, (List.replicate n r0).getD i r0 = r0 := fun i => by
    simp only [List.getD, List.getElem?_replicate]
    split <;> rfl
  exact ⟨fun k => ⟨fun h => h.elim, fun ⟨i, _, h⟩ => by rw [e] at h; exact apart_none k h⟩, fun _ => by rw [e]; exact Own.nil, fun _ _ _ => by rw [e]; exact fun k h => absurd h (apart_none k)⟩
end

/-! ### Where a number stands -/
/-- The place of a number; -1: there is none. -/
def fndI (l : List Ln) (number : Int) : Int := if l.findIdx (fun x => decide (x.num = number)) < l.length then (l.findIdx (fun x => decide (x.num = number)) : Nat) else -1
section
variable {l : List Ln} {number : Int} {i : Nat}
theorem fnd_yes (hi : i < l.length) (h : (l.getD i ln0).num = number) (hall : ∀ j, j < i → ¬ (l.getD j ln0).num = number) : fndI l number = i := by
  have e : l.findIdx (fun x => decide (x.num = number)) = i := by
    rw [List.findIdx_eq hi]
    constructor
    · have := h
      simp only [List.getD, List.getElem?_eq_getElem hi, Option.getD_some] at this
      simpa using this
    · intro j hj
      have := hall j hj
      simp only [List.getD, List.getElem?_eq_getElem (show j < l.length by omega), Option.getD_some] at this
      simpa using this
  unfold fndI
  rw [e, if_pos hi]
theorem fnd_no (hall : ∀ j, j < l.length → ¬ (l.getD j ln0).num = number) : fndI l number = -1 := by
  unfold fndI
  rw [if_neg]
  intro hlt
  have h1 := List.findIdx_getElem (w := hlt)
  have := hall _ hlt
  simp only [List.getD, List.getElem?_eq_getElem hlt, Option.getD_some] at this
  simp at h1
  exact this h1
theorem fnd_spec (l : List Ln) (number : Int) : (fndI l number = -1 ∧ ∀ x ∈ l, ¬ x.num = number) ∨ ∃ i : Nat, fndI l number = i ∧ i < l.length ∧ (l.getD i ln0).num = number ∧ ∀ j, j < i → ¬ (l.getD j ln0).num = number := by
  by_cases hlt : l.findIdx (fun x => decide (x.num = number)) < l.length
  · refine .inr ⟨_, by unfold fndI; rw [if_pos hlt], hlt, ?_, fun j hj => ?_⟩
    · have h1 := List.findIdx_getElem (w := hlt)
      simpa [List.getD, hlt] using h1
    · have h1 := List.not_of_lt_findIdx hj
      have hj2 : j < l.length := by omega
      simpa [List.getD, hj2] using h1
  · refine .inl ⟨by unfold fndI; rw [if_neg hlt], fun x hx hn => hlt ?_⟩
    exact List.findIdx_lt_length_of_exists ⟨x, hx, by simpa using hn⟩
end
end Go.Proofs.Ytdjgfkjcpalihaa
