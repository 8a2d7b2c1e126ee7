/-
  A cache's lines in memory.
-/
import Derived.Test.YtdjgfkjcpalihaaLinB
namespace Go.Proofs.Ytdjgfkjcpalihaa
open Go.RowKit
/-- What does not hang on the world. -/
structure LinPure (Fp : Nat → Prop) (b S : Nat) (FpR : Nat → Prop) (rs : List Row) (n : Nat) (ways : Int) (L : List Ln) : Prop where
  ne : NE b S
  apb : ¬ FpR b
  apS : ¬ FpR S
  foot : ∀ k, Fp k ↔ k = b ∨ k = S ∨ FpR k
  len : rs.length = n
  row : ∀ i, i < n → (rs.getD i r0).l = ofs n L i
  bd : 0 < n ∧ n ≤ 64 ∧ 1 ≤ ways ∧ ways ≤ 8
  uniq : Uniq L
  fits : Fits n ways L
/-- The lines at block b. -/
def LinesAt (w : World) (Fp : Nat → Prop) (b n : Nat) (ways : Int) (L : List Ln) : Prop :=
  ∃ S FpR rs, Blk w b 74 #[.slice (some ⟨S, 0, none⟩) n n, .int .i64 ways] ∧ Blk w S 26 (rowsArr rs) ∧ RowsAt w FpR rs ∧ LinPure Fp b S FpR rs n ways L
section
variable {w w' : World} {Fp T : Nat → Prop} {b n D : Nat} {ways : Int} {L : List Ln}
theorem LinesAt.only (h : LinesAt w Fp b n ways L) (k : Only T w w') (hs : ∀ g, Fp g → ¬ T g) : LinesAt w' Fp b n ways L := by
  obtain ⟨S, FpR, rs, hB, hS, hR, hP⟩ := h
  exact ⟨S, FpR, rs, hB.only k (hs _ ((hP.foot _).2 (.inl rfl))), hS.only k (hs _ ((hP.foot _).2 (.inr (.inl rfl)))), hR.only k fun g hg => hs _ ((hP.foot _).2 (.inr (.inr hg))), hP⟩
theorem LinesAt.new (h : LinesAt w Fp b n ways L) (k : New w w') : LinesAt w' Fp b n ways L := h.only k fun _ _ => id
theorem LinesAt.lt (h : LinesAt w Fp b n ways L) {g : Nat} (hg : Fp g) : g < w.heap.size := by
  obtain ⟨S, FpR, rs, hB, hS, hR, hP⟩ := h
  rcases (hP.foot g).1 hg with rfl | rfl | hg
  · exact hB.lt
  · exact hS.lt
  · exact hR.lt hg
theorem LinesAt.apart (h : LinesAt w Fp b n ways L) {c : Nat} (hc : w.heap.size ≤ c) : ¬ Fp c := fun hi => by have := h.lt hi; omega
theorem LinesAt.turn {B : Nat} (h : LinesAt w Fp b n ways L) (k : Turn B w w') : LinesAt w' Fp b n ways L := by
  obtain ⟨S, FpR, rs, hB, hS, hR, hP⟩ := h
  exact ⟨S, FpR, rs, hB.turn k, hS.turn k, hR.turn k, hP⟩
theorem LinesAt.cells (h : LinesAt w Fp b n ways L) {g : Nat} (hg : Fp g) : ∃ o : Obj, w.heap[g]? = some o ∧ o.isCells = true := by
  obtain ⟨S, FpR, rs, hB, hS, hR, hP⟩ := h
  rcases (hP.foot g).1 hg with rfl | rfl | hg
  · exact hB.cells
  · exact hS.cells
  · exact hR.cells hg
theorem LinesAt.mark (h : LinesAt w Fp b n ways L) (k : MarkAt w D) : ¬ Fp D := fun hi => by
  obtain ⟨o, ho, hc⟩ := h.cells hi
  rw [show w.heap[D]? = _ from k] at ho
  cases ho
  cases hc
theorem LinesAt.has (h : LinesAt w Fp b n ways L) : Fp b := by
  obtain ⟨S, FpR, rs, hB, hS, hR, hP⟩ := h
  exact (hP.foot _).2 (.inl rfl)
theorem LinesAt.bd (h : LinesAt w Fp b n ways L) : 0 < n ∧ n ≤ 64 ∧ 1 ≤ ways ∧ ways ≤ 8 := by
  obtain ⟨S, FpR, rs, hB, hS, hR, hP⟩ := h
  exact hP.bd
theorem LinesAt.uniq (h : LinesAt w Fp b n ways L) : Uniq L := by
  obtain ⟨S, FpR, rs, hB, hS, hR, hP⟩ := h
  exact hP.uniq
theorem LinesAt.fits (h : LinesAt w Fp b n ways L) : Fits n ways L := by
  obtain ⟨S, FpR, rs, hB, hS, hR, hP⟩ := h
  exact hP.fits
end
section
variable {w : World} {F : Nat → Prop} {rs : List Row} {q : Nat} {A : Option Addr} {c : Nat} {l : List Ln}
theorem RowsAt.at_ (h : RowsAt w F rs) (hq : q < rs.length) (hr : rs.getD q r0 = ⟨A, c, l⟩) : Own lnE w A c l := by
  have := h.own hq
  rw [hr] at this
  exact this
theorem RowsAt.splitAt (h : RowsAt w F rs) (hq : q < rs.length) (hr : rs.getD q r0 = ⟨A, c, l⟩) : ∃ F', RowsBut w F' rs q ∧ Own lnE w A c l ∧ (∀ k, inA A k → F' k → False) ∧ (∀ k, F k ↔ F' k ∨ inA A k) := by
  obtain ⟨F', h1, h2, h3⟩ := h.split hq
  rw [hr] at h2 h3
  exact ⟨F', h1, h.at_ hq hr, h2, h3⟩
theorem rows_cellAt {rs : List Row} (hq : q < rs.length) (hr : rs.getD q r0 = ⟨A, c, l⟩) : (rowsArr rs)[q]? = some (.slice A l.length c) := by
  have := rows_cell rs hq
  rw [hr] at this
  exact this
theorem rows_same {l' : List Ln} (hq : q < rs.length) (hr : rs.getD q r0 = ⟨A, c, l⟩) (hl : l'.length = l.length) : rowsArr (rs.set q ⟨A, c, l'⟩) = rowsArr rs := by
  apply Array.toList_inj.1
  show (rs.set q _).map Row.val = rs.map Row.val
  rw [List.map_set]
  apply List.ext_getElem
  · simp
  · intro i h1 h2
    rw [List.getElem_set]
    split
    · rename_i e
      subst e
      have e2 : rs[q] = ⟨A, c, l⟩ := by
        have := hr
        simpa [List.getD, hq] using this
      simp [Row.val, e2, hl]
    · rfl
/-- Behind a change of one row. -/
theorem lines_put {b S n : Nat} {FpT : Nat → Prop} {ways : Int} {L : List Ln} {r : Row} (hB : Blk w b 74 #[.slice (some ⟨S, 0, none⟩) n n, .int .i64 ways]) (hS : Blk w S 26 (rowsArr (rs.set q r))) (hT : RowsBut w FpT rs q) (hO : Own lnE w r.A r.cap r.l) (hq : q < rs.length)
    (ha : ∀ k, inA r.A k → FpT k → False) (ne : NE b S) (hTb : ¬ FpT b) (hTS : ¬ FpT S) (hAb : Apart r.A b) (hAS : Apart r.A S) (hlen : rs.length = n) (hrow : ∀ i, i < n → i ≠ q → (rs.getD i r0).l = ofs n L i) (hl : r.l = ofs n L q) (bd : 0 < n ∧ n ≤ 64 ∧ 1 ≤ ways ∧ ways ≤ 8) (hu : Uniq L) (hf : Fits n ways L) :
    LinesAt w (fun k => k = b ∨ k = S ∨ FpT k ∨ inA r.A k) b n ways L := by
  refine ⟨S, fun k => FpT k ∨ inA r.A k, rs.set q r, hB, hS, hT.join hq hO ha, ne, fun h => h.elim hTb hAb, fun h => h.elim hTS hAS, fun k => Iff.rfl, by rw [List.length_set]; exact hlen, fun i hi => ?_, bd, hu, hf⟩
  rw [getD_setR hq]
  by_cases e : q = i
  · rw [if_pos e, ← e]; exact hl
  · rw [if_neg e]; exact hrow i hi fun h => e h.symm
end

/-! ### Rows made anew -/
theorem made_rows (n : Nat) : madeCells (Value.slice none 0 0).cells (n * 1) = rowsArr (List.replicate n r0) := by
  have hc : (Value.slice none 0 0).cells = #[.slice none 0 0] := rfl
  apply Array.ext
  · rw [size_madeCells, rows_size, List.length_replicate, Nat.mul_one]
  · intro i h1 h2
    rw [size_madeCells] at h1
    have hr := rows_cell (List.replicate n r0) (i := i) (by rw [List.length_replicate]; omega)
    have e : (List.replicate n r0).getD i r0 = r0 := by
      simp only [List.getD, List.getElem?_replicate]
      split <;> rfl
    rw [e, Array.getElem?_eq_getElem h2, Option.some.injEq] at hr
    rw [hr]
    simp [madeCells, hc, Nat.mod_one, r0]
section
variable {N : Nat × List Deferred} {T : List (Nat × Value)} {a : Act} {w : World} {Q : Exit → Act → World → Prop} {ops : Array Oper} {rest : List Oper} {o : Oper} {d : Nat}
theorem fx_makeRows (fr : Fr N T a) (hw : Region.wanted o (yielded ops a.tmps) = true) (hd : o.dst = some d) (hN : d < N.1) {x y : Operand} (ho : o.op = .makeSlice 72 x y) {k1 k2 : IntKind} {n : Nat} (hx : a.eval x = .int k1 ((n : Nat) : Int)) (hy : a.eval y = .int k2 ((n : Nat) : Int)) (hn : n ≤ 100000)
    (next : ∀ S w1, New w w1 → Blk w1 S 26 (rowsArr (List.replicate n r0)) → w.heap.size ≤ S → ∀ a, Fr N ((d, .slice (some ⟨S, 0, none⟩) n n) :: T) a → wpList Try.prog ops Q rest a w1) : wpList Try.prog ops Q (o :: rest) a w := by
  obtain ⟨i0, hi, hz0, hz1, hz2⟩ := info_parts (show (Try.prog.info? 26).map (fun i => (i.zero, i.size, i.bytes)) = some (some (.slice none 0 0), 1, 24) by kernel_rfl)
  have hr := run_makeSlice (P := Try.prog) w 72 26 i0 _ Try.underlying72 hi hz0 k1 k2 n n (by omega) (by omega) (by rw [hz1]; simp; omega) (by rw [hz2]; omega) (by omega)
  simp only [Int.toNat_natCast] at hr
  rw [hz1, made_rows] at hr
  refine fx_val (v := .slice (some ⟨w.heap.size, 0, none⟩) n n) (w1 := w.alloc (.cells (rowsArr (List.replicate n r0)) 26)) fr hw hd hN ?_ fun a fr => next w.heap.size _ ((Only.refl _ w).alloc _) (Go.heap_alloc_new w _) (Nat.le_refl _) a fr
  simp [execOp, ho, hx, hy, hr]
end
theorem RowsAt.put {w : World} {F : Nat → Prop} {rs : List Row} {q : Nat} (h : RowsAt w F rs) (hq : q < rs.length) (hn : rs.getD q r0 = r0) {A : Option Addr} {c : Nat} {l : List Ln} (hO : Own lnE w A c l) (ha : ∀ k, inA A k → F k → False) : RowsAt w (fun k => F k ∨ inA A k) (rs.set q ⟨A, c, l⟩) := by
  obtain ⟨F', h1, _, h3⟩ := h.split hq
  have hF : F' = F := by
    funext k
    apply propext
    rw [h3 k, hn]
    exact ⟨.inl, fun h => h.elim id fun h => absurd h (apart_none k)⟩
  subst hF
  exact h1.join hq (r := ⟨A, c, l⟩) hO ha
end Go.Proofs.Ytdjgfkjcpalihaa
