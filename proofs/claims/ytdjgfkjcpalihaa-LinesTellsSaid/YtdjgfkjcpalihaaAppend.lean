/-
  'append' of a slice (nil and empty ones too) to a row of the call's own, for the walk.
-/
import Derived.Test.YtdjgfkjcpalihaaKit
namespace Go.Proofs.Ytdjgfkjcpalihaa
open Go.RowKit

/-- A slice value of m elements that reads as these cells. -/
structure Src (w : World) (size : Nat) (x : Value) (m : Nat) (news : List Value) : Prop where
  len : news.length = m * size
  one : ∀ u ∈ news, u.oneCell' = true
  at_ : (x = .slice none 0 0 ∧ m = 0) ∨ ∃ ad c, x = .slice (some ad) m c ∧ ∀ j u, news[j]? = some u → w.cell? (ad.add j) = some u

theorem Src.only {S : Nat → Prop} {w w' : World} {size : Nat} {x : Value} {m : Nat} {news : List Value} (h : Src w size x m news) (k : Only S w w') (hS : ∀ j, ¬ S j ∨ w.heap.size ≤ j) : Src w' size x m news := by
  refine ⟨h.len, h.one, ?_⟩
  rcases h.at_ with h1 | ⟨ad, c, h1, h2⟩
  · exact .inl h1
  · refine .inr ⟨ad, c, h1, fun j u hj => ?_⟩
    have h3 := h2 j u hj
    refine k.cell h3 fun hs => ?_
    rcases hS (ad.add j).block with h4 | h4
    · exact h4 hs
    · have := World.block_lt_of_cell? w _ h3
      omega
theorem Src.new {w w' : World} {size : Nat} {x : Value} {m : Nat} {news : List Value} (h : Src w size x m news) (k : New w w') : Src w' size x m news := h.only k fun _ => .inl id

/-- What the element's row of the table says. -/
structure ElemInfo (P : Program) (t e : TypeId) (i : TypeInfo) (z : Value) (size bytes : Nat) : Prop where
  ty : P.underlying t = some (.slice e)
  info : P.info? e = some i
  zero : i.zero = some z
  hsize : i.size = size
  hbytes : i.bytes = bytes
  cells : z.cells.size = size
  pos : 0 < size

theorem run_append_src {P : Program} (w : World) (t ty e : TypeId) (i : TypeInfo) (z : Value) (size bytes : Nat) (hE : ElemInfo P t e i z size bytes) (base : Nat) (v : Value) (n : Nat) (xs : List Value) (hown : w.ownsRow base e size v n xs) (x : Value) (m : Nat) (news : List Value)
    (hx : Src w size x m news) (h63 : n + m ≤ maxLen) (hb : (n + m) * bytes ≤ 140737488355328) (hbase : base ≤ w.heap.size) :
    ∃ v' w', (Builtin.append_ #[t, t] ty #[v, x]).run P w = .ok v' w' ∧ w'.ownsRow base e size v' (n + m) (xs ++ news) ∧ w.grownBy w' v.ownBlock ∧ (v' = .slice none 0 0 ↔ v = .slice none 0 0 ∧ m = 0) := by
  rcases hx.at_ with ⟨rfl, rfl⟩ | ⟨ad, c, rfl, hc⟩
  · have hn : news = [] := List.eq_nil_of_length_eq_zero (by have := hx.len; simpa using this)
    subst hn
    refine ⟨v, w, run_append_owned_none (P := P) w base t ty e i size hE.ty hE.info v n xs hown, by simpa using hown, World.grownBy.refl _ _, by simp⟩
  · exact run_append_own (P := P) w base t ty e i z size bytes hE.ty hE.info hE.zero hE.hsize hE.hbytes hE.cells hE.pos v n xs hown ad m c news hx.len hc hx.one h63 hb hbase

theorem wpList_append_src {P : Program} {ops : Array Oper} {rest : List Oper} {o : Oper} {a : Act} {w : World} {Q : Exit → Act → World → Prop} (hgd : o.guard = none) (s xo : Operand) (t : TypeId)
    (ho : o.op = .call { callee := .builtin .append, args := #[s, xo], argTypes := #[t, t] }) (e : TypeId) (i : TypeInfo) (z : Value) (size bytes : Nat) (hE : ElemInfo P t e i z size bytes)
    (base : Nat) (v : Value) (n : Nat) (xs : List Value) (hs : a.eval s = v) (hown : w.ownsRow base e size v n xs) (x : Value) (m : Nat) (news : List Value) (hxe : a.eval xo = x)
    (hx : Src w size x m news) (h63 : n + m ≤ maxLen) (hb : (n + m) * bytes ≤ 140737488355328) (hbase : base ≤ w.heap.size)
    (h : ∀ v' w', w'.ownsRow base e size v' (n + m) (xs ++ news) → w.grownBy w' v.ownBlock → (v' = .slice none 0 0 ↔ v = .slice none 0 0 ∧ m = 0) → wpList P ops Q rest (a.put o.dst v') w') : wpList P ops Q (o :: rest) a w := by
  refine wpList_plain hgd fun K hK => ?_
  obtain ⟨v', w', hrun, r1, r2, r3⟩ := run_append_src (P := P) w t o.type e i z size bytes hE base v n xs hown x m news hx h63 hb hbase
  unfold Oper.wp
  simp [execOp, ho, resolve, invoke, builtin, hs, hxe, hrun, Result.andThen]
  exact hK _ _ (h v' w' r1 r2 r3)
/-- An operation whose run is known. -/
theorem wpList_value {P : Program} {ops : Array Oper} {rest : List Oper} {o : Oper} {a : Act} {w : World} {Q : Exit → Act → World → Prop} (hw : Region.wanted o (yielded ops a.tmps) = true) (v : Value) (w1 : World)
    (hrun : (execOp a.eval o).run P w = .ok (.value v) w1) (h : wpList P ops Q rest (a.put o.dst v) w1) : wpList P ops Q (o :: rest) a w :=
  wpList_step fun K hK => by
    rw [if_pos hw]
    unfold Oper.wp
    rw [hrun]
    exact hK _ _ h
end Go.Proofs.Ytdjgfkjcpalihaa
