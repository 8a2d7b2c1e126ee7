/-
  Records as data: a value of a struct type as a Lean value; lists of them in slices. Over tables.
-/
import Derived.Test.YtdjgfkjcpalihaaFXop
import Derived.Test.YtdjgfkjcpalihaaArrEq
namespace Go.Proofs.Ytdjgfkjcpalihaa
open Go.RowKit

/-- A type of structs, as Lean's own values. -/
structure Enc (P : Program) (α : Type) [DecidableEq α] where
  T : Nat
  n : Nat
  cells : α → List Value
  len : ∀ x, (cells x).length = n
  one : ∀ x, ∀ v ∈ cells x, v.oneCell' = true
  pos : 0 < n

/-- A type of structs or arrays: what loads and compares them. -/
structure Enc.Rec {P : Program} {α : Type} [DecidableEq α] (E : Enc P α) : Prop where
  eq : ∀ (w : World) (x y : α), (Op.equal E.T (.agg (E.cells x).toArray) (.agg (E.cells y).toArray)).run P w = .ok (decide (x = y)) w
  calm : P.eqGuardType P.depth E.T = false

section
variable {P : Program} {α : Type} [DecidableEq α] (E : Enc P α)
def Enc.arr (x : α) : Array Value := (E.cells x).toArray
theorem Enc.size (x : α) : (E.arr x).size = E.n := by simp [Enc.arr, E.len]
theorem Enc.all (x : α) : (E.arr x).all (·.oneCell') = true := all_oneCell_toArray (E.one x)
theorem Enc.toList (x : α) : (E.arr x).toList = E.cells x := by simp [Enc.arr]

section
variable {w : World} {ev : Operand → Value} {o : Oper} {x y : Operand} {T T' : TypeId}
theorem run_eqGuard_calm (op : BinOp) (x y : Operand) (cs ds : Array Value) {T : TypeId} (h : P.eqGuardType P.depth T = false) : (eqGuard op T x y (.agg cs) (.agg ds)).run P w = .ok () w := by
  unfold eqGuard
  cases op <;> simp [h]
theorem x_eqE {E : Enc P α} (R : E.Rec) (hT : E.T = T) (ho : o.op = .binOp .eql T x y T') {p q : α} (hx : ev x = .agg (E.arr p)) (hy : ev y = .agg (E.arr q)) {b : Bool} (hb : decide (p = q) = b) : (execOp ev o).run P w = .ok (.value (.bool b)) w := by
  subst hT; subst hb
  exact x_eq_of ho hx hy (run_eqGuard_calm _ _ _ _ _ R.calm) rfl (R.eq w p q)
theorem x_neE {E : Enc P α} (R : E.Rec) (hT : E.T = T) (ho : o.op = .binOp .neq T x y T') {p q : α} (hx : ev x = .agg (E.arr p)) (hy : ev y = .agg (E.arr q)) {b : Bool} (hb : (!decide (p = q)) = b) : (execOp ev o).run P w = .ok (.value (.bool b)) w := by
  subst hT
  exact x_ne_of ho hx hy (run_eqGuard_calm _ _ _ _ _ R.calm) rfl (R.eq w p q) hb
theorem x_loadE {E : Enc P α} (hg : aggT P E.T E.n = true) (hT : E.T = T) (ho : o.op = .load T x) {g q : Nat} {p : α} (hx : ev x = .pointer (some ⟨g, q, none⟩)) (hc : w.rangeAt g q (E.cells p)) : (execOp ev o).run P w = .ok (.value (.agg (E.arr p))) w := by
  subst hT
  exact x_loadS hg ho hx (E.size p) (by rw [E.toList]; exact hc)
theorem loadV_E {E : Enc P α} (hg : aggT P E.T E.n = true) (hT : E.T = T) {g q : Nat} {p : α} (hc : w.rangeAt g q (E.cells p)) : (loadVar T ⟨g, q, none⟩).run P w = .ok (.agg (E.arr p)) w := by
  subst hT
  exact x_loadV hg (E.size p) (by rw [E.toList]; exact hc)
theorem Blk.rangeE {g : Nat} {t : TypeId} {p : α} (h : Blk w g t (E.arr p)) : w.rangeAt g 0 (E.cells p) := by
  have := h.range
  rwa [E.toList] at this
end
end

/-- Arrays of integers as lists. -/
theorem run_equal_arr {P : Program} (w : World) {t e : TypeId} {n : Nat} {k : IntKind} (ht : P.underlying t = some (.array n e)) (he : P.underlying e = some (.int k)) (hs : (P.info? e).map (·.size) = some 1) (xs ys : List Int) (hx : xs.length = n) (hy : ys.length = n) :
    (Op.equal t (.agg (xs.map (Value.int k)).toArray) (.agg (ys.map (Value.int k)).toArray)).run P w = .ok (decide (xs = ys)) w :=
  run_equalIn_arr (P := P) w 9998 ht he hs xs ys hx hy
end Go.Proofs.Ytdjgfkjcpalihaa
