/-
  A map that the call makes, with entries put in one by one; looked up by an integer. Over tables.
-/
import Derived.Test.YtdjgfkjcpalihaaFXenc
namespace Go.Proofs.Ytdjgfkjcpalihaa
open Go.RowKit

/-- A map that is known whole. -/
def MapBlk (w : World) (r : Nat) (es : Array MapEntry) (c : Nat) : Prop := w.heap[r]? = some (.map es c)
section
variable {S : Nat → Prop} {w w' : World} {r : Nat} {es : Array MapEntry} {c : Nat}
theorem MapBlk.lt (h : MapBlk w r es c) : r < w.heap.size := (Array.getElem?_eq_some_iff.1 h).1
theorem MapBlk.only (h : MapBlk w r es c) (k : Only S w w') (hs : ¬ S r) : MapBlk w' r es c := k.heap h hs
theorem MapBlk.new (h : MapBlk w r es c) (k : New w w') : MapBlk w' r es c := k.heap h id
end
section
variable {P : Program} {N : Nat × List Deferred} {T : List (Nat × Value)} {a : Act} {w : World} {Q : Exit → Act → World → Prop} {ops : Array Oper} {rest : List Oper} {o : Oper} {d : Nat}
theorem fx_makeMap {t : TypeId} (fr : Fr N T a) (hw : Region.wanted o (yielded ops a.tmps) = true) (ho : o.op = .makeMap t none) (hd : o.dst = some d) (hN : d < N.1)
    (next : ∀ r w1, New w w1 → MapBlk w1 r #[] 0 → w.heap.size ≤ r → ∀ a, Fr N ((d, .map (some r)) :: T) a → wpList P ops Q rest a w1) : wpList P ops Q (o :: rest) a w := by
  refine fx_val (v := .map (some w.heap.size)) (w1 := w.alloc (.map #[] 0)) fr hw hd hN ?_ fun a fr => next w.heap.size _ ((Only.refl _ w).alloc _) (Go.heap_alloc_new w _) (Nat.le_refl _) a fr
  simp [execOp, ho, Instr.makeMap]
theorem run_checkInt' {K : TypeId} {k : IntKind} (hK : P.underlying K = some (.int k)) (em : Bool) (n : Int) (w : World) : (Instr.checkKey em 10000 K (.int k n)).run P w = .ok () w :=
  MapKept.run_checkKey hK (by simp [MapKept.IsKey]) em 9999
theorem run_findNow' {K : TypeId} {k : IntKind} (hK : P.underlying K = some (.int k)) {x : Value} {es : List MapEntry} {r : Option (Nat × Value)} (h : Instr.findNow (.int k) x es 0 = some r) (w : World) :
    (Instr.findKey K x es).run P w = .ok r w := by
  simp [Instr.findKey, run_underlying hK, h]
/-- An entry whose key is new. -/
theorem fx_insert {t K E : TypeId} {k : IntKind} {n : Int} {v : Value} {r c : Nat} {es : Array MapEntry} {x y z : Operand} (ht : P.underlying t = some (.map K E)) (hK : P.underlying K = some (.int k)) (hw : Region.wanted o (yielded ops a.tmps) = true) (ho : o.op = .insert t x y z) (hd : o.dst = none)
    (hx : a.eval x = .map (some r)) (hy : a.eval y = .int k n) (hz : a.eval z = v) (hM : MapBlk w r es c) (hnew : Instr.findNow (.int k) (.int k n) es.toList 0 = some none) {es' : Array MapEntry} (hes : es.push ⟨.int k n, v, c⟩ = es')
    (next : ∀ w1, Only (fun j => j = r) w w1 → MapBlk w1 r es' (c + 1) → wpList P ops Q rest a w1) : wpList P ops Q (o :: rest) a w := by
  have hlt := hM.lt
  subst hes
  refine fx_eff (w1 := { w with heap := w.heap.setIfInBounds r (.map (es.push ⟨.int k n, v, c⟩) (c + 1)) }) hw hd ?_ (next _ ⟨rfl, rfl, rfl, by simp, fun j hj hs => ?_⟩ ?_)
  · simp [execOp, ho, hx, hy, hz, Instr.mapUpdate, run_underlying ht, MapKept.run_getObj_map hM, run_checkInt' hK, run_findNow' hK hnew, MapKept.run_setObj_map _ hM, Result.andThen]
  · simp [show r ≠ j from fun h => hs h.symm]
  · unfold MapBlk
    simp [hlt]
end
section
variable {P : Program} {w : World} {ev : Operand → Value} {o : Oper} {x y : Operand}
theorem x_lookup {t K E : TypeId} {k : IntKind} {n : Int} {v : Value} {r c : Nat} {es : Array MapEntry} {ok b : Bool} (ht : P.underlying t = some (.map K E)) (hK : P.underlying K = some (.int k)) (ho : o.op = .lookup t x y ok)
    (hx : ev x = .map (some r)) (hy : ev y = .int k n) (hM : MapBlk w r es c) {z : Value} (hz : (P.info? E).bind (·.zero) = some z) (hf : (Instr.findNow (.int k) (.int k n) es.toList 0).map (fun q => (match q with | some (_, u) => u | none => z, q.isSome)) = some (v, b)) :
    (execOp ev o).run P w = .ok (.value (if ok then .tuple #[v, .bool b] else v)) w := by
  cases hi : P.info? E with
  | none => simp [hi] at hz
  | some i =>
    simp only [hi, Option.bind_some] at hz
    have hzv : (zeroValue E).run P w = .ok z w := by simp [zeroValue, typeInfo, hi, hz]
    cases hq : Instr.findNow (.int k) (.int k n) es.toList 0 with
    | none => simp [hq] at hf
    | some q =>
      cases q with
      | none =>
        simp [hq] at hf
        obtain ⟨rfl, rfl⟩ := hf
        cases ok <;> simp [execOp, ho, hx, hy, Instr.lookup, run_underlying ht, MapKept.run_getObj_map hM, run_checkInt' hK, run_findNow' hK hq, hzv, Result.andThen]
      | some p =>
        simp [hq] at hf
        obtain ⟨rfl, rfl⟩ := hf
        cases ok <;> simp [execOp, ho, hx, hy, Instr.lookup, run_underlying ht, MapKept.run_getObj_map hM, run_checkInt' hK, run_findNow' hK hq, Result.andThen]
end
end Go.Proofs.Ytdjgfkjcpalihaa
