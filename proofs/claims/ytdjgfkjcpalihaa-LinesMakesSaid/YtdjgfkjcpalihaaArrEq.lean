/-
  Two arrays of integers are compared as lists; a whole array loaded or stored, under a guard too.
-/
import Derived.Test.YtdjgfkjcpalihaaKit
namespace Go.Proofs.Ytdjgfkjcpalihaa
open Go.RowKit
theorem run_part_int {P : Program} (w : World) {e : TypeId} {k : IntKind} (he : P.underlying e = some (.int k)) (cs : Array Value) (i : Nat) (v : Value) (h : cs[i]? = some v) : (part e cs i).run P w = .ok v w := by
  simp [part, isAgg, run_underlying he, h]
theorem drop_eq_cons {xs ys : List Int} {s : Nat} (hx : s < xs.length) (hy : s < ys.length) : (xs.drop s = ys.drop s) ↔ (xs[s] = ys[s] ∧ xs.drop (s + 1) = ys.drop (s + 1)) := by
  rw [List.drop_eq_getElem_cons hx, List.drop_eq_getElem_cons hy, List.cons.injEq]
theorem run_equalIn_arr {P : Program} (w : World) (d : Nat) {t e : TypeId} {n : Nat} {k : IntKind} (ht : P.underlying t = some (.array n e)) (he : P.underlying e = some (.int k)) (hs : (P.info? e).map (·.size) = some 1) (xs ys : List Int) (hx : xs.length = n) (hy : ys.length = n) :
    (Op.equalIn (d + 2) t (.agg (xs.map (Value.int k)).toArray) (.agg (ys.map (Value.int k)).toArray)).run P w = .ok (decide (xs = ys)) w := by
  unfold Op.equalIn
  simp only [Sem.run_bind, run_underlying ht, Result.andThen_ok]
  have hsz : (sizeOf e).run P w = .ok 1 w := by
    cases hq : P.info? e with
    | none => simp [hq] at hs
    | some i => simp [hq] at hs; simp [sizeOf, typeInfo, hq, hs]
  simp only [hsz, Result.andThen_ok, Nat.mul_one]
  rw [Std.Legacy.Range.forIn_eq_forIn_range']
  have hf : ∀ (i : Nat) (s : Option Bool × Unit) (h1 : i < xs.length) (h2 : i < ys.length), (do
            let __do_lift ← part e (List.map (Value.int k) xs).toArray i
            let __do_lift_1 ← part e (List.map (Value.int k) ys).toArray i
            let __do_lift ← Op.equalIn (d + 1) e __do_lift __do_lift_1
            if (!__do_lift) = true then pure (ForInStep.done (some false, ())) else pure (ForInStep.yield (none, ())) : Sem (ForInStep (Option Bool × Unit))).run P w = .ok (if xs[i] = ys[i] then .yield (none, ()) else .done (some false, ())) w := by
    intro i s h1 h2
    simp only [Sem.run_bind, run_part_int w he (List.map (Value.int k) xs).toArray i (.int k xs[i]) (by simp [h1]), run_part_int w he (List.map (Value.int k) ys).toArray i (.int k ys[i]) (by simp [h2]), Result.andThen_ok, run_equalIn_int w d e k k xs[i] ys[i] he]
    by_cases hq : xs[i] = ys[i] <;> simp [hq]
  have key : ∀ (f : Nat → Option Bool × Unit → Sem (ForInStep (Option Bool × Unit))), (∀ (i : Nat) (s : Option Bool × Unit) (h1 : i < xs.length) (h2 : i < ys.length), (f i s).run P w = .ok (if xs[i] = ys[i] then .yield (none, ()) else .done (some false, ())) w) → ∀ (c s : Nat), s + c = n →
      (forIn (m := Sem) (List.range' s c 1) ((none : Option Bool), ()) f).run P w = .ok (if xs.drop s = ys.drop s then (none, ()) else (some false, ())) w := by
    intro f hf c
    induction c with
    | zero =>
      intro s hs
      have h1 : xs.drop s = [] := List.drop_eq_nil_of_le (by omega)
      have h2 : ys.drop s = [] := List.drop_eq_nil_of_le (by omega)
      simp [h1, h2]
    | succ c ih =>
      intro s hs
      have hxs : s < xs.length := by omega
      have hys : s < ys.length := by omega
      simp only [List.range'_succ, List.forIn_cons, Sem.run_bind, hf s _ hxs hys, Result.andThen_ok]
      have h3 := drop_eq_cons hxs hys
      by_cases hq : xs[s] = ys[s]
      · have := ih (s + 1) (by omega)
        simp [hq, this, h3]
      · simp [hq, h3]
  have hk := key _ hf n 0 (by omega)
  simp only [List.drop_zero] at hk
  have e1 : (List.range' (Std.Legacy.Range.mk 0 n 1 (by decide)).start (Std.Legacy.Range.mk 0 n 1 (by decide)).size (Std.Legacy.Range.mk 0 n 1 (by decide)).step) = List.range' 0 n 1 := by
    simp [Std.Legacy.Range.size]
  rw [e1, hk]
  by_cases hq : xs = ys <;> simp [hq]

section
variable {P : Program} {ops : Array Oper} {rest : List Oper} {o : Oper} {a : Act} {w : World} {Q : Exit → Act → World → Prop}
theorem wpList_want (hw : Region.wanted o (yielded ops a.tmps) = true) (h : ∀ K : Act → World → Prop, (∀ a w, wpList P ops Q rest a w → K a w) → o.wp P a w K Q) : wpList P ops Q (o :: rest) a w :=
  wpList_step fun K hK => by rw [if_pos hw]; exact h K hK
/-- A whole row loaded, under a guard that is met, or none. -/
theorem wpList_load_g (hw : Region.wanted o (yielded ops a.tmps) = true) (ty : TypeId) (x : Operand) (ho : o.op = .load ty x)
    (g : Nat) (hx : a.eval x = .pointer (some ⟨g, 0, none⟩)) (t : TypeId) (cs : Array Value) (fr : Nat × Nat) (d : TypeDesc) (hg : w.heap[g]? = some (.cells cs t fr))
    (hu : P.underlying ty = some d) (hd : (match d with | .struct _ | .array _ _ => true | _ => false) = true) (hi : (P.info? ty).map (·.size) = some cs.size)
    (h : wpList P ops Q rest (a.put o.dst (.agg cs)) w) : wpList P ops Q (o :: rest) a w :=
  wpList_want hw fun _ hK => wp_load_row ty x ho g hx t cs fr d hg hu hd hi (hK _ _ h)
end
end Go.Proofs.Ytdjgfkjcpalihaa
