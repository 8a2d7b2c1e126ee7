/-
  Function values called; slices of slices; 'append' in place; 'clear' behind the end. Over tables.
-/
import Derived.Test.YtdjgfkjcpalihaaFXround
import Derived.Laws.MakeOwn
namespace Go.Proofs.Ytdjgfkjcpalihaa
open Go.RowKit
section
variable {P : Program} {w : World} {ev : Operand → Value} {o : Oper} {x y z u : Operand} {k k1 k2 : IntKind} {A : Option Addr} {n c : Nat}
/-- A function value is called. -/
theorem x_callv {t f : Nat} {args : List Operand} {ts : Array TypeId} {vs : List Value} {cs all : Array Value} {fn : Func} (ho : o.op = .call { callee := .value (.tmp t), args := args.toArray, argTypes := ts }) (hf0 : ev (.tmp t) = .func (.func f) #[] cs) (hv : Evs ev args vs) (he : vs.toArray ++ cs = all)
    (hf : P.funcs[f]? = some fn) (hn : (fn.name == "runtime.NumGoroutine") = false) (hb : fn.body.isNone = false) : (execOp ev o).run P w = .ok (.enter f all) w := by
  subst he
  have hn' : ¬ fn.name = "runtime.NumGoroutine" := by simpa using hn
  have hb' : ¬ fn.body = none := fun h => by rw [h] at hb; cases hb
  simp [execOp, ho, resolve, Deferred.ofValue, hf0, hv.map, invoke, callFunc, hf, hn', hb']
theorem x_slice_mid {t e s i j : Nat} (hu : P.underlying t = some (.slice e)) (hs : (P.info? e).map (·.size) = some s) (ho : o.op = .slice t x (some y) (some z) none) (hx : ev x = .slice A n c) (hy : ev y = .int k ((i : Nat) : Int)) (hz : ev z = .int k1 ((j : Nat) : Int)) (hij : i ≤ j) (hj : j ≤ c) :
    (execOp ev o).run P w = .ok (.value (.slice (cutA A c i s) (j - i) (c - i))) w := by
  cases h3 : P.info? e with
  | none => simp [h3] at hs
  | some inf =>
    simp only [h3, Option.map_some, Option.some.injEq] at hs
    simp [execOp, ho, hx, hy, hz, Instr.sliceAt, Instr.slice, Instr.sliceBounds, run_underlying hu, run_bound hij, run_bound hj, sizeOf, typeInfo, h3, hs, cutA]
theorem x_slice_full {t e s i j m : Nat} (hu : P.underlying t = some (.slice e)) (hs : (P.info? e).map (·.size) = some s) (ho : o.op = .slice t x (some y) (some z) (some u)) (hx : ev x = .slice A n c) (hy : ev y = .int k ((i : Nat) : Int)) (hz : ev z = .int k1 ((j : Nat) : Int)) (hm : ev u = .int k2 ((m : Nat) : Int)) (hij : i ≤ j) (hjm : j ≤ m) (hmc : m ≤ c) :
    (execOp ev o).run P w = .ok (.value (.slice (cutA A m i s) (j - i) (m - i))) w := by
  cases h3 : P.info? e with
  | none => simp [h3] at hs
  | some inf =>
    simp only [h3, Option.map_some, Option.some.injEq] at hs
    simp [execOp, ho, hx, hy, hz, hm, Instr.sliceAt, Instr.slice, Instr.sliceBounds, run_underlying hu, run_bound hij, run_bound hjm, run_bound hmc, sizeOf, typeInfo, h3, hs, cutA]
theorem x_feql {T : TypeId} {f : FuncId} {cs : Array Value} {T' : TypeId} {ps rs : Array TypeId} {vr : Bool} (hT : P.underlying T = some (.func ps rs vr)) (ho : o.op = .binOp .eql T x y T') (hx : ev x = .func (.func f) #[] cs) (hy : ev y = .nilFunc) : (execOp ev o).run P w = .ok (.value (.bool false)) w := by
  refine x_eq_of ho hx hy (by simp [eqGuard]) rfl ?_
  show (Op.equalIn (9999 + 1) T (.func (.func f) #[] cs) .nilFunc).run P w = _
  unfold Op.equalIn
  simp only [Sem.run_bind, run_underlying hT, Result.andThen_ok]
  rfl
end
section
variable {P : Program} {N : Nat × List Deferred} {T : List (Nat × Value)} {a : Act} {w : World} {Q : Exit → Act → World → Prop} {ops : Array Oper} {rest : List Oper} {o : Oper} {d : Nat}
theorem fx_effv {v : Value} {w1 : World} (hw : Region.wanted o (yielded ops a.tmps) = true) (hd : o.dst = none) (hrun : (execOp a.eval o).run P w = .ok (.value v) w1) (next : wpList P ops Q rest a w1) : wpList P ops Q (o :: rest) a w :=
  wpList_step fun K hK => by
    rw [if_pos hw]
    unfold Oper.wp
    rw [hrun]
    refine hK _ _ ?_
    rw [hd]
    exact next
variable {α : Type} [DecidableEq α] {E : Enc P α} {t : TypeId} {bytes : Nat}
/-- 'append' where there is room: in place. -/
theorem fx_appendIn (hE : ElemI E t bytes) (fr : Fr N T a) (hw : Region.wanted o (yielded ops a.tmps) = true) (hd : o.dst = some d) (hN : d < N.1) {x y : Operand} (ho : o.op = .call { callee := .builtin .append, args := #[x, y], argTypes := #[t, t] })
    {A B : Option Addr} {cap c n m : Nat} {l l' : List α} (hx : a.eval x = .slice A n cap) (hy : a.eval y = .slice B m c) (hn : n = l.length) (hm' : m = l'.length) (h : Own E w A cap l) (hv : View E w B c l') (hA : ∃ g o, A = some ⟨g, o, none⟩) (hroom : l.length + l'.length ≤ cap)
    (next : ∀ w1, Own E w1 A cap (l ++ l') → Only (inA A) w w1 → ∀ a, Fr N ((d, .slice A (l ++ l').length cap) :: T) a → wpList P ops Q rest a w1) : wpList P ops Q (o :: rest) a w := by
  subst hn hm'
  obtain ⟨i, z, hi, hz, hs, hby, hzc⟩ := hE.info
  obtain ⟨k1, k2, ⟨h3, _⟩ | ⟨g, q, cs, rfl, hB, hfit, htake⟩⟩ := h
  · obtain ⟨g, q, hA⟩ := hA
    rw [hA] at h3; cases h3
  have hlen : (Builtin.lenOf (.slice B l'.length c)).run P w = .ok l'.length w := by simp [Builtin.lenOf]
  have hnl : (l'.flatMap E.cells).length = l'.length * E.n := flat_len l'
  have h1 : ∀ u ∈ l'.flatMap E.cells, u.oneCell' = true := by
    intro u hu
    obtain ⟨x, _, hx⟩ := List.mem_flatMap.1 hu
    exact E.one x u hx
  have hfirst : (Builtin.firstCells E.n l'.length (.slice B l'.length c)).run P w = .ok (l'.flatMap E.cells).toArray w := by
    obtain ⟨q1, _, ⟨q2, q3⟩ | ⟨g2, o2, rfl, _, hr⟩⟩ := hv
    · obtain rfl : l' = [] := List.eq_nil_of_length_eq_zero (by omega)
      subst q2
      exact run_firstCells_none (P := P) w E.n _ _ _
    · exact run_firstCells_some (P := P) w E.n l'.length _ l'.length c _ hnl (fun j v hj => by rw [Addr.add_mid]; exact hr j v hj)
  have hr := run_append_in (ty := o.type) (n := l.length) hE.ty hi hs hB hnl hlen hfirst h1 hroom hfit
  have hle : l.length * E.n + l'.length * E.n ≤ cap * E.n := by rw [← Nat.add_mul]; exact Nat.mul_le_mul_right _ hroom
  obtain ⟨W1, hW1⟩ : ∃ W1, w.setRow g (cs.toList.take (q + l.length * E.n) ++ l'.flatMap E.cells ++ cs.toList.drop (q + l.length * E.n + (l'.flatMap E.cells).length)).toArray = W1 := ⟨_, rfl⟩
  rw [hW1] at hr
  refine fx_val (v := .slice (some ⟨g, q, none⟩) (l ++ l').length cap) (w1 := W1) fr hw hd hN (by rw [List.length_append]; simp [execOp, ho, resolve, invoke, builtin, hx, hy, hr, Result.andThen]) fun a fr => next _ ?_ ?_ a fr
  rotate_left
  · rw [← hW1]
    exact (Only.refl (inA (some ⟨g, q, none⟩)) w).setRow (fun _ => ⟨q, rfl⟩) _
  rw [← hW1]
  refine ⟨by rw [List.length_append]; exact hroom, k2, .inr ⟨g, q, _, rfl, setRow_self' hB, ?_, ?_⟩⟩
  · simp only [List.size_toArray, List.length_append, List.length_take, List.length_drop, Array.length_toList, hnl]
    omega
  · have hlt2 : l.flatMap E.cells = (cs.toList.take (q + l.length * E.n)).drop q := by rw [← htake, List.drop_take]; congr 1; omega
    have hll := flat_len (E := E) l
    have e0 : q + l.length * E.n ≤ cs.toList.length := by
      have : cs.toList.length = cs.size := Array.length_toList
      omega
    rw [List.length_append, Nat.add_mul, List.flatMap_append, List.append_assoc, List.drop_append, List.length_take, Nat.min_eq_left e0, show q - (q + l.length * E.n) = 0 by omega, List.drop_zero, ← hlt2,
      List.take_append, hll, List.take_of_length_le (by omega), show l.length * E.n + l'.length * E.n - l.length * E.n = l'.length * E.n by omega, List.take_append_of_le_length (by omega), List.take_of_length_le (by omega)]
/-- 'clear' of what lies behind the end. -/
theorem fx_clearTail (hE : ElemI E t bytes) {z : Value} (hz : (P.info? E.T).bind (·.zero) = some z) (hzs : z.cells.size = E.n) (hz1 : z.cells.all (·.oneCell') = true) (hw : Region.wanted o (yielded ops a.tmps) = true) (hd : o.dst = none) {x : Operand} (ho : o.op = .call { callee := .builtin .clear, args := #[x], argTypes := #[t] })
    {A : Option Addr} {cap k m c' : Nat} {l : List α} (hx : a.eval x = .slice (cutA A cap k E.n) m c') (h : Own E w A cap l) (hk : l.length ≤ k) (hroom : k + m ≤ cap) (next : ∀ w1, Own E w1 A cap l → Only (inA A) w w1 → wpList P ops Q rest a w1) : wpList P ops Q (o :: rest) a w := by
  by_cases hm : m = 0
  · subst hm
    refine fx_effv (v := .tuple #[]) (w1 := w) hw hd ?_ (next w h (Only.refl _ _))
    simp [execOp, ho, resolve, invoke, builtin, hx, Builtin.clear_, run_underlying hE.ty]
    cases cutA A cap k E.n <;> rfl
  obtain ⟨k1, k2, ⟨h3, h4⟩ | ⟨g, q, cs, rfl, hB, hfit, htake⟩⟩ := h
  · omega
  have hcut : cutA (some ⟨g, q, none⟩) cap k E.n = some ⟨g, q + k * E.n, none⟩ := by
    unfold cutA
    rw [if_neg (by omega), Option.map_some, addr_add]
  rw [hcut] at hx
  have hmn : k * E.n + m * E.n ≤ cap * E.n := by rw [← Nat.add_mul]; exact Nat.mul_le_mul_right _ hroom
  have hkn : l.length * E.n ≤ k * E.n := Nat.mul_le_mul_right _ hk
  have hzl : (Builtin.zeroCells z.cells m).toList.length = m * E.n := by rw [Array.length_toList, size_zeroCells, hzs]
  have hall : ∀ v ∈ (Builtin.zeroCells z.cells m).toList, v.oneCell' = true := by
    intro v hv
    rw [Array.mem_toList_iff] at hv
    unfold Builtin.zeroCells at hv
    rw [Array.all_eq_true_iff_forall_mem] at hz1
    simp only [Array.mem_map, Array.mem_range] at hv
    obtain ⟨j, hj, rfl⟩ := hv
    have hlt : j % z.cells.size < z.cells.size := Nat.mod_lt _ (by rw [hzs]; exact E.pos)
    rw [getElem!_pos z.cells _ hlt]
    exact hz1 _ (Array.getElem_mem hlt)
  have hst := run_storeCells_at P g (q + k * E.n) E.T (Builtin.zeroCells z.cells m).toList 0 cs w hB (by rw [hzl]; omega) hall
  simp only [Nat.add_zero] at hst
  cases hi : P.info? E.T with
  | none => simp [hi] at hz
  | some inf =>
    simp only [hi, Option.bind_some] at hz
    have hzv : (zeroValue E.T).run P w = .ok z w := by simp [zeroValue, typeInfo, hi, hz]
    have hm' : ∃ m', m = m' + 1 := ⟨m - 1, by omega⟩
    obtain ⟨m', rfl⟩ := hm'
    obtain ⟨W1, hW1⟩ : ∃ W1, w.setRow g (cs.toList.take (q + k * E.n) ++ (Builtin.zeroCells z.cells (m' + 1)).toList ++ cs.toList.drop (q + k * E.n + (Builtin.zeroCells z.cells (m' + 1)).toList.length)).toArray = W1 := ⟨_, rfl⟩
    rw [hW1] at hst
    refine fx_effv (v := .tuple #[]) (w1 := W1) hw hd (by simp [execOp, ho, resolve, invoke, builtin, hx, Builtin.clear_, run_underlying hE.ty, hzv, hst, Result.andThen]) (next _ ?_ ?_)
    rotate_left
    · rw [← hW1]
      exact (Only.refl (inA (some ⟨g, q, none⟩)) w).setRow (fun _ => ⟨q, rfl⟩) _
    rw [← hW1]
    refine ⟨k1, k2, .inr ⟨g, q, _, rfl, setRow_self' hB, ?_, ?_⟩⟩
    · have : cs.toList.length = cs.size := Array.length_toList
      simp only [List.size_toArray, List.length_append, List.length_take, List.length_drop, hzl]
      omega
    · have : cs.toList.length = cs.size := Array.length_toList
      have e1 : (cs.toList.take (q + k * E.n)).length = q + k * E.n := by rw [List.length_take]; omega
      rw [← htake, List.append_assoc, List.drop_append, e1, show q - (q + k * E.n) = 0 by omega, List.drop_zero, List.drop_take, List.take_append, List.length_take, List.length_drop, List.take_take]
      rw [show l.length * E.n - min (q + k * E.n - q) (cs.toList.length - q) = 0 by omega, List.take_zero, List.append_nil, Nat.min_eq_left (by omega)]
end
theorem Own.pre {P : Program} {α : Type} [DecidableEq α] {E : Enc P α} {w : World} {A : Option Addr} {cap : Nat} {l : List α} (h : Own E w A cap l) (k : Nat) : Own E w A cap (l.take k) := by
  obtain ⟨h1, h2, h3 | ⟨g, o, cs, e1, hB, hs, ht⟩⟩ := h
  · exact ⟨Nat.le_trans (by simp; omega) h1, h2, .inl h3⟩
  · refine ⟨Nat.le_trans (by simp; omega) h1, h2, .inr ⟨g, o, cs, e1, hB, hs, ?_⟩⟩
    have e : l.flatMap E.cells = (l.take k).flatMap E.cells ++ (l.drop k).flatMap E.cells := by rw [← List.flatMap_append, List.take_append_drop]
    have hle : (l.take k).length * E.n ≤ l.length * E.n := Nat.mul_le_mul_right _ (by simp; omega)
    have h4 : ((cs.toList.drop o).take (l.length * E.n)).take ((l.take k).length * E.n) = (l.take k).flatMap E.cells := by
      rw [ht, e, ← flat_len, List.take_left]
    rw [List.take_take, Nat.min_eq_left hle] at h4
    exact h4
end Go.Proofs.Ytdjgfkjcpalihaa
