/-
  What each operation does, one small law each; blocks that are known whole; steps that lay or write memory.
-/
import Derived.Test.YtdjgfkjcpalihaaFX
import Derived.Test.YtdjgfkjcpalihaaAppend
import Derived.Deep.MidRow
import Derived.Laws.StructEq
namespace Go.Proofs.Ytdjgfkjcpalihaa
open Go.RowKit

section
variable {P : Program} {w : World} {ev : Operand → Value} {o : Oper} {x y z : Operand} {k : IntKind} {m n r : Int} {v u : Value}

theorem x_move (ho : o.op = .move x) (hx : ev x = v) : (execOp ev o).run P w = .ok (.value v) w := by simp [execOp, ho, hx]
theorem x_assign (ho : o.op = .assign x) (hx : ev x = v) : (execOp ev o).run P w = .ok (.value v) w := by simp [execOp, ho, hx]
theorem x_extract {vs : Array Value} {i : Nat} (ho : o.op = .extract x i) (hx : ev x = .tuple vs) (hi : vs[i]? = some v) : (execOp ev o).run P w = .ok (.value v) w := by
  simp [execOp, ho, hx, Instr.extract, hi]
theorem x_pick_t (ho : o.op = .pick x y z) (hx : ev x = .bool true) (hy : ev y = v) : (execOp ev o).run P w = .ok (.value v) w := by simp [execOp, ho, hx, hy, asBool]
theorem x_pick_f (ho : o.op = .pick x y z) (hx : ev x = .bool false) (hy : ev z = v) : (execOp ev o).run P w = .ok (.value v) w := by simp [execOp, ho, hx, hy, asBool]
theorem x_not {T : TypeId} {b c : Bool} (ho : o.op = .unOp .not T x) (hx : ev x = .bool b) (hc : (!b) = c) : (execOp ev o).run P w = .ok (.value (.bool c)) w := by
  subst hc
  simp [go_sem, execOp, ho, hx]
theorem x_nilCheck {a : Addr} (ho : o.op = .nilCheck x) (hx : ev x = .pointer (some a)) : (execOp ev o).run P w = .ok (.value (.pointer (some a))) w := by simp [execOp, ho, hx]

section
variable {T T' : TypeId}
theorem x_eql (ho : o.op = .binOp .eql T x y T') (hx : ev x = .int k m) (hy : ev y = .int k n) {b : Bool} (hb : decide (m = n) = b) : (execOp ev o).run P w = .ok (.value (.bool b)) w := by
  subst hb; simp [go_sem, execOp, ho, hx, hy, eqGuard, binOp, Op.intCmp]; rfl
theorem x_neq (ho : o.op = .binOp .neq T x y T') (hx : ev x = .int k m) (hy : ev y = .int k n) {b : Bool} (hb : decide (m ≠ n) = b) : (execOp ev o).run P w = .ok (.value (.bool b)) w := by
  subst hb; simp [go_sem, execOp, ho, hx, hy, eqGuard, binOp, Op.intCmp]; rfl
theorem x_lss (ho : o.op = .binOp .lss T x y T') (hx : ev x = .int k m) (hy : ev y = .int k n) {b : Bool} (hb : decide (m < n) = b) : (execOp ev o).run P w = .ok (.value (.bool b)) w := by
  subst hb; simp [go_sem, execOp, ho, hx, hy, eqGuard, binOp, Op.intCmp]
theorem x_leq (ho : o.op = .binOp .leq T x y T') (hx : ev x = .int k m) (hy : ev y = .int k n) {b : Bool} (hb : decide (m ≤ n) = b) : (execOp ev o).run P w = .ok (.value (.bool b)) w := by
  subst hb; simp [go_sem, execOp, ho, hx, hy, eqGuard, binOp, Op.intCmp]
theorem x_gtr (ho : o.op = .binOp .gtr T x y T') (hx : ev x = .int k m) (hy : ev y = .int k n) {b : Bool} (hb : decide (n < m) = b) : (execOp ev o).run P w = .ok (.value (.bool b)) w := by
  subst hb; simp [go_sem, execOp, ho, hx, hy, eqGuard, binOp, Op.intCmp]
theorem x_geq (ho : o.op = .binOp .geq T x y T') (hx : ev x = .int k m) (hy : ev y = .int k n) {b : Bool} (hb : decide (n ≤ m) = b) : (execOp ev o).run P w = .ok (.value (.bool b)) w := by
  subst hb; simp [go_sem, execOp, ho, hx, hy, eqGuard, binOp, Op.intCmp]
theorem x_add (ho : o.op = .binOp .add T x y T') (hx : ev x = .int k m) (hy : ev y = .int k n) (hr : k.wrap (m + n) = r) : (execOp ev o).run P w = .ok (.value (.int k r)) w := by
  subst hr; simp [execOp, ho, hx, hy, eqGuard, binOp, Op.intArith]
theorem x_sub (ho : o.op = .binOp .sub T x y T') (hx : ev x = .int k m) (hy : ev y = .int k n) (hr : k.wrap (m - n) = r) : (execOp ev o).run P w = .ok (.value (.int k r)) w := by
  subst hr; simp [execOp, ho, hx, hy, eqGuard, binOp, Op.intArith]
theorem x_mul (ho : o.op = .binOp .mul T x y T') (hx : ev x = .int k m) (hy : ev y = .int k n) (hr : k.wrap (m * n) = r) : (execOp ev o).run P w = .ok (.value (.int k r)) w := by
  subst hr; simp [execOp, ho, hx, hy, eqGuard, binOp, Op.intArith]
theorem x_rem (ho : o.op = .binOp .rem T x y T') (hx : ev x = .int k m) (hy : ev y = .int k n) (h0 : n ≠ 0) (hr : m.tmod n = r) : (execOp ev o).run P w = .ok (.value (.int k r)) w := by
  subst hr; simp [execOp, ho, hx, hy, eqGuard, binOp, Op.intDiv, h0]
theorem x_quo (ho : o.op = .binOp .quo T x y T') (hx : ev x = .int k m) (hy : ev y = .int k n) (h0 : n ≠ 0) (hr : k.wrap (m.tdiv n) = r) : (execOp ev o).run P w = .ok (.value (.int k r)) w := by
  subst hr; simp [execOp, ho, hx, hy, eqGuard, binOp, Op.intDiv, h0]
theorem x_beql {b c d : Bool} (hT : P.underlying T = some .bool) (ho : o.op = .binOp .eql T x y T') (hx : ev x = .bool b) (hy : ev y = .bool c) (hd : (b == c) = d) : (execOp ev o).run P w = .ok (.value (.bool d)) w := by
  subst hd; simp [go_sem, execOp, ho, hx, hy, eqGuard, binOp, Op.equal, Op.maxDepth, hT]
theorem x_bneq {b c d : Bool} (hT : P.underlying T = some .bool) (ho : o.op = .binOp .neq T x y T') (hx : ev x = .bool b) (hy : ev y = .bool c) (hd : (b != c) = d) : (execOp ev o).run P w = .ok (.value (.bool d)) w := by
  subst hd; simp [go_sem, execOp, ho, hx, hy, eqGuard, binOp, Op.equal, Op.maxDepth, hT, bne]
theorem run_equal_ptr {E : TypeId} {p : Option Addr} (hT : P.underlying T = some (.pointer E)) : (Op.equal T (.pointer p) (.pointer none)).run P w = .ok p.isNone w := by
  show (Op.equalIn (9999 + 1) T (.pointer p) (.pointer none)).run P w = _
  unfold Op.equalIn
  simp only [Sem.run_bind, run_underlying hT, Result.andThen_ok]
  cases p <;> simp
theorem run_equal_slice {E : TypeId} {p : Option Addr} {l c : Nat} (hT : P.underlying T = some (.slice E)) : (Op.equal T (.slice p l c) (.slice none 0 0)).run P w = .ok p.isNone w := by
  show (Op.equalIn (9999 + 1) T (.slice p l c) (.slice none 0 0)).run P w = _
  unfold Op.equalIn
  simp only [Sem.run_bind, run_underlying hT, Result.andThen_ok]
  cases p <;> simp
theorem x_eq_of {u v : Value} {b : Bool} (ho : o.op = .binOp .eql T x y T') (hx : ev x = u) (hy : ev y = v) (hg : (eqGuard .eql T x y u v).run P w = .ok () w) (hbin : binOp .eql T u v = (do pure (.bool (← Op.equal T u v)))) (he : (Op.equal T u v).run P w = .ok b w) :
    (execOp ev o).run P w = .ok (.value (.bool b)) w := by
  simp only [execOp, ho, hx, hy, hbin, Sem.run_bind, hg, he, Result.andThen_ok, Sem.run_pure]
theorem x_ne_of {u v : Value} {b c : Bool} (ho : o.op = .binOp .neq T x y T') (hx : ev x = u) (hy : ev y = v) (hg : (eqGuard .neq T x y u v).run P w = .ok () w) (hbin : binOp .neq T u v = (do pure (.bool (!(← Op.equal T u v))))) (he : (Op.equal T u v).run P w = .ok b w) (hc : (!b) = c) :
    (execOp ev o).run P w = .ok (.value (.bool c)) w := by
  subst hc
  simp only [execOp, ho, hx, hy, hbin, Sem.run_bind, hg, he, Result.andThen_ok, Sem.run_pure]
theorem x_peql {E : TypeId} {p : Option Addr} {b : Bool} (hT : P.underlying T = some (.pointer E)) (ho : o.op = .binOp .eql T x y T') (hx : ev x = .pointer p) (hy : ev y = .pointer none) (hb : p.isNone = b) : (execOp ev o).run P w = .ok (.value (.bool b)) w := by
  subst hb; exact x_eq_of ho hx hy (by simp [eqGuard]) (by cases p <;> rfl) (run_equal_ptr hT)
theorem x_pneq {E : TypeId} {p : Option Addr} {b : Bool} (hT : P.underlying T = some (.pointer E)) (ho : o.op = .binOp .neq T x y T') (hx : ev x = .pointer p) (hy : ev y = .pointer none) (hb : (!p.isNone) = b) : (execOp ev o).run P w = .ok (.value (.bool b)) w :=
  x_ne_of ho hx hy (by simp [eqGuard]) (by cases p <;> rfl) (run_equal_ptr hT) hb
theorem x_seql {E : TypeId} {p : Option Addr} {l c : Nat} {b : Bool} (hT : P.underlying T = some (.slice E)) (ho : o.op = .binOp .eql T x y T') (hx : ev x = .slice p l c) (hy : ev y = .slice none 0 0) (hb : p.isNone = b) : (execOp ev o).run P w = .ok (.value (.bool b)) w := by
  subst hb; exact x_eq_of ho hx hy (by simp [eqGuard]) rfl (run_equal_slice hT)
end

/-! ### Addresses -/
/-- Where a field lies. -/
def fieldOff (P : Program) (t f : Nat) : Option Nat :=
  match P.underlying t with
  | some (.struct fs) => match fs[f]? with
    | some fd => match (P.info? fd.type).map (·.size) with
      | some (_ + 1) => some fd.offset
      | _ => none
    | none => none
  | _ => none
theorem x_fieldAddr {t f off g q : Nat} (hf : fieldOff P t f = some off) (ho : o.op = .fieldAddr t x f) (hx : ev x = .pointer (some ⟨g, q, none⟩)) {q' : Nat} (hq : q + off = q') : (execOp ev o).run P w = .ok (.value (.pointer (some ⟨g, q', none⟩))) w := by
  subst hq
  unfold fieldOff at hf
  cases h1 : P.underlying t with
  | none => simp [h1] at hf
  | some dsc =>
    cases dsc with
    | struct fs =>
      simp only [h1] at hf
      cases h2 : fs[f]? with
      | none => simp [h2] at hf
      | some fd =>
        simp only [h2] at hf
        cases h3 : P.info? fd.type with
        | none => simp [h3] at hf
        | some i =>
          simp only [h3, Option.map_some] at hf
          cases h4 : i.size with
          | zero => rw [h4] at hf; simp at hf
          | succ s =>
            rw [h4] at hf
            simp only [Option.some.injEq] at hf
            subst hf
            simp [execOp, ho, hx, Instr.fieldAt, run_underlying h1, h2, Instr.sureAddr, fieldPlace, sizeOf, typeInfo, h3, h4, Addr.add_mid]
    | _ => simp [h1] at hf
theorem x_indexAddr {t e s g q l c j : Nat} (hu : P.underlying t = some (.slice e)) (hs : (P.info? e).map (·.size) = some s) (ho : o.op = .indexAddr t x y) (hx : ev x = .slice (some ⟨g, q, none⟩) l c) (hy : ev y = .int k ((j : Nat) : Int)) (hj : j < l)
    {q' : Nat} (hq : q + j * s = q') : (execOp ev o).run P w = .ok (.value (.pointer (some ⟨g, q', none⟩))) w := by
  subst hq
  cases h3 : P.info? e with
  | none => simp [h3] at hs
  | some i =>
    simp only [h3, Option.map_some, Option.some.injEq] at hs
    simp [execOp, ho, hx, hy, Instr.indexAt, run_underlying hu, asIntOf, sizeOf, typeInfo, h3, hs, Addr.add_mid, hj]
theorem x_len {t e : TypeId} {p : Option Addr} {l c : Nat} (hu : P.underlying t = some (.slice e)) (ho : o.op = .call { callee := .builtin .len, args := #[x], argTypes := #[t] }) (hx : ev x = .slice p l c) : (execOp ev o).run P w = .ok (.value (.int .i64 (l : Int))) w := by
  simp [go_sem, execOp, ho, hx, resolve, invoke, builtin, Builtin.len_, run_underlying hu]

/-! ### Loads and stores -/
theorem x_load {t : TypeId} {ad : Addr} (ho : o.op = .load t x) (hx : ev x = .pointer (some ad)) (h : (Instr.loadAt t (.pointer (some ad))).run P w = .ok v w) : (execOp ev o).run P w = .ok (.value v) w := by
  simp [execOp, ho, hx, h]
/-- Is the type's variable of one cell? -/
def plainT (P : Program) (t : Nat) : Bool := match P.underlying t with | some (.struct _) => false | some (.array _ _) => false | some _ => true | none => false
theorem run_load_one {t : TypeId} {ad : Addr} (ht : plainT P t = true) (hc : w.cell? ad = some v) : (Instr.loadAt t (.pointer (some ad))).run P w = .ok v w := by
  have h1 : (isAgg t).run P w = .ok false w := by
    unfold plainT at ht
    unfold isAgg
    cases h : P.underlying t with
    | none => simp [h] at ht
    | some d => rw [Sem.run_bind, run_underlying h w]; cases d <;> simp_all
  simp [Instr.loadAt, Instr.sureAddr, loadVar, h1, run_load, hc]
theorem x_load1 {t : TypeId} {ad : Addr} (ht : plainT P t = true) (ho : o.op = .load t x) (hx : ev x = .pointer (some ad)) (hc : w.cell? ad = some v) : (execOp ev o).run P w = .ok (.value v) w := x_load ho hx (run_load_one ht hc)
/-- Is the type's variable a struct or an array, of so many cells? -/
def aggT (P : Program) (t n : Nat) : Bool := (match P.underlying t with | some d => d.isRow | none => false) && ((P.info? t).map (·.size) == some n)
theorem aggT_spec {t n : Nat} (h : aggT P t n = true) : ∃ d, P.underlying t = some d ∧ d.isRow = true ∧ (P.info? t).map (·.size) = some n := by
  unfold aggT at h
  cases h1 : P.underlying t with
  | none => simp [h1] at h
  | some d =>
    rw [h1, Bool.and_eq_true] at h
    exact ⟨d, rfl, h.1, by simpa using h.2⟩
theorem x_loadS {t n : Nat} {g q : Nat} {cs : Array Value} (ht : aggT P t n = true) (ho : o.op = .load t x) (hx : ev x = .pointer (some ⟨g, q, none⟩)) (hn : cs.size = n) (hc : w.rangeAt g q cs.toList) : (execOp ev o).run P w = .ok (.value (.agg cs)) w := by
  obtain ⟨d, h1, h2, h3⟩ := aggT_spec ht
  have := run_loadAt_mid (P := P) w g q t cs.toList d hc h1 h2 (by rw [h3, ← hn]; simp)
  rw [Array.toArray_toList] at this
  exact x_load ho hx this
theorem x_loadV {t n : Nat} {g q : Nat} {cs : Array Value} (ht : aggT P t n = true) (hn : cs.size = n) (hc : w.rangeAt g q cs.toList) : (loadVar t ⟨g, q, none⟩).run P w = .ok (.agg cs) w := by
  obtain ⟨d, h1, h2, h3⟩ := aggT_spec ht
  have := run_loadVar_mid (P := P) w g q t cs.toList d hc h1 h2 (by rw [h3, ← hn]; simp)
  rwa [Array.toArray_toList] at this
theorem x_build {t : TypeId} {parts : Array (Nat × Operand)} {cells : Array Value} (ho : o.op = .build t parts) (hb : P.built t (parts.map fun (i, x) => (i, ev x)).toList = some cells) : (execOp ev o).run P w = .ok (.value (.agg cells)) w := by
  have := run_build (P := P) w t _ _ hb
  simp only [execOp, ho, Sem.run_bind, this, Result.andThen_ok, Sem.run_pure]
/-- The operands' values, one by one. -/
def Evs (ev : Operand → Value) : List Operand → List Value → Prop
  | [], [] => True
  | x :: r, v :: vs => ev x = v ∧ Evs ev r vs
  | _, _ => False
theorem Evs.map : ∀ {l : List Operand} {vs : List Value}, Evs ev l vs → l.map ev = vs
  | [], [], _ => rfl
  | _ :: _, _ :: _, h => by rw [List.map_cons, h.1, Evs.map h.2]
  | [], _ :: _, h => h.elim
  | _ :: _, [], h => h.elim
theorem x_call {f : FuncId} {args : List Operand} {ts : Array TypeId} {vs : List Value} {fn : Func} (ho : o.op = .call { callee := .value (.func f), args := args.toArray, argTypes := ts }) (hf0 : ev (.func f) = .func (.func f) #[] #[]) (hv : Evs ev args vs)
    (hf : P.funcs[f]? = some fn) (hn : (fn.name == "runtime.NumGoroutine") = false) (hb : fn.body.isNone = false) : (execOp ev o).run P w = .ok (.enter f vs.toArray) w := by
  have hn' : ¬ fn.name = "runtime.NumGoroutine" := by simpa using hn
  have hb' : ¬ fn.body = none := fun h => by rw [h] at hb; cases hb
  simp [execOp, ho, resolve, Deferred.ofValue, hf0, hv.map, invoke, callFunc, hf, hn', hb']
end

/-! ### Values under a guard -/
/-- What is there only if so. -/
def onlyIf (g : Bool) (v : Value) : Value := bif g then v else undef
theorem onlyIf_t {g : Bool} {v : Value} (h : g = true) : onlyIf g v = v := by subst h; rfl
theorem onlyIf_f {g : Bool} {v : Value} (h : g = false) : onlyIf g v = undef := by subst h; rfl
theorem andL {a b : Bool} (h : (a && b) = true) : a = true := by cases a <;> simp_all
theorem andR {a b : Bool} (h : (a && b) = true) : b = true := by cases a <;> simp_all
section
variable {P : Program} {N : Nat × List Deferred} {T : List (Nat × Value)} {a : Act} {w : World} {Q : Exit → Act → World → Prop} {ops : Array Oper} {rest : List Oper} {o : Oper} {d : Nat} {v : Value}
theorem fx_may (fr : Fr N T a) {j t : Nat} {b want g : Bool} (hg : o.guard = some (j, want)) (hj : dstAt ops j = some t) (hb : look T t = some (.bool b)) (hgb : (b == want) = g) (hd : o.dst = some d) (hN : d < N.1)
    (hrun : g = true → (execOp a.eval o).run P w = .ok (.value v) w) (next : ∀ a, Fr N ((d, onlyIf g v) :: T) a → wpList P ops Q rest a w) : wpList P ops Q (o :: rest) a w := by
  subst hgb
  cases hq : b == want with
  | true =>
    obtain rfl : b = want := by simpa using hq
    rw [hq] at hrun next
    exact fx_val fr (fr.want hg hj hb) hd hN (hrun rfl) next
  | false =>
    rw [hq] at next
    exact fx_skip fr (fr.unwant hg hj hb (by simpa using hq)) hd hN next
theorem fx_may2 (fr : Fr N T a) {j t : Nat} {g1 b want g : Bool} (hg : o.guard = some (j, want)) (hj : dstAt ops j = some t) (hb : look T t = some (onlyIf g1 (.bool b))) (hgb : (g1 && (b == want)) = g) (hd : o.dst = some d) (hN : d < N.1)
    (hrun : g = true → (execOp a.eval o).run P w = .ok (.value v) w) (next : ∀ a, Fr N ((d, onlyIf g v) :: T) a → wpList P ops Q rest a w) : wpList P ops Q (o :: rest) a w := by
  subst hgb
  cases g1 with
  | true => exact fx_may fr hg hj hb (by simp) hd hN hrun next
  | false => exact fx_skip fr (fr.unwant_u hg hj hb) hd hN next
end
section
variable {P : Program} {w : World} {ev : Operand → Value} {o : Oper} {x y z : Operand} {b c r : Bool}
theorem x_pick_or (ho : o.op = .pick x y z) (hx : ev x = .bool b) (hy : b = true → ev y = .bool true) (hz : b = false → ev z = .bool c) (hr : (b || c) = r) : (execOp ev o).run P w = .ok (.value (.bool r)) w := by
  subst hr
  cases b with
  | true => exact x_pick_t ho hx (hy rfl)
  | false => exact x_pick_f ho hx (hz rfl)
theorem x_pick_and (ho : o.op = .pick x y z) (hx : ev x = .bool b) (hy : b = true → ev y = .bool c) (hz : b = false → ev z = .bool false) (hr : (b && c) = r) : (execOp ev o).run P w = .ok (.value (.bool r)) w := by
  subst hr
  cases b with
  | true => exact x_pick_t ho hx (hy rfl)
  | false => exact x_pick_f ho hx (hz rfl)
end

/-- A step that writes one block, which lies in the frame or is newer. -/
theorem Only.loc {S : Nat → Prop} {a w w' : World} {b : Nat} (h : Only S a w) (k : Only (fun k => k = b) w w') (hb : S b ∨ a.heap.size ≤ b) : Only S a w' :=
  h.trans k fun i hi he => by
    subst he
    rcases hb with hb | hb
    · exact hb
    · omega

/-! ### Blocks -/
/-- A block that is known whole. -/
def Blk (w : World) (b : Nat) (t : TypeId) (cs : Array Value) : Prop := w.heap[b]? = some (.cells cs t (0, 0))
section
variable {S : Nat → Prop} {w w' : World} {b : Nat} {t : TypeId} {cs : Array Value}
theorem Blk.lt (h : Blk w b t cs) : b < w.heap.size := (Array.getElem?_eq_some_iff.1 h).1
theorem Blk.cell (h : Blk w b t cs) (i : Nat) {v : Value} (hv : cs[i]? = some v) : w.cell? ⟨b, i, none⟩ = some v := by rw [head_cell h, hv]
theorem Blk.free (h : Blk w b t cs) (i : Nat) : w.frozen? ⟨b, i, none⟩ = false := head_free h i
theorem Blk.only (h : Blk w b t cs) (k : Only S w w') (hs : ¬ S b) : Blk w' b t cs := k.heap h hs
theorem Blk.new (h : Blk w b t cs) (k : New w w') : Blk w' b t cs := k.heap h id
theorem Blk.range (h : Blk w b t cs) : w.rangeAt b 0 cs.toList := by
  intro j v hj
  rw [head_cell h, Nat.zero_add]
  simpa using hj
theorem Blk.part (h : Blk w b t cs) {q n : Nat} {l : List Value} (hl : (cs.toList.drop q).take n = l) : w.rangeAt b q l := by
  intro j v hj
  rw [← hl, List.getElem?_take] at hj
  split at hj
  · rw [List.getElem?_drop] at hj
    rw [head_cell h]
    simpa using hj
  · cases hj
end
section
variable {P : Program} {N : Nat × List Deferred} {T : List (Nat × Value)} {a : Act} {w : World} {Q : Exit → Act → World → Prop} {ops : Array Oper} {rest : List Oper} {o : Oper} {d : Nat}
theorem x_alloc {ev : Operand → Value} {t : TypeId} {z : Value} {cs : Array Value} (ho : o.op = .alloc t) (hz : (P.info? t).bind (·.zero) = some z) (hc : z.cells = cs) : (execOp ev o).run P w = .ok (.value (.pointer (some ⟨w.heap.size, 0, none⟩))) (w.alloc (.cells cs t)) := by
  subst hc
  cases hi : P.info? t with
  | none => simp [hi] at hz
  | some i =>
    simp only [hi, Option.bind_some] at hz
    simp [execOp, ho, Instr.alloc, zeroValue, typeInfo, hi, hz, newVar, newRow]
theorem x_box {ev : Operand → Value} {t : TypeId} {x : Operand} {v : Value} {cs : Array Value} (ho : o.op = .box t x) (hx : ev x = v) (hc : v.cells = cs) : (execOp ev o).run P w = .ok (.value (.pointer (some ⟨w.heap.size, 0, none⟩))) (w.alloc (.cells cs t)) := by
  subst hc
  simp [execOp, ho, hx, Instr.box, newVar, newRow]
/-- A new block. -/
theorem fx_new {t : TypeId} {cs : Array Value} (fr : Fr N T a) (hw : Region.wanted o (yielded ops a.tmps) = true) (hd : o.dst = some d) (hN : d < N.1) (hrun : (execOp a.eval o).run P w = .ok (.value (.pointer (some ⟨w.heap.size, 0, none⟩))) (w.alloc (.cells cs t)))
    (next : ∀ b w1, New w w1 → Blk w1 b t cs → w.heap.size ≤ b → ∀ a, Fr N ((d, .pointer (some ⟨b, 0, none⟩)) :: T) a → wpList P ops Q rest a w1) : wpList P ops Q (o :: rest) a w :=
  fx_val fr hw hd hN hrun fun a fr => next w.heap.size _ ((Only.refl _ w).alloc _) (Go.heap_alloc_new w _) (Nat.le_refl _) a fr
theorem x_store1 {ev : Operand → Value} {t b i : Nat} {tb : TypeId} {cs : Array Value} {x y : Operand} {v : Value} (hs : (P.info? t).map (·.size) = some 1) (ho : o.op = .store t x y) (hx : ev x = .pointer (some ⟨b, i, none⟩)) (hy : ev y = v) (hv : v.oneCell' = true) (hB : Blk w b tb cs) (hi : i < cs.size) :
    (execOp ev o).run P w = .ok .skip (w.setCell ⟨b, i, none⟩ v) := by
  have hc : v.cells = #[v] := by cases v <;> first | rfl | cases hv
  have hcell : w.cell? ⟨b, i, none⟩ = some cs[i] := hB.cell i (Array.getElem?_eq_getElem hi)
  cases h3 : P.info? t with
  | none => simp [h3] at hs
  | some inf =>
    simp only [h3, Option.map_some, Option.some.injEq] at hs
    have := run_storeCells_cells (P := P) b i [v] 0 w (fun j hj => by simp at hj; subst hj; simp [hcell]) (fun j hj => hB.free _) (fun u hu => by simp at hu; subst hu; exact hv)
    simp only [Nat.add_zero] at this
    simp [execOp, ho, hx, hy, Instr.storeAt, Instr.sureAddr, storeVar, sizeOf, typeInfo, h3, hs, hc, this, World.setCells]
/-- One cell of a block is written. -/
theorem fx_store1 {t b i : Nat} {tb : TypeId} {cs cs' : Array Value} {x y : Operand} {v : Value} (hs : (P.info? t).map (·.size) = some 1) (hw : Region.wanted o (yielded ops a.tmps) = true) (hd : o.dst = none) (ho : o.op = .store t x y)
    (hx : a.eval x = .pointer (some ⟨b, i, none⟩)) (hy : a.eval y = v) (hv : v.oneCell' = true) (hB : Blk w b tb cs) (hi : i < cs.size) (hcs : cs.setIfInBounds i v = cs')
    (next : ∀ w1, Only (fun k => k = b) w w1 → Blk w1 b tb cs' → wpList P ops Q rest a w1) : wpList P ops Q (o :: rest) a w :=
  fx_eff hw hd (x_store1 hs ho hx hy hv hB hi) (next _ ((Only.refl (fun k => k = b) w).setCell (p := ⟨b, i, none⟩) (fun _ => rfl) _) (by subst hcs; exact setCell_at hB i v))
/-- A whole block is written. -/
theorem fx_storeS {t b n : Nat} {tb : TypeId} {old cs : Array Value} {x y : Operand} (hs : (P.info? t).map (·.size) = some n) (hw : Region.wanted o (yielded ops a.tmps) = true) (hd : o.dst = none) (ho : o.op = .store t x y)
    (hx : a.eval x = .pointer (some ⟨b, 0, none⟩)) (hy : a.eval y = .agg cs) (h1 : cs.all (·.oneCell') = true) (hB : Blk w b tb old) (hn : old.size = n) (hm : cs.size = n)
    (next : ∀ w1, Only (fun k => k = b) w w1 → Blk w1 b tb cs → wpList P ops Q rest a w1) : wpList P ops Q (o :: rest) a w := by
  refine fx_eff (w1 := w.setRow b cs) hw hd ?_ (next _ ((Only.refl (fun k => k = b) w).setRow (g := b) (fun _ => rfl) _) (setRow_self' hB))
  have := run_storeVar_row (P := P) w b tb t old cs hB (by rw [hs, hm]) (by rw [hn, hm]) h1
  simp [execOp, ho, hx, hy, Instr.storeAt, Instr.sureAddr, this]
end
theorem i64w {x r : Int} (h : x = r) (hb : -9223372036854775808 ≤ r ∧ r ≤ 9223372036854775807) : IntKind.i64.wrap x = r := by
  subst h; exact IntWalk.i64_in _ (by omega)
end Go.Proofs.Ytdjgfkjcpalihaa
