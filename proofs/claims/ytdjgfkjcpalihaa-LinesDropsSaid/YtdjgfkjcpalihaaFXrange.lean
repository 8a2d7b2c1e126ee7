/-
  Ranges over a function, over tables: what a round's walk asks, and the loop that collects what comes.
-/
import Derived.Test.YtdjgfkjcpalihaaFXrow
import Derived.RangeFuncNested
import Derived.RangeFuncBound
import Derived.RangeFuncCalls
import Derived.RangeFuncLeaves
import Derived.Shelf.Abstract
import Derived.Scope
namespace Go.Proofs.Ytdjgfkjcpalihaa
open Go.RowKit

/-! ### Worlds -/
theorem only_of_grown {w w' : World} {row : Option Nat} (h : w.grownBy w' row) : Only (fun k => some k = row) w w' := ⟨h.os, h.tape, h.output, h.size, fun k hk hs => h.block k hk hs⟩
theorem grown_of_new {w w' : World} (h : New w w') : w.grownBy w' none := ⟨h.os, h.tape, h.output, h.size, fun k hk _ => h.block k hk id⟩
theorem AbidesFrom.new {β : Type} {B : Nat} {J : β → World → Prop} (hJ : AbidesFrom B J) {s : β} {w w' : World} (h : J s w) (k : New w w') : J s w' := hJ s w w' none h (grown_of_new k) (fun _ e => by cases e)
/-- Blocks that hold no cells have turned, from B on. -/
def Turn (B : Nat) (w w' : World) : Prop := Only (fun k => B ≤ k ∧ ∃ o : Obj, w.heap[k]? = some o ∧ o.isCells = false) w w'
theorem Blk.turn {B : Nat} {w w' : World} {b t : Nat} {cs : Array Value} (h : Blk w b t cs) (k : Turn B w w') : Blk w' b t cs :=
  h.only k fun ⟨_, o, ho, hc⟩ => by
    have : w.heap[b]? = some (.cells cs t (0, 0)) := h
    rw [ho] at this
    cases this
    cases hc
theorem Own.turn {P : Program} {α : Type} [DecidableEq α] {E : Enc P α} {B : Nat} {w w' : World} {A : Option Addr} {cap : Nat} {l : List α} (h : Own E w A cap l) (k : Turn B w w') : Own E w' A cap l := by
  refine h.only k fun g ⟨o, hg⟩ ⟨_, ob, ho, hc⟩ => ?_
  obtain ⟨_, _, ⟨h3, _⟩ | ⟨g', o', cs, h3, hb, _⟩⟩ := h
  · rw [h3] at hg; cases hg
  · rw [h3] at hg
    cases hg
    have : w.heap[g]? = some (.cells cs E.T (0, 0)) := hb
    rw [ho] at this
    cases this
    cases hc
theorem View.turn {P : Program} {α : Type} [DecidableEq α] {E : Enc P α} {B : Nat} {w w' : World} {A : Option Addr} {cap : Nat} {l : List α} (h : View E w A cap l) (k : Turn B w w') : View E w' A cap l := by
  obtain ⟨h1, h2, h3 | ⟨g, o, h3, hg, hr⟩⟩ := h
  · exact ⟨h1, h2, .inl h3⟩
  · refine ⟨h1, h2, .inr ⟨g, o, h3, Nat.lt_of_lt_of_le hg k.size, fun j v hj => ?_⟩⟩
    have hc := hr j v hj
    obtain ⟨ob, ho, hcl⟩ := cells_of_cell hc
    refine (World.cell?_of_block (k.block g hg fun ⟨_, o', ho', hc'⟩ => ?_)).trans hc
    have ho : w.heap[g]? = some ob := ho
    rw [ho] at ho'
    cases ho'
    rw [hcl] at hc'
    cases hc'
theorem Only.turn {S : Nat → Prop} {B : Nat} {a w w' : World} (h : Only S a w) (k : Turn B w w') (hB : a.heap.size ≤ B) : Only S a w' :=
  h.trans k fun i hi ⟨hb, _⟩ => by omega
theorem keepsFrom_of_only {S : Nat → Prop} {B : Nat} {w w' : World} (h : Only S w w') (hS : ∀ k, k < w.heap.size → S k → ∃ o : Obj, w.heap[k]? = some o ∧ o.isCells = true) : KeepsFrom B w w' :=
  ⟨h.size, fun k o _ hk ho => by
    have hlt := (Array.getElem?_eq_some_iff.1 hk).1
    refine (h.block k hlt fun hs => ?_).trans hk
    obtain ⟨o', h1, h2⟩ := hS k hlt hs
    rw [hk] at h1
    cases h1
    rw [ho] at h2
    cases h2⟩
theorem Own.cells {P : Program} {α : Type} [DecidableEq α] {E : Enc P α} {w : World} {A : Option Addr} {cap : Nat} {l : List α} (h : Own E w A cap l) {g : Nat} (hg : inA A g) : ∃ o : Obj, w.heap[g]? = some o ∧ o.isCells = true := by
  obtain ⟨o, hg⟩ := hg
  obtain ⟨_, _, ⟨h3, _⟩ | ⟨g', o', cs, h3, hb, _⟩⟩ := h
  · rw [h3] at hg; cases hg
  · rw [h3] at hg
    cases hg
    exact ⟨_, hb, rfl⟩

/-! ### A round: what reads and stores, as anywhere -/
abbrev Wide (r : Option Nat) : Fence := { Fence.wide with round := r }
section
variable {P : Program} {a : Act} {w : World} {Q : Exit → Act → World → Prop} {ops : Array Oper} {n l : Nat}
theorem rows_wide {row : String} {args : Array Value} {R : Value → World → Prop} (h : Rows P row args w R) : RowsIn (Fence.wide.inRound l) n P row args w R := fun c cs _ => by
  obtain ⟨v, w', hr, hs⟩ := h c cs
  exact ⟨v, w', hr, stepsIn_wide.2 hs⟩
theorem oper_in {o : Oper} {K : Act → World → Prop} (hnd : ∀ c, o.op ≠ .defer c) (h : o.wp P a w K Q) (hlo : ¬ LetsOut Q) : o.wpIn (Fence.wide.inRound l) n P a w K Q := by
  refine ⟨fun _ _ => trivial, ?_⟩
  unfold Oper.wp at h
  show o.uponIn _ n P a K Q ((o.semAt (some l) a.eval).run P w)
  rw [Oper.semAt_some l a.eval o hnd]
  generalize (execOp a.eval o).run P w = r at *
  cases r with
  | ok v w' =>
    cases v with
    | value v => exact h
    | skip => exact h
    | defer d => exact h
    | enter f args =>
      refine ⟨fun hd => (by cases hd), ?_⟩
      exact CallsIn.inRound l (callsIn_wide.2 h)
    | row r args => exact ⟨fun hd => (by cases hd), rows_wide h⟩
    | _ => exact h.elim
  | halt x w' => cases x <;> exact h
theorem list_in : ∀ (rest : List Oper) (a : Act) (w : World), (∀ o ∈ rest, ∀ c, o.op ≠ .defer c) → ¬ LetsOut Q → wpList P ops Q rest a w → wpListIn (Fence.wide.inRound l) n P ops Q rest a w
  | [], _, _, _, _, h => h
  | o :: rest, a, w, hnd, hlo, h => by
    unfold wpList at h
    unfold wpListIn
    split
    · rename_i hw
      rw [if_pos hw] at h
      rcases h with h | ⟨_, h⟩
      · exact oper_in (hnd o (by simp)) (Oper.wp_mono (fun a w h => list_in rest a w (fun o ho => hnd o (by simp [ho])) hlo h) h) hlo
      · exact absurd h hlo
    · rename_i hw
      rw [if_neg hw] at h
      exact ⟨fun _ _ => trivial, list_in rest _ w (fun o ho => hnd o (by simp [ho])) hlo h⟩
def noDefer (ops : List Oper) : Bool := ops.all fun o => match o.op with | .defer _ => false | _ => true
theorem noDefer_at {ops : List Oper} (h : noDefer ops = true) : ∀ o ∈ ops, ∀ c, o.op ≠ .defer c := fun o ho c hc => by
  have := List.all_eq_true.1 h o ho
  rw [hc] at this
  cases this
/-- A region of a round. -/
theorem fxr_region {id : Nat} {l' : List Oper} (hnd : noDefer l' = true) (hlo : ¬ LetsOut Q) (h : wpList P l'.toArray Q l' a w) : (Code.region id l'.toArray false).wpIn (Fence.wide.inRound l) n P Q a w :=
  wpIn_region_lit (list_in l' a w (noDefer_at hnd) hlo h)
end

/-! ### The function's end, marks and all -/
/-- The marks that ranges over a function leave behind. -/
def Mark (B : Nat) (w : World) (d : Deferred) : Prop := ∃ D, d = { target := .collected D, args := #[] } ∧ B ≤ D ∧ w.heap[D]? = some (.deferred (some []))
theorem Turn.refl (B : Nat) (w : World) : Turn B w w := Only.refl _ w
section
variable {P : Program} {w : World} {Q : Exit → Act → World → Prop} {T : List (Nat × Value)} {a : Act} {n : Nat}
theorem fx_enterM {f : FuncId} {fn : Func} {c : Code} {args : Array Value} {R : Ending → World → Prop} {N : Nat × List Deferred} (hf : P.funcs[f]? = some fn) (hb : fn.body = some c) (hN : (fn.ntmps, []) = N) (hle : args.size ≤ N.1) (hT : Args args T)
    (h : ∀ a, Fr N T a → c.wp P (bodyPostM Fence.wide 9 P fn R) a w) : Calls P f args w R := by
  subst hN
  refine (callsIn_wide (n := 9)).1 (callsIn_of_wp_marks hf hb trivial (wpIn_wide.2 (h _ ⟨rfl, ?_, fun t v hl => ?_⟩)) rfl)
  · simp at hle ⊢; omega
  · have := hT.look hl
    have hlt : t < args.size := (Array.getElem?_eq_some_iff.1 this).1
    simp [Array.getElem?_append_left hlt, this]
theorem turn_put {B : Nat} {w : World} {D : Nat} (hB : B ≤ D) (hD : w.heap[D]? = some (.deferred (some []))) : Turn B w (w.putObj D (.deferred none)) :=
  (only_of_grown (grownBy_putObj' w D _)).trans (Only.refl (fun _ => False) _) (fun _ _ h => h.elim) |>.mono fun k _ hk => by
    cases hk
    exact ⟨hB, _, hD, rfl⟩
/-- No mark: as without. -/
theorem fx_retM0 {fn : Func} {R : Ending → World → Prop} (fr : Fr (n, []) T a) (rs : List ResultVar) (vs : List Value) (hr : fn.results = rs.toArray) (h : Res P w T rs vs) {v : Value}
    (hv : (if h : vs.toArray.size = 1 then vs.toArray[0] else .tuple vs.toArray) = v) (hR : R (.returned v) w) : bodyPostM Fence.wide 9 P fn R .ret a w := by
  show LeavesInM _ _ _ _ _ _ a.defers _ _
  rw [fr.df]
  exact ⟨v, by rw [results_run fr hr h, hv], hR⟩
/-- One mark. -/
theorem fx_retM1 {fn : Func} {R : Ending → World → Prop} {B D : Nat} (fr : Fr (n, [{ target := .collected D, args := #[] }]) T a) (hB : B ≤ D) (hD : w.heap[D]? = some (.deferred (some []))) (rs : List ResultVar) (vs : List Value) (hr : fn.results = rs.toArray)
    {v : Value} (hv : (if h : vs.toArray.size = 1 then vs.toArray[0] else .tuple vs.toArray) = v) (hR : ∀ w', Turn B w w' → Res P w' T rs vs ∧ R (.returned v) w') : bodyPostM Fence.wide 9 P fn R .ret a w := by
  show LeavesInM _ _ _ _ _ _ a.defers _ _
  rw [fr.df]
  obtain ⟨h1, h2⟩ := hR _ (turn_put hB hD)
  refine ⟨by simp, .inl ⟨D, _, rfl, run_takeDeferred hD, ?_⟩⟩
  exact ⟨v, by rw [results_run fr hr h1, hv], h2⟩
/-- Two marks. -/
theorem fx_retM2 {fn : Func} {R : Ending → World → Prop} {B D D' : Nat} (fr : Fr (n, [{ target := .collected D', args := #[] }, { target := .collected D, args := #[] }]) T a) (hB : B ≤ D) (hB' : B ≤ D') (hne : D' ≠ D) (hD : w.heap[D]? = some (.deferred (some []))) (hD' : w.heap[D']? = some (.deferred (some [])))
    (rs : List ResultVar) (vs : List Value) (hr : fn.results = rs.toArray) {v : Value} (hv : (if h : vs.toArray.size = 1 then vs.toArray[0] else .tuple vs.toArray) = v) (hR : ∀ w', Turn B w w' → Res P w' T rs vs ∧ R (.returned v) w') : bodyPostM Fence.wide 9 P fn R .ret a w := by
  show LeavesInM _ _ _ _ _ _ a.defers _ _
  rw [fr.df]
  have hD2 : (w.putObj D' (.deferred none)).heap[D]? = some (.deferred (some [])) := (World.putObj_heap_other (fun e => hne e.symm)).trans hD
  have t1 := turn_put hB' hD'
  have t2 := turn_put hB hD2
  have t3 : Turn B w ((w.putObj D' (.deferred none)).putObj D (.deferred none)) := Only.trans t1 t2 fun i hi ⟨hb, o, ho, hc⟩ => by
    by_cases e : i = D'
    · subst e
      exact ⟨hb, _, hD', rfl⟩
    · refine ⟨hb, o, ?_, hc⟩
      rw [← ho]
      exact (World.putObj_heap_other e).symm
  obtain ⟨h1, h2⟩ := hR _ t3
  refine ⟨by simp, .inl ⟨D', _, rfl, run_takeDeferred hD', ?_⟩⟩
  refine ⟨by simp, .inl ⟨D, _, rfl, run_takeDeferred hD2, ?_⟩⟩
  exact ⟨v, by rw [results_run fr hr h1, hv], h2⟩
theorem fx_endM {fn : Func} {R : Ending → World → Prop} (h : bodyPostM Fence.wide 9 P fn R .ret a w) : bodyPostM Fence.wide 9 P fn R .normal a w := h
end

/-! ### Marks as facts -/
def MarkAt (w : World) (D : Nat) : Prop := w.heap[D]? = some (.deferred (some []))
theorem MarkAt.lt {w : World} {D : Nat} (h : MarkAt w D) : D < w.heap.size := (Array.getElem?_eq_some_iff.1 h).1
theorem MarkAt.only {S : Nat → Prop} {w w' : World} {D : Nat} (h : MarkAt w D) (k : Only S w w') (hs : ¬ S D) : MarkAt w' D := (k.block D h.lt hs).trans h
theorem MarkAt.new {w w' : World} {D : Nat} (h : MarkAt w D) (k : New w w') : MarkAt w' D := h.only k id

/-! ### The iterator: at a call of yield -/
section
variable {P : Program} {N : Nat × List Deferred} {T : List (Nat × Value)} {a : Act} {w w1 : World} {Q : Exit → Act → World → Prop} {ops : Array Oper} {rest : List Oper} {o : Oper} {d n : Nat} {v : Value}
theorem fx_sn (h : Q .normal a w) : Exit.noGoto Q .normal a w := h
theorem fx_sr (h : Q .ret a w) : Exit.noGoto Q .ret a w := h
theorem fx_sx {id : Nat} (h : Q (.exit id) a w) : Exit.noGoto Q (.exit id) a w := h
theorem fxi_region {id : Nat} {l : List Oper} (h : wpListIn Fence.wide 8 P l.toArray Q l a w) : (Code.region id l.toArray false).wp P Q a w := (wpIn_wide (n := 8)).1 (wpIn_region_lit h)
theorem fxi_val (fr : Fr N T a) (hw : Region.wanted o (yielded ops a.tmps) = true) (hd : o.dst = some d) (hN : d < N.1) (hrun : (execOp a.eval o).run P w = .ok (.value v) w1)
    (next : ∀ a, Fr N ((d, v) :: T) a → wpListIn Fence.wide n P ops Q rest a w1) : wpListIn Fence.wide n P ops Q (o :: rest) a w := by
  unfold wpListIn
  rw [if_pos hw]
  refine ⟨fun _ _ => trivial, ?_⟩
  show o.uponIn _ n P a _ Q ((o.semAt none a.eval).run P w)
  rw [Oper.semAt_none, hrun]
  refine next _ ?_
  rw [hd]
  exact fr.put d v hN
theorem fxi_skip (fr : Fr N T a) (hw : Region.wanted o (yielded ops a.tmps) = false) (hd : o.dst = some d) (hN : d < N.1)
    (next : ∀ a, Fr N ((d, undef) :: T) a → wpListIn Fence.wide n P ops Q rest a w) : wpListIn Fence.wide n P ops Q (o :: rest) a w := by
  unfold wpListIn
  rw [if_neg (by rw [hw]; exact Bool.false_ne_true)]
  refine ⟨fun _ _ => trivial, next _ ?_⟩
  rw [hd]
  exact fr.put d undef hN
theorem fxi_yield (fr : Fr N T a) (hw : Region.wanted o (yielded ops a.tmps) = true) (hd : o.dst = some d) (hN : d < N.1) {t l : Nat} {x : Operand} {ts : Array TypeId} (ho : o.op = .call { callee := .value (.tmp t), args := #[x], argTypes := ts })
    (hf : a.eval (.tmp t) = .func (.yield l) #[] #[]) (hx : a.eval x = v) {R1 R2 : World → Prop} (hY : YieldAt Fence.wide (n - 1) P l #[v] w fun e W' => (e = .returned (.bool true) ∧ R1 W') ∨ (e = .returned (.bool false) ∧ R2 W'))
    (yes : ∀ w1, R1 w1 → ∀ a, Fr N ((d, .bool true) :: T) a → wpListIn Fence.wide n P ops Q rest a w1) (no : ∀ w1, R2 w1 → ∀ a, Fr N ((d, .bool false) :: T) a → wpListIn Fence.wide n P ops Q rest a w1) : wpListIn Fence.wide n P ops Q (o :: rest) a w := by
  obtain ⟨fn, tmps, assign, body, hy, hR⟩ := hY
  unfold wpListIn
  rw [if_pos hw]
  refine ⟨fun _ _ => trivial, ?_⟩
  show o.uponIn _ n P a _ Q ((o.semAt none a.eval).run P w)
  have hrun : (execOp a.eval o).run P w = .ok (.round l fn tmps assign body) w := by
    simp [execOp, ho, resolve, Deferred.ofValue, hf, hx, invoke, hy]
  rw [Oper.semAt_none, hrun]
  refine ⟨fun hd => (by cases hd), hR.mono ?_⟩
  rintro e W' (⟨rfl, h⟩ | ⟨rfl, h⟩)
  · refine yes W' h _ ?_
    rw [hd]
    exact fr.put d _ hN
  · refine no W' h _ ?_
    rw [hd]
    exact fr.put d _ hN
theorem x_makeFunc {ev : Operand → Value} {fn : Fn} {cap : List Operand} {vs : List Value} (ho : o.op = .makeFunc fn #[] cap.toArray) (hv : Evs ev cap vs) : (execOp ev o).run P w = .ok (.value (.func fn #[] vs.toArray)) w := by
  simp [execOp, ho, Instr.makeFunc, hv.map]
theorem new_below {w w' : World} (h : New w w') : Below w.heap.size w w' := ⟨h.os, h.tape, h.output, h.size, fun k hk => h.block k hk id⟩
theorem below_new {w w' : World} (h : Below w.heap.size w w') : New w w' := ⟨h.os, h.tape, h.output, h.size, fun k hk _ => h.block k hk⟩
end
end Go.Proofs.Ytdjgfkjcpalihaa
