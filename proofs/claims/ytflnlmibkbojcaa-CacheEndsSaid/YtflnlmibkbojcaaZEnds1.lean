/-
  Part 1 of what the claim stands on: walks through the code, plain laws.
-/
import Derived.Test.YtflnlmibkbojcaaProg
import Derived.WalkKit
import Derived.WalkSpells
import Derived.WalkLawsBesides
import Derived.Lib.Hide
import Derived.Laws.CopyOwn
import Derived.Handy
import Derived.Deep.QuietTactic
import Derived.BigQuiet
import Derived.StillTailTactics
import Derived.Deep.RegionWith
import Derived.Deep.DeepFit
import Derived.Deep.DeepMust
import Derived.Deep.DeepCutAuto
import Derived.Deep.RegionHeld3
import Derived.Deep.RegionLaw
import Derived.Deep.MidRow
import Derived.Laws.StructEq
import Derived.OrdersHeld
import Derived.Great.BuildSlice
import Derived.RangeFuncNested
import Derived.RangeFuncBound
import Derived.RangeFuncCalls
import Derived.RangeFuncLeaves
import Derived.Shelf.Abstract
import Derived.Scope
import Derived.OrdersIn
import Derived.Laws.MakeOwn
import Derived.Recover
import Derived.Maps.RangeRun
import Derived.ProofKit
import Derived.OpenShut
import Derived.Deep.Slices
import Derived.Test.YtflnlmibkbojcaaRows
set_option maxRecDepth 100000
set_option maxHeartbeats 4000000
namespace Go.Proofs.Ytflnlmibkbojcaa
open Go.RowKit
structure Only (S : Nat → Prop) (w w' : World) : Prop where
  os : w'.os = w.os
  tape : w'.tape = w.tape
  output : w'.output = w.output
  size : w.heap.size ≤ w'.heap.size
  block : ∀ k, k < w.heap.size → ¬ S k → w'.heap[k]? = w.heap[k]?
abbrev New (w w' : World) : Prop := Only (fun _ => False) w w'
theorem Only.refl (S : Nat → Prop) (w : World) : Only S w w := ⟨rfl, rfl, rfl, Nat.le_refl _, fun _ _ _ => rfl⟩
theorem Only.trans {S T : Nat → Prop} {a b c : World} (h : Only S a b) (k : Only T b c) (hT : ∀ i, i < a.heap.size → T i → S i) : Only S a c :=
  ⟨k.os.trans h.os, k.tape.trans h.tape, k.output.trans h.output, Nat.le_trans h.size k.size, fun i hi hS => (k.block i (Nat.lt_of_lt_of_le hi h.size) (fun ht => hS (hT i hi ht))).trans (h.block i hi hS)⟩
theorem Only.tr {S : Nat → Prop} {a b c : World} (h : Only S a b) (k : Only S b c) : Only S a c := h.trans k fun _ _ h => h
theorem Only.trNew {S : Nat → Prop} {a b c : World} (h : Only S a b) (k : New b c) : Only S a c := h.trans k fun _ _ h => h.elim
theorem Only.mono {S T : Nat → Prop} {w w' : World} (h : Only S w w') (hT : ∀ i, i < w.heap.size → S i → T i) : Only T w w' :=
  ⟨h.os, h.tape, h.output, h.size, fun i hi ht => h.block i hi fun hs => ht (hT i hi hs)⟩
theorem Only.ofNew {S : Nat → Prop} {w w' : World} (h : New w w') : Only S w w' := h.mono fun _ _ h => h.elim
theorem Only.ofGrown {S : Nat → Prop} {w w' : World} {row : Option Nat} (h : w.grownBy w' row) (hS : ∀ k, row = some k → S k) : Only S w w' :=
  ⟨h.os, h.tape, h.output, h.size, fun i hi hs => h.block i hi fun e => hs (hS i e.symm)⟩
theorem Only.alloc {S : Nat → Prop} {a w : World} (h : Only S a w) (o : Obj) : Only S a (w.alloc o) :=
  ⟨h.os, h.tape, h.output, by simp; exact Nat.le_succ_of_le h.size, fun i hi hs => (Below.heap_alloc w o i (Nat.lt_of_lt_of_le hi h.size)).trans (h.block i hi hs)⟩
theorem Only.setCell {S : Nat → Prop} {a w : World} (h : Only S a w) {p : Addr} (hp : p.block < a.heap.size → S p.block) (u : Value) : Only S a (w.setCell p u) :=
  ⟨h.os, h.tape, h.output, by simpa [World.setCell] using h.size, fun i hi hs => (Below.heap_setCell w p u i (fun e => hs (e ▸ hp (e ▸ hi)))).trans (h.block i hi hs)⟩
theorem Only.drew {S : Nat → Prop} {a w : World} (h : Only S a w) : Only S a w.drew := ⟨h.os, h.tape, h.output, h.size, h.block⟩
theorem Only.lt {S : Nat → Prop} {w w' : World} (h : Only S w w') {k : Nat} (hk : k < w.heap.size) : k < w'.heap.size := Nat.lt_of_lt_of_le hk h.size
theorem Only.heap {S : Nat → Prop} {w w' : World} (h : Only S w w') {k : Nat} {o : Obj} (hk : w.heap[k]? = some o) (hS : ¬ S k) : w'.heap[k]? = some o :=
  (h.block k (Array.getElem?_eq_some_iff.1 hk).1 hS).trans hk
theorem Only.cell {S : Nat → Prop} {w w' : World} (h : Only S w w') {p : Addr} {v : Value} (hc : w.cell? p = some v) (hS : ¬ S p.block) : w'.cell? p = some v :=
  (World.cell?_of_block (h.block p.block (World.block_lt_of_cell? w p hc) hS)).trans hc
theorem Only.below {S : Nat → Prop} {w w' : World} (h : Only S w w') {B : Nat} (hB : B ≤ w.heap.size) (hS : ∀ k, k < B → ¬ S k) : Below B w w' :=
  ⟨h.os, h.tape, h.output, h.size, fun k hk => h.block k (by omega) (hS k hk)⟩
theorem Only.nb {w w' : World} (h : New w w') : Below w.heap.size w w' := Only.below h (Nat.le_refl _) fun _ _ h => h
theorem Only.row {S : Nat → Prop} {w w' : World} (h : Only S w w') {base : Nat} {e : TypeId} {size : Nat} {v : Value} {n : Nat} {xs : List Value} (hr : w.ownsRow base e size v n xs)
    (hS : ∀ k, v.ownBlock = some k → ¬ S k) : w'.ownsRow base e size v n xs := by
  refine ⟨hr.1, ?_⟩
  rcases hr.2 with hn | ⟨g, cap, cur, rfl, hb, hgg, rest⟩
  · exact .inl hn
  · exact .inr ⟨g, cap, cur, rfl, hb, h.heap hgg (hS g (by simp [Value.ownBlock])), rest⟩
theorem row_mono {w : World} {base base' : Nat} {e : TypeId} {size : Nat} {v : Value} {n : Nat} {xs : List Value} (hr : w.ownsRow base e size v n xs) (hb : base' ≤ base) : w.ownsRow base' e size v n xs := by
  refine ⟨hr.1, ?_⟩
  rcases hr.2 with hn | ⟨g, cap, cur, rfl, hbg, rest⟩
  · exact .inl hn
  · exact .inr ⟨g, cap, cur, rfl, Nat.le_trans hb hbg, rest⟩
theorem addr_add (b o j : Nat) : (⟨b, o, none⟩ : Addr).add j = ⟨b, o + j, none⟩ := Addr.add_lit b o j
theorem setRow_self' {w : World} {g : Nat} {old cs : Array Value} {t : TypeId} {fr : Nat × Nat} (hg : w.heap[g]? = some (.cells old t fr)) : (w.setRow g cs).heap[g]? = some (.cells cs t fr) := by
  simp [World.setRow, Array.getElem?_modify, hg]
theorem Only.setRow {S : Nat → Prop} {a w : World} (h : Only S a w) {g : Nat} (hp : g < a.heap.size → S g) (cs : Array Value) : Only S a (w.setRow g cs) :=
  ⟨h.os, h.tape, h.output, by simpa [World.setRow] using h.size, fun i hi hs => (setRow_other w g i cs (fun e => hs (e ▸ hp (e ▸ hi)))).trans (h.block i hi hs)⟩
theorem row_lt {w : World} {base : Nat} {e : TypeId} {size : Nat} {g cap n : Nat} {xs : List Value} (h : w.ownsRow base e size (.slice (some ⟨g, 0, none⟩) n cap) n xs) : base ≤ g ∧ g < w.heap.size :=
  h.lt g (by simp [Value.ownBlock])
theorem row_at {w : World} {base : Nat} {e : TypeId} {size : Nat} {g cap n : Nat} {xs : List Value} (h : w.ownsRow base e size (.slice (some ⟨g, 0, none⟩) n cap) n xs) :
    ∃ cur, w.heap[g]? = some (.cells cur e (0, 0)) ∧ n ≤ cap ∧ cap ≤ maxLen ∧ cur.size = cap * size ∧ cur.toList.take (n * size) = xs := by
  rcases h.2 with ⟨h, _⟩ | ⟨g', cap', cur, hv, _, hg, r⟩
  · simp at h
  · simp only [Value.slice.injEq, Option.some.injEq, Addr.mk.injEq] at hv
    obtain ⟨⟨rfl, _⟩, _, rfl⟩ := hv
    exact ⟨cur, hg, r⟩
theorem row_mk {w : World} {base : Nat} {e : TypeId} {size : Nat} {g cap n : Nat} {xs : List Value} {cur : Array Value} (hb : base ≤ g) (hg : w.heap[g]? = some (.cells cur e (0, 0))) (hn : n ≤ cap) (hc : cap ≤ maxLen)
    (hs : cur.size = cap * size) (ht : cur.toList.take (n * size) = xs) : w.ownsRow base e size (.slice (some ⟨g, 0, none⟩) n cap) n xs := by
  refine ⟨?_, .inr ⟨g, cap, cur, rfl, hb, hg, hn, hc, hs, ht⟩⟩
  rw [← ht, List.length_take, Array.length_toList, hs]
  exact Nat.min_eq_left (Nat.mul_le_mul_right _ hn)
theorem row_some {w : World} {base : Nat} {e : TypeId} {size : Nat} {v : Value} {n : Nat} {xs : List Value} (h : w.ownsRow base e size v n xs) (hn : 0 < n) : ∃ g cap, v = .slice (some ⟨g, 0, none⟩) n cap := by
  rcases h.2 with ⟨_, h⟩ | ⟨g, cap, cur, hv, _⟩
  · omega
  · exact ⟨g, cap, hv⟩
theorem row_cell {w : World} {base : Nat} {e : TypeId} {size : Nat} {g cap n : Nat} {xs : List Value} (h : w.ownsRow base e size (.slice (some ⟨g, 0, none⟩) n cap) n xs) {j : Nat} (hj : j < n * size) : w.cell? ⟨g, j, none⟩ = xs[j]? := h.cellAt j hj
theorem head_cell {w : World} {b : Nat} {cs : Array Value} {t : TypeId} {fr : Nat × Nat} (h : w.heap[b]? = some (.cells cs t fr)) (i : Nat) : w.cell? ⟨b, i, none⟩ = cs[i]? := by
  simp [World.cell?, h]
theorem head_free {w : World} {b : Nat} {cs : Array Value} {t : TypeId} (h : w.heap[b]? = some (.cells cs t (0, 0))) (i : Nat) : w.frozen? ⟨b, i, none⟩ = false := by
  simp [World.frozen?, h]
theorem setCell_at {w : World} {b : Nat} {cs : Array Value} {t : TypeId} {fr : Nat × Nat} (h : w.heap[b]? = some (.cells cs t fr)) (i : Nat) (v : Value) : (w.setCell ⟨b, i, none⟩ v).heap[b]? = some (.cells (cs.setIfInBounds i v) t fr) := by
  simp [World.setCell, Array.getElem?_modify, h]
def upd (cur : Array Value) (o : Nat) (l : List Value) : Array Value := (cur.toList.take o ++ (l ++ cur.toList.drop (o + l.length))).toArray
theorem size_upd (cur : Array Value) (o : Nat) (l : List Value) (h : o + l.length ≤ cur.size) : (upd cur o l).size = cur.size := by
  simp [upd]
  omega
end Go.Proofs.Ytflnlmibkbojcaa
namespace Go.Proofs.Ytflnlmibkbojcaa
open Go.RowKit
def dstAt (ops : Array Oper) (j : Nat) : Option Tmp := (ops[j]?).bind (·.dst)
theorem getD_put_same {a : Act} {d : Tmp} {v : Value} (h : d < a.tmps.size) : (a.put (some d) v).tmps.getD d undef = v := by
  simp [Act.put, h]
theorem getD_put_other {a : Act} {d t : Tmp} {v : Value} (h : d ≠ t) : (a.put (some d) v).tmps.getD t undef = a.tmps.getD t undef := by
  simp [Act.put, h]
section
variable {P : Program} {ops : Array Oper} {S : World → Prop} {Ext : World → World → Prop} {F : Tmp → Value → World → Prop}
theorem yielded_of {a : Act} {j : Nat} {t : Tmp} {b : Bool} (hj : dstAt ops j = some t) (h : a.tmps.getD t undef = .bool b) : yielded ops a.tmps j = some b := by
  unfold yielded
  unfold dstAt at hj
  rw [hj]
  have : a.tmps[t]? = some (.bool b) := by
    cases hq : a.tmps[t]? with
    | none => simp [hq, undef] at h
    | some v => simp [hq] at h; rw [h]
  simp [this]
end
end Go.Proofs.Ytflnlmibkbojcaa
namespace Go.Proofs.Ytflnlmibkbojcaa
open Go.RowKit
def look : List (Nat × Value) → Nat → Option Value
  | [], _ => none
  | (k, v) :: r, t => bif Nat.beq k t then some v else look r t
theorem look_cons (k : Nat) (v : Value) (r : List (Nat × Value)) (t : Nat) : look ((k, v) :: r) t = if k = t then some v else look r t := by
  show (bif Nat.beq k t then some v else look r t) = _
  by_cases h : k = t
  · subst h; simp
  · rw [if_neg h]
    have : Nat.beq k t = false := by
      cases hq : Nat.beq k t with
      | false => rfl
      | true => exact absurd (Nat.eq_of_beq_eq_true hq) h
    rw [this]; rfl
structure Fr (N : Nat × List Deferred) (T : List (Nat × Value)) (a : Act) : Prop where
  df : a.defers = N.2
  sz : a.tmps.size = N.1
  get : ∀ t v, look T t = some v → a.tmps.getD t undef = v
def Sub (T : List (Nat × Value)) : List (Nat × Value) → Prop
  | [] => True
  | (t, v) :: r => look T t = some v ∧ Sub T r
section
variable {N : Nat × List Deferred} {T T' : List (Nat × Value)} {a : Act}
theorem Sub.look (h : Sub T T') {t : Nat} {v : Value} (hl : Go.Proofs.Ytflnlmibkbojcaa.look T' t = some v) : Go.Proofs.Ytflnlmibkbojcaa.look T t = some v := by
  induction T' with
  | nil => simp [Go.Proofs.Ytflnlmibkbojcaa.look] at hl
  | cons p r ih =>
    obtain ⟨k, u⟩ := p
    rw [look_cons] at hl
    by_cases hk : k = t
    · rw [if_pos hk] at hl
      obtain rfl : u = v := by simpa using hl
      rw [← hk]
      exact h.1
    · rw [if_neg hk] at hl
      exact ih h.2 hl
theorem Fr.sub (fr : Fr N T a) (h : Sub T T') : Fr N T' a := ⟨fr.df, fr.sz, fun t v hl => fr.get t v (h.look hl)⟩
theorem Fr.ev (fr : Fr N T a) {t : Nat} {v : Value} (h : look T t = some v) : a.eval (.tmp t) = v := fr.get t v h
theorem Fr.put (fr : Fr N T a) (d : Nat) (v : Value) (hd : d < N.1) : Fr N ((d, v) :: T) (a.put (some d) v) := by
  refine ⟨fr.df, by simpa [Act.put] using fr.sz, fun t u hl => ?_⟩
  rw [look_cons] at hl
  by_cases hk : d = t
  · rw [if_pos hk] at hl
    subst hk
    rw [getD_put_same (by rw [fr.sz]; exact hd)]
    simpa using hl
  · rw [if_neg hk] at hl
    rw [getD_put_other hk]
    exact fr.get t u hl
def Args (args : Array Value) : List (Nat × Value) → Prop
  | [] => True
  | (t, v) :: r => args[t]? = some v ∧ Args args r
theorem Args.look {args : Array Value} (h : Args args T) {t : Nat} {v : Value} (hl : Go.Proofs.Ytflnlmibkbojcaa.look T t = some v) : args[t]? = some v := by
  induction T with
  | nil => simp [Go.Proofs.Ytflnlmibkbojcaa.look] at hl
  | cons p r ih =>
    obtain ⟨k, u⟩ := p
    rw [look_cons] at hl
    by_cases hk : k = t
    · rw [if_pos hk] at hl
      obtain rfl : u = v := by simpa using hl
      rw [← hk]
      exact h.1
    · rw [if_neg hk] at hl
      exact ih h.2 hl
end
def Ret (R : Value → World → Prop) (e : Ending) (w : World) : Prop := ∃ v, e = .returned v ∧ R v w
section
variable {P : Program} {N : Nat × List Deferred} {T : List (Nat × Value)} {a : Act} {w w1 : World} {Q : Exit → Act → World → Prop} {ops : Array Oper} {rest : List Oper} {o : Oper} {d : Nat} {v : Value}
theorem fx_enter {f : FuncId} {fn : Func} {c : Code} {args : Array Value} {R : Ending → World → Prop} (hf : P.funcs[f]? = some fn) (hb : fn.body = some c) (hN : (fn.ntmps, []) = N) (hle : args.size ≤ N.1) (hT : Args args T)
    (h : ∀ a, Fr N T a → c.wp P (bodyPost P fn R) a w) : Calls P f args w R := by
  subst hN
  refine calls_of_wp hf hb (h _ ⟨rfl, ?_, fun t v hl => ?_⟩)
  · simp at hle ⊢; omega
  · have := hT.look hl
    have hlt : t < args.size := (Array.getElem?_eq_some_iff.1 this).1
    simp [Array.getElem?_append_left hlt, this]
theorem Fr.want (fr : Fr N T a) {j t : Nat} {b : Bool} (hg : o.guard = some (j, b)) (hj : dstAt ops j = some t) (h : look T t = some (.bool b)) : Region.wanted o (yielded ops a.tmps) = true := by
  simp [Region.wanted, hg, yielded_of hj (fr.get t _ h)]
theorem Fr.unwant (fr : Fr N T a) {j t : Nat} {b c : Bool} (hg : o.guard = some (j, b)) (hj : dstAt ops j = some t) (h : look T t = some (.bool c)) (hne : c ≠ b) : Region.wanted o (yielded ops a.tmps) = false := by
  simp [Region.wanted, hg, yielded_of hj (fr.get t _ h), hne]
theorem Fr.unwant_u (fr : Fr N T a) {j t : Nat} {b : Bool} (hg : o.guard = some (j, b)) (hj : dstAt ops j = some t) (h : look T t = some undef) : Region.wanted o (yielded ops a.tmps) = false := by
  have h := fr.get t _ h
  have hy : yielded ops a.tmps j = none := by
    unfold yielded
    unfold dstAt at hj
    rw [hj]
    cases hq : a.tmps[t]? with
    | none => simp [hq]
    | some v => simp [hq] at h; subst h; simp [hq, undef]
  simp [Region.wanted, hg, hy]
theorem fx_val (fr : Fr N T a) (hw : Region.wanted o (yielded ops a.tmps) = true) (hd : o.dst = some d) (hN : d < N.1) (hrun : (execOp a.eval o).run P w = .ok (.value v) w1)
    (next : ∀ a, Fr N ((d, v) :: T) a → wpList P ops Q rest a w1) : wpList P ops Q (o :: rest) a w :=
  wpList_step fun K hK => by
    rw [if_pos hw]
    unfold Oper.wp
    rw [hrun]
    refine hK _ _ (next _ ?_)
    rw [hd]
    exact fr.put d v hN
theorem fx_skip (fr : Fr N T a) (hw : Region.wanted o (yielded ops a.tmps) = false) (hd : o.dst = some d) (hN : d < N.1)
    (next : ∀ a, Fr N ((d, undef) :: T) a → wpList P ops Q rest a w) : wpList P ops Q (o :: rest) a w :=
  wpList_step fun K hK => by
    rw [if_neg (by rw [hw]; exact Bool.false_ne_true)]
    refine hK _ _ (next _ ?_)
    rw [hd]
    exact fr.put d undef hN
theorem fx_eff (hw : Region.wanted o (yielded ops a.tmps) = true) (hd : o.dst = none) (hrun : (execOp a.eval o).run P w = .ok .skip w1) (next : wpList P ops Q rest a w1) : wpList P ops Q (o :: rest) a w :=
  wpList_step fun K hK => by
    rw [if_pos hw]
    unfold Oper.wp
    rw [hrun]
    refine hK _ _ ?_
    rw [hd]
    exact next
theorem fx_call (fr : Fr N T a) (hw : Region.wanted o (yielded ops a.tmps) = true) (hd : o.dst = some d) (hN : d < N.1) {f : FuncId} {args : Array Value} (hrun : (execOp a.eval o).run P w = .ok (.enter f args) w) {R : Value → World → Prop}
    (hc : Calls P f args w (Ret R)) (next : ∀ v w1, R v w1 → ∀ a, Fr N ((d, v) :: T) a → wpList P ops Q rest a w1) : wpList P ops Q (o :: rest) a w :=
  wpList_step fun K hK => by
    rw [if_pos hw]
    unfold Oper.wp
    rw [hrun]
    refine hc.mono fun e w' ⟨v, he, hr⟩ => ?_
    subst he
    refine hK _ _ (next v w' hr _ ?_)
    rw [hd]
    exact fr.put d v hN
theorem fx_cond {x y : Code} {t : Nat} {b : Bool} (fr : Fr N T a) (hc : look T t = some (.bool b)) (ht : b = true → x.wp P Q a w) (hf : b = false → y.wp P Q a w) : (Code.cond (.tmp t) x y).wp P Q a w :=
  wp_cond_split (fr.ev hc) ht hf
theorem fx_cond_t {x y : Code} {t : Nat} (fr : Fr N T a) (hc : look T t = some (.bool true)) (h : x.wp P Q a w) : (Code.cond (.tmp t) x y).wp P Q a w := wp_cond_true (fr.ev hc) h
theorem fx_cond_f {x y : Code} {t : Nat} (fr : Fr N T a) (hc : look T t = some (.bool false)) (h : y.wp P Q a w) : (Code.cond (.tmp t) x y).wp P Q a w := wp_cond_false (fr.ev hc) h
theorem fx_next {K : Act → World → Prop} (h : K a w) : Exit.then K Q .normal a w := h
theorem fx_blk {id : Nat} (h : Q .normal a w) : Exit.inBlock id Q .normal a w := h
theorem fx_xt {id : Nat} {K : Act → World → Prop} (h : Q (.exit id) a w) : Exit.then K Q (.exit id) a w := h
theorem fx_xb {id j : Nat} (hne : id ≠ j) (h : Q (.exit id) a w) : Exit.inBlock j Q (.exit id) a w := by
  show (if id = j then Q .normal a w else Q (.exit id) a w)
  rw [if_neg hne]; exact h
theorem fx_xx {id : Nat} (h : Q .normal a w) : Exit.inBlock id Q (.exit id) a w := by
  show (if id = id then Q .normal a w else Q (.exit id) a w)
  rw [if_pos rfl]; exact h
theorem fx_rt {K : Act → World → Prop} (h : Q .ret a w) : Exit.then K Q .ret a w := h
theorem fx_rb {id : Nat} (h : Q .ret a w) : Exit.inBlock id Q .ret a w := h
theorem exists_min (p : Nat → Prop) : ∀ n, p n → ∃ m, p m ∧ ∀ k, p k → m ≤ k := by
  intro n
  induction n using Nat.strongRecOn with
  | _ n ih =>
    intro hn
    by_cases h : ∃ k, k < n ∧ p k
    · obtain ⟨k, hk, hp⟩ := h
      exact ih k hk hp
    · refine ⟨n, hn, fun k hk => ?_⟩
      rcases Nat.lt_or_ge k n with hlt | hge
      · exact absurd ⟨k, hlt, hk⟩ h
      · exact hge
open Classical in
noncomputable def leastOf (p : Nat → Prop) : Nat := if h : ∃ m, p m ∧ ∀ k, p k → m ≤ k then h.choose else 0
theorem leastOf_spec {p : Nat → Prop} {n : Nat} (h : p n) : p (leastOf p) ∧ ∀ k, p k → leastOf p ≤ k := by
  have hm := exists_min p n h
  unfold leastOf
  rw [dif_pos hm]
  exact hm.choose_spec
theorem fx_loop {c : Code} (I : Nat → Act → World → Prop) {n0 : Nat} (h0 : I n0 a w) (round : ∀ n a w, I n a w → c.wp P (Exit.then (fun a' w' => ∃ m, m < n ∧ I m a' w') Q) a w) : (Code.loop c).wp P Q a w := by
  refine wp_loop (fun a w => ∃ n, I n a w) (fun a w => leastOf fun n => I n a w) ⟨n0, h0⟩ fun a w h => ?_
  obtain ⟨n, hn⟩ := h
  have hs := leastOf_spec (p := fun n => I n a w) hn
  refine Code.wp_mono ?_ (round _ a w hs.1)
  intro e a' w' he
  cases e with
  | normal =>
    obtain ⟨m, hm, hI⟩ := he
    exact ⟨⟨m, hI⟩, Nat.lt_of_le_of_lt ((leastOf_spec (p := fun n => I n a' w') hI).2 m hI) hm⟩
  | _ => exact he
theorem fx_join {x y : Code} (J : Act → World → Prop) (h1 : x.wp P (Exit.then J Q) a w) (h2 : ∀ a w, J a w → y.wp P Q a w) : (Code.seq x y).wp P Q a w := by
  refine wp_seq (Code.wp_mono ?_ h1)
  intro e a' w' he
  cases e with
  | normal => exact h2 a' w' he
  | _ => exact he
def Res (P : Program) (w : World) (T : List (Nat × Value)) : List ResultVar → List Value → Prop
  | [], [] => True
  | .tmp t :: r, v :: vs => look T t = some v ∧ Res P w T r vs
  | .cell t ty :: r, v :: vs => (∃ ad, look T t = some (.pointer (some ad)) ∧ (loadVar ty ad).run P w = .ok v w) ∧ Res P w T r vs
  | _, _ => False
theorem run_asAddr' (ad : Addr) : (asAddr (.pointer (some ad))).run P w = .ok ad w := rfl
theorem res_run (fr : Fr N T a) (f : ResultVar → Sem Value) (hf1 : ∀ t, f (.tmp t) = pure (a.tmps.getD t undef)) (hf2 : ∀ t ty, f (.cell t ty) = (do loadVar ty (← asAddr (a.tmps.getD t undef)))) :
    ∀ (rs : List ResultVar) (vs : List Value), Res P w T rs vs → (rs.mapM f).run P w = .ok vs w
  | [], [], _ => by simp
  | .tmp t :: r, v :: vs, h => by
    have h1 := fr.get t v h.1
    have := res_run fr f hf1 hf2 r vs h.2
    simp only [List.mapM_cons, Sem.run_bind, Sem.run_pure, Result.andThen_ok, hf1, h1, this]
  | .cell t ty :: r, v :: vs, h => by
    obtain ⟨⟨ad, h1, h2⟩, h3⟩ := h
    have h1 := fr.get t _ h1
    have := res_run fr f hf1 hf2 r vs h3
    simp only [List.mapM_cons, Sem.run_bind, Sem.run_pure, Result.andThen_ok, hf2, h1, run_asAddr', h2, this]
  | [], _ :: _, h => h.elim
  | .tmp _ :: _, [], h => h.elim
  | .cell _ _ :: _, [], h => h.elim
theorem results_run (fr : Fr N T a) {fn : Func} {rs : List ResultVar} {vs : List Value} (hr : fn.results = rs.toArray) (h : Res P w T rs vs) :
    (results fn a.tmps).run P w = .ok (if h : vs.toArray.size = 1 then vs.toArray[0] else .tuple vs.toArray) w := by
  unfold results
  rw [hr, List.mapM_toArray]
  simp only [Sem.run_bind, Sem.run_map]
  rw [res_run fr _ (fun _ => rfl) (fun _ _ => rfl) rs vs h]
  rfl
theorem fx_ret {n : Nat} {fn : Func} {R : Ending → World → Prop} (fr : Fr (n, []) T a) (rs : List ResultVar) (vs : List Value) (hr : fn.results = rs.toArray) (h : Res P w T rs vs) {v : Value}
    (hv : (if h : vs.toArray.size = 1 then vs.toArray[0] else .tuple vs.toArray) = v) (hR : R (.returned v) w) : bodyPost P fn R .ret a w :=
  ⟨fr.df, v, by rw [results_run fr hr h, hv], hR⟩
theorem fx_end {n : Nat} {fn : Func} {R : Ending → World → Prop} (fr : Fr (n, []) T a) (rs : List ResultVar) (vs : List Value) (hr : fn.results = rs.toArray) (h : Res P w T rs vs) {v : Value}
    (hv : (if h : vs.toArray.size = 1 then vs.toArray[0] else .tuple vs.toArray) = v) (hR : R (.returned v) w) : bodyPost P fn R .normal a w :=
  ⟨fr.df, v, by rw [results_run fr hr h, hv], hR⟩
end
end Go.Proofs.Ytflnlmibkbojcaa
namespace Go.Proofs.Ytflnlmibkbojcaa
open Go.RowKit
section
variable {P : Program} {w : World} {ev : Operand → Value} {o : Oper} {x y z : Operand} {k : IntKind} {m n r : Int} {v u : Value}
theorem x_move (ho : o.op = .move x) (hx : ev x = v) : (execOp ev o).run P w = .ok (.value v) w := by simp [execOp, ho, hx]
theorem x_assign (ho : o.op = .assign x) (hx : ev x = v) : (execOp ev o).run P w = .ok (.value v) w := by simp [execOp, ho, hx]
theorem x_extract {vs : Array Value} {i : Nat} (ho : o.op = .extract x i) (hx : ev x = .tuple vs) (hi : vs[i]? = some v) : (execOp ev o).run P w = .ok (.value v) w := by
  simp [execOp, ho, hx, Instr.extract, hi]
theorem x_pick_t (ho : o.op = .pick x y z) (hx : ev x = .bool true) (hy : ev y = v) : (execOp ev o).run P w = .ok (.value v) w := by simp [execOp, ho, hx, hy, asBool]
theorem x_pick_f (ho : o.op = .pick x y z) (hx : ev x = .bool false) (hy : ev z = v) : (execOp ev o).run P w = .ok (.value v) w := by simp [execOp, ho, hx, hy, asBool]
theorem x_not {T : TypeId} {b c : Bool} (ho : o.op = .unOp .not T x) (hx : ev x = .bool b) (hc : (!b) = c) : (execOp ev o).run P w = .ok (.value (.bool c)) w := by
  subst hc
  simp [go_sem, execOp, ho, hx]
theorem x_nilCheck {a : Addr} (ho : o.op = .nilCheck x) (hx : ev x = .pointer (some a)) : (execOp ev o).run P w = .ok (.value (.pointer (some a))) w := by simp [execOp, ho, hx]
section
variable {T T' : TypeId}
theorem x_eql (ho : o.op = .binOp .eql T x y T') (hx : ev x = .int k m) (hy : ev y = .int k n) {b : Bool} (hb : decide (m = n) = b) : (execOp ev o).run P w = .ok (.value (.bool b)) w := by
  subst hb; simp [go_sem, execOp, ho, hx, hy, eqGuard, binOp, Op.intCmp]; rfl
theorem x_neq (ho : o.op = .binOp .neq T x y T') (hx : ev x = .int k m) (hy : ev y = .int k n) {b : Bool} (hb : decide (m ≠ n) = b) : (execOp ev o).run P w = .ok (.value (.bool b)) w := by
  subst hb; simp [go_sem, execOp, ho, hx, hy, eqGuard, binOp, Op.intCmp]; rfl
theorem x_lss (ho : o.op = .binOp .lss T x y T') (hx : ev x = .int k m) (hy : ev y = .int k n) {b : Bool} (hb : decide (m < n) = b) : (execOp ev o).run P w = .ok (.value (.bool b)) w := by
  subst hb; simp [go_sem, execOp, ho, hx, hy, eqGuard, binOp, Op.intCmp]
theorem x_leq (ho : o.op = .binOp .leq T x y T') (hx : ev x = .int k m) (hy : ev y = .int k n) {b : Bool} (hb : decide (m ≤ n) = b) : (execOp ev o).run P w = .ok (.value (.bool b)) w := by
  subst hb; simp [go_sem, execOp, ho, hx, hy, eqGuard, binOp, Op.intCmp]
theorem x_gtr (ho : o.op = .binOp .gtr T x y T') (hx : ev x = .int k m) (hy : ev y = .int k n) {b : Bool} (hb : decide (n < m) = b) : (execOp ev o).run P w = .ok (.value (.bool b)) w := by
  subst hb; simp [go_sem, execOp, ho, hx, hy, eqGuard, binOp, Op.intCmp]
theorem x_geq (ho : o.op = .binOp .geq T x y T') (hx : ev x = .int k m) (hy : ev y = .int k n) {b : Bool} (hb : decide (n ≤ m) = b) : (execOp ev o).run P w = .ok (.value (.bool b)) w := by
  subst hb; simp [go_sem, execOp, ho, hx, hy, eqGuard, binOp, Op.intCmp]
theorem x_add (ho : o.op = .binOp .add T x y T') (hx : ev x = .int k m) (hy : ev y = .int k n) (hr : k.wrap (m + n) = r) : (execOp ev o).run P w = .ok (.value (.int k r)) w := by
  subst hr; simp [execOp, ho, hx, hy, eqGuard, binOp, Op.intArith]
theorem x_sub (ho : o.op = .binOp .sub T x y T') (hx : ev x = .int k m) (hy : ev y = .int k n) (hr : k.wrap (m - n) = r) : (execOp ev o).run P w = .ok (.value (.int k r)) w := by
  subst hr; simp [execOp, ho, hx, hy, eqGuard, binOp, Op.intArith]
theorem x_mul (ho : o.op = .binOp .mul T x y T') (hx : ev x = .int k m) (hy : ev y = .int k n) (hr : k.wrap (m * n) = r) : (execOp ev o).run P w = .ok (.value (.int k r)) w := by
  subst hr; simp [execOp, ho, hx, hy, eqGuard, binOp, Op.intArith]
theorem x_rem (ho : o.op = .binOp .rem T x y T') (hx : ev x = .int k m) (hy : ev y = .int k n) (h0 : n ≠ 0) (hr : m.tmod n = r) : (execOp ev o).run P w = .ok (.value (.int k r)) w := by
  subst hr; simp [execOp, ho, hx, hy, eqGuard, binOp, Op.intDiv, h0]
theorem x_quo (ho : o.op = .binOp .quo T x y T') (hx : ev x = .int k m) (hy : ev y = .int k n) (h0 : n ≠ 0) (hr : k.wrap (m.tdiv n) = r) : (execOp ev o).run P w = .ok (.value (.int k r)) w := by
  subst hr; simp [execOp, ho, hx, hy, eqGuard, binOp, Op.intDiv, h0]
theorem x_beql {b c d : Bool} (hT : P.underlying T = some .bool) (ho : o.op = .binOp .eql T x y T') (hx : ev x = .bool b) (hy : ev y = .bool c) (hd : (b == c) = d) : (execOp ev o).run P w = .ok (.value (.bool d)) w := by
  subst hd; simp [go_sem, execOp, ho, hx, hy, eqGuard, binOp, Op.equal, Op.maxDepth, hT]
theorem run_equal_ptr {E : TypeId} {p : Option Addr} (hT : P.underlying T = some (.pointer E)) : (Op.equal T (.pointer p) (.pointer none)).run P w = .ok p.isNone w := by
  show (Op.equalIn (9999 + 1) T (.pointer p) (.pointer none)).run P w = _
  unfold Op.equalIn
  simp only [Sem.run_bind, run_underlying hT, Result.andThen_ok]
  cases p <;> simp
theorem run_equal_slice {E : TypeId} {p : Option Addr} {l c : Nat} (hT : P.underlying T = some (.slice E)) : (Op.equal T (.slice p l c) (.slice none 0 0)).run P w = .ok p.isNone w := by
  show (Op.equalIn (9999 + 1) T (.slice p l c) (.slice none 0 0)).run P w = _
  unfold Op.equalIn
  simp only [Sem.run_bind, run_underlying hT, Result.andThen_ok]
  cases p <;> simp
theorem x_eq_of {u v : Value} {b : Bool} (ho : o.op = .binOp .eql T x y T') (hx : ev x = u) (hy : ev y = v) (hg : (eqGuard .eql T x y u v).run P w = .ok () w) (hbin : binOp .eql T u v = (do pure (.bool (← Op.equal T u v)))) (he : (Op.equal T u v).run P w = .ok b w) :
    (execOp ev o).run P w = .ok (.value (.bool b)) w := by
  simp only [execOp, ho, hx, hy, hbin, Sem.run_bind, hg, he, Result.andThen_ok, Sem.run_pure]
theorem x_ne_of {u v : Value} {b c : Bool} (ho : o.op = .binOp .neq T x y T') (hx : ev x = u) (hy : ev y = v) (hg : (eqGuard .neq T x y u v).run P w = .ok () w) (hbin : binOp .neq T u v = (do pure (.bool (!(← Op.equal T u v))))) (he : (Op.equal T u v).run P w = .ok b w) (hc : (!b) = c) :
    (execOp ev o).run P w = .ok (.value (.bool c)) w := by
  subst hc
  simp only [execOp, ho, hx, hy, hbin, Sem.run_bind, hg, he, Result.andThen_ok, Sem.run_pure]
theorem x_peql {E : TypeId} {p : Option Addr} {b : Bool} (hT : P.underlying T = some (.pointer E)) (ho : o.op = .binOp .eql T x y T') (hx : ev x = .pointer p) (hy : ev y = .pointer none) (hb : p.isNone = b) : (execOp ev o).run P w = .ok (.value (.bool b)) w := by
  subst hb; exact x_eq_of ho hx hy (by simp [eqGuard]) (by cases p <;> rfl) (run_equal_ptr hT)
theorem x_pneq {E : TypeId} {p : Option Addr} {b : Bool} (hT : P.underlying T = some (.pointer E)) (ho : o.op = .binOp .neq T x y T') (hx : ev x = .pointer p) (hy : ev y = .pointer none) (hb : (!p.isNone) = b) : (execOp ev o).run P w = .ok (.value (.bool b)) w :=
  x_ne_of ho hx hy (by simp [eqGuard]) (by cases p <;> rfl) (run_equal_ptr hT) hb
theorem x_seql {E : TypeId} {p : Option Addr} {l c : Nat} {b : Bool} (hT : P.underlying T = some (.slice E)) (ho : o.op = .binOp .eql T x y T') (hx : ev x = .slice p l c) (hy : ev y = .slice none 0 0) (hb : p.isNone = b) : (execOp ev o).run P w = .ok (.value (.bool b)) w := by
  subst hb; exact x_eq_of ho hx hy (by simp [eqGuard]) rfl (run_equal_slice hT)
end
def fieldOff (P : Program) (t f : Nat) : Option Nat :=
  match P.underlying t with
  | some (.struct fs) => match fs[f]? with
    | some fd => match (P.info? fd.type).map (·.size) with
      | some (_ + 1) => some fd.offset
      | _ => none
    | none => none
  | _ => none
theorem x_fieldAddr {t f off g q : Nat} (hf : fieldOff P t f = some off) (ho : o.op = .fieldAddr t x f) (hx : ev x = .pointer (some ⟨g, q, none⟩)) {q' : Nat} (hq : q + off = q') : (execOp ev o).run P w = .ok (.value (.pointer (some ⟨g, q', none⟩))) w := by
  subst hq
  unfold fieldOff at hf
  cases h1 : P.underlying t with
  | none => simp [h1] at hf
  | some dsc =>
    cases dsc with
    | struct fs =>
      simp only [h1] at hf
      cases h2 : fs[f]? with
      | none => simp [h2] at hf
      | some fd =>
        simp only [h2] at hf
        cases h3 : P.info? fd.type with
        | none => simp [h3] at hf
        | some i =>
          simp only [h3, Option.map_some] at hf
          cases h4 : i.size with
          | zero => rw [h4] at hf; simp at hf
          | succ s =>
            rw [h4] at hf
            simp only [Option.some.injEq] at hf
            subst hf
            simp [execOp, ho, hx, Instr.fieldAt, run_underlying h1, h2, Instr.sureAddr, fieldPlace, sizeOf, typeInfo, h3, h4, Addr.add_mid]
    | _ => simp [h1] at hf
theorem x_indexAddr {t e s g q l c j : Nat} (hu : P.underlying t = some (.slice e)) (hs : (P.info? e).map (·.size) = some s) (ho : o.op = .indexAddr t x y) (hx : ev x = .slice (some ⟨g, q, none⟩) l c) (hy : ev y = .int k ((j : Nat) : Int)) (hj : j < l)
    {q' : Nat} (hq : q + j * s = q') : (execOp ev o).run P w = .ok (.value (.pointer (some ⟨g, q', none⟩))) w := by
  subst hq
  cases h3 : P.info? e with
  | none => simp [h3] at hs
  | some i =>
    simp only [h3, Option.map_some, Option.some.injEq] at hs
    simp [execOp, ho, hx, hy, Instr.indexAt, run_underlying hu, asIntOf, sizeOf, typeInfo, h3, hs, Addr.add_mid, hj]
theorem x_len {t e : TypeId} {p : Option Addr} {l c : Nat} (hu : P.underlying t = some (.slice e)) (ho : o.op = .call { callee := .builtin .len, args := #[x], argTypes := #[t] }) (hx : ev x = .slice p l c) : (execOp ev o).run P w = .ok (.value (.int .i64 (l : Int))) w := by
  simp [go_sem, execOp, ho, hx, resolve, invoke, builtin, Builtin.len_, run_underlying hu]
theorem x_load {t : TypeId} {ad : Addr} (ho : o.op = .load t x) (hx : ev x = .pointer (some ad)) (h : (Instr.loadAt t (.pointer (some ad))).run P w = .ok v w) : (execOp ev o).run P w = .ok (.value v) w := by
  simp [execOp, ho, hx, h]
def plainT (P : Program) (t : Nat) : Bool := match P.underlying t with | some (.struct _) => false | some (.array _ _) => false | some _ => true | none => false
theorem run_load_one {t : TypeId} {ad : Addr} (ht : plainT P t = true) (hc : w.cell? ad = some v) : (Instr.loadAt t (.pointer (some ad))).run P w = .ok v w := by
  have h1 : (isAgg t).run P w = .ok false w := by
    unfold plainT at ht
    unfold isAgg
    cases h : P.underlying t with
    | none => simp [h] at ht
    | some d => rw [Sem.run_bind, run_underlying h w]; cases d <;> simp_all
  simp [Instr.loadAt, Instr.sureAddr, loadVar, h1, run_load, hc]
theorem x_load1 {t : TypeId} {ad : Addr} (ht : plainT P t = true) (ho : o.op = .load t x) (hx : ev x = .pointer (some ad)) (hc : w.cell? ad = some v) : (execOp ev o).run P w = .ok (.value v) w := x_load ho hx (run_load_one ht hc)
def aggT (P : Program) (t n : Nat) : Bool := (match P.underlying t with | some d => d.isRow | none => false) && ((P.info? t).map (·.size) == some n)
theorem aggT_spec {t n : Nat} (h : aggT P t n = true) : ∃ d, P.underlying t = some d ∧ d.isRow = true ∧ (P.info? t).map (·.size) = some n := by
  unfold aggT at h
  cases h1 : P.underlying t with
  | none => simp [h1] at h
  | some d =>
    rw [h1, Bool.and_eq_true] at h
    exact ⟨d, rfl, h.1, by simpa using h.2⟩
theorem x_loadS {t n : Nat} {g q : Nat} {cs : Array Value} (ht : aggT P t n = true) (ho : o.op = .load t x) (hx : ev x = .pointer (some ⟨g, q, none⟩)) (hn : cs.size = n) (hc : w.rangeAt g q cs.toList) : (execOp ev o).run P w = .ok (.value (.agg cs)) w := by
  obtain ⟨d, h1, h2, h3⟩ := aggT_spec ht
  have := run_loadAt_mid (P := P) w g q t cs.toList d hc h1 h2 (by rw [h3, ← hn]; simp)
  rw [Array.toArray_toList] at this
  exact x_load ho hx this
theorem x_loadV {t n : Nat} {g q : Nat} {cs : Array Value} (ht : aggT P t n = true) (hn : cs.size = n) (hc : w.rangeAt g q cs.toList) : (loadVar t ⟨g, q, none⟩).run P w = .ok (.agg cs) w := by
  obtain ⟨d, h1, h2, h3⟩ := aggT_spec ht
  have := run_loadVar_mid (P := P) w g q t cs.toList d hc h1 h2 (by rw [h3, ← hn]; simp)
  rwa [Array.toArray_toList] at this
theorem x_build {t : TypeId} {parts : Array (Nat × Operand)} {cells : Array Value} (ho : o.op = .build t parts) (hb : P.built t (parts.map fun (i, x) => (i, ev x)).toList = some cells) : (execOp ev o).run P w = .ok (.value (.agg cells)) w := by
  have := run_build (P := P) w t _ _ hb
  simp only [execOp, ho, Sem.run_bind, this, Result.andThen_ok, Sem.run_pure]
def Evs (ev : Operand → Value) : List Operand → List Value → Prop
  | [], [] => True
  | x :: r, v :: vs => ev x = v ∧ Evs ev r vs
  | _, _ => False
theorem Evs.map : ∀ {l : List Operand} {vs : List Value}, Evs ev l vs → l.map ev = vs
  | [], [], _ => rfl
  | _ :: _, _ :: _, h => by rw [List.map_cons, h.1, Evs.map h.2]
  | [], _ :: _, h => h.elim
  | _ :: _, [], h => h.elim
theorem x_call {f : FuncId} {args : List Operand} {ts : Array TypeId} {vs : List Value} {fn : Func} (ho : o.op = .call { callee := .value (.func f), args := args.toArray, argTypes := ts }) (hf0 : ev (.func f) = .func (.func f) #[] #[]) (hv : Evs ev args vs)
    (hf : P.funcs[f]? = some fn) (hn : (fn.name == "runtime.NumGoroutine") = false) (hb : fn.body.isNone = false) : (execOp ev o).run P w = .ok (.enter f vs.toArray) w := by
  have hn' : ¬ fn.name = "runtime.NumGoroutine" := by simpa using hn
  have hb' : ¬ fn.body = none := fun h => by rw [h] at hb; cases hb
  simp [execOp, ho, resolve, Deferred.ofValue, hf0, hv.map, invoke, callFunc, hf, hn', hb']
end
def onlyIf (g : Bool) (v : Value) : Value := bif g then v else undef
theorem onlyIf_t {g : Bool} {v : Value} (h : g = true) : onlyIf g v = v := by subst h; rfl
section
variable {P : Program} {N : Nat × List Deferred} {T : List (Nat × Value)} {a : Act} {w : World} {Q : Exit → Act → World → Prop} {ops : Array Oper} {rest : List Oper} {o : Oper} {d : Nat} {v : Value}
theorem fx_may (fr : Fr N T a) {j t : Nat} {b want g : Bool} (hg : o.guard = some (j, want)) (hj : dstAt ops j = some t) (hb : look T t = some (.bool b)) (hgb : (b == want) = g) (hd : o.dst = some d) (hN : d < N.1)
    (hrun : g = true → (execOp a.eval o).run P w = .ok (.value v) w) (next : ∀ a, Fr N ((d, onlyIf g v) :: T) a → wpList P ops Q rest a w) : wpList P ops Q (o :: rest) a w := by
  subst hgb
  cases hq : b == want with
  | true =>
    obtain rfl : b = want := by simpa using hq
    rw [hq] at hrun next
    exact fx_val fr (fr.want hg hj hb) hd hN (hrun rfl) next
  | false =>
    rw [hq] at next
    exact fx_skip fr (fr.unwant hg hj hb (by simpa using hq)) hd hN next
theorem fx_may2 (fr : Fr N T a) {j t : Nat} {g1 b want g : Bool} (hg : o.guard = some (j, want)) (hj : dstAt ops j = some t) (hb : look T t = some (onlyIf g1 (.bool b))) (hgb : (g1 && (b == want)) = g) (hd : o.dst = some d) (hN : d < N.1)
    (hrun : g = true → (execOp a.eval o).run P w = .ok (.value v) w) (next : ∀ a, Fr N ((d, onlyIf g v) :: T) a → wpList P ops Q rest a w) : wpList P ops Q (o :: rest) a w := by
  subst hgb
  cases g1 with
  | true => exact fx_may fr hg hj hb (by simp) hd hN hrun next
  | false => exact fx_skip fr (fr.unwant_u hg hj hb) hd hN next
end
section
variable {P : Program} {w : World} {ev : Operand → Value} {o : Oper} {x y z : Operand} {b c r : Bool}
theorem x_pick_or (ho : o.op = .pick x y z) (hx : ev x = .bool b) (hy : b = true → ev y = .bool true) (hz : b = false → ev z = .bool c) (hr : (b || c) = r) : (execOp ev o).run P w = .ok (.value (.bool r)) w := by
  subst hr
  cases b with
  | true => exact x_pick_t ho hx (hy rfl)
  | false => exact x_pick_f ho hx (hz rfl)
theorem x_pick_and (ho : o.op = .pick x y z) (hx : ev x = .bool b) (hy : b = true → ev y = .bool c) (hz : b = false → ev z = .bool false) (hr : (b && c) = r) : (execOp ev o).run P w = .ok (.value (.bool r)) w := by
  subst hr
  cases b with
  | true => exact x_pick_t ho hx (hy rfl)
  | false => exact x_pick_f ho hx (hz rfl)
end
theorem Only.loc {S : Nat → Prop} {a w w' : World} {b : Nat} (h : Only S a w) (k : Only (fun k => k = b) w w') (hb : S b ∨ a.heap.size ≤ b) : Only S a w' :=
  h.trans k fun i hi he => by
    subst he
    rcases hb with hb | hb
    · exact hb
    · omega
def Blk (w : World) (b : Nat) (t : TypeId) (cs : Array Value) : Prop := w.heap[b]? = some (.cells cs t (0, 0))
section
variable {S : Nat → Prop} {w w' : World} {b : Nat} {t : TypeId} {cs : Array Value}
theorem Blk.lt (h : Blk w b t cs) : b < w.heap.size := (Array.getElem?_eq_some_iff.1 h).1
theorem Blk.cell (h : Blk w b t cs) (i : Nat) {v : Value} (hv : cs[i]? = some v) : w.cell? ⟨b, i, none⟩ = some v := by rw [head_cell h, hv]
theorem Blk.free (h : Blk w b t cs) (i : Nat) : w.frozen? ⟨b, i, none⟩ = false := head_free h i
theorem Blk.only (h : Blk w b t cs) (k : Only S w w') (hs : ¬ S b) : Blk w' b t cs := k.heap h hs
theorem Blk.new (h : Blk w b t cs) (k : New w w') : Blk w' b t cs := k.heap h id
theorem Blk.range (h : Blk w b t cs) : w.rangeAt b 0 cs.toList := by
  intro j v hj
  rw [head_cell h, Nat.zero_add]
  simpa using hj
theorem Blk.part (h : Blk w b t cs) {q n : Nat} {l : List Value} (hl : (cs.toList.drop q).take n = l) : w.rangeAt b q l := by
  intro j v hj
  rw [← hl, List.getElem?_take] at hj
  split at hj
  · rw [List.getElem?_drop] at hj
    rw [head_cell h]
    simpa using hj
  · cases hj
end
section
variable {P : Program} {N : Nat × List Deferred} {T : List (Nat × Value)} {a : Act} {w : World} {Q : Exit → Act → World → Prop} {ops : Array Oper} {rest : List Oper} {o : Oper} {d : Nat}
theorem x_alloc {ev : Operand → Value} {t : TypeId} {z : Value} {cs : Array Value} (ho : o.op = .alloc t) (hz : (P.info? t).bind (·.zero) = some z) (hc : z.cells = cs) : (execOp ev o).run P w = .ok (.value (.pointer (some ⟨w.heap.size, 0, none⟩))) (w.alloc (.cells cs t)) := by
  subst hc
  cases hi : P.info? t with
  | none => simp [hi] at hz
  | some i =>
    simp only [hi, Option.bind_some] at hz
    simp [execOp, ho, Instr.alloc, zeroValue, typeInfo, hi, hz, newVar, newRow]
theorem x_box {ev : Operand → Value} {t : TypeId} {x : Operand} {v : Value} {cs : Array Value} (ho : o.op = .box t x) (hx : ev x = v) (hc : v.cells = cs) : (execOp ev o).run P w = .ok (.value (.pointer (some ⟨w.heap.size, 0, none⟩))) (w.alloc (.cells cs t)) := by
  subst hc
  simp [execOp, ho, hx, Instr.box, newVar, newRow]
theorem fx_new {t : TypeId} {cs : Array Value} (fr : Fr N T a) (hw : Region.wanted o (yielded ops a.tmps) = true) (hd : o.dst = some d) (hN : d < N.1) (hrun : (execOp a.eval o).run P w = .ok (.value (.pointer (some ⟨w.heap.size, 0, none⟩))) (w.alloc (.cells cs t)))
    (next : ∀ b w1, New w w1 → Blk w1 b t cs → w.heap.size ≤ b → ∀ a, Fr N ((d, .pointer (some ⟨b, 0, none⟩)) :: T) a → wpList P ops Q rest a w1) : wpList P ops Q (o :: rest) a w :=
  fx_val fr hw hd hN hrun fun a fr => next w.heap.size _ ((Only.refl _ w).alloc _) (Go.heap_alloc_new w _) (Nat.le_refl _) a fr
theorem x_store1 {ev : Operand → Value} {t b i : Nat} {tb : TypeId} {cs : Array Value} {x y : Operand} {v : Value} (hs : (P.info? t).map (·.size) = some 1) (ho : o.op = .store t x y) (hx : ev x = .pointer (some ⟨b, i, none⟩)) (hy : ev y = v) (hv : v.oneCell' = true) (hB : Blk w b tb cs) (hi : i < cs.size) :
    (execOp ev o).run P w = .ok .skip (w.setCell ⟨b, i, none⟩ v) := by
  have hc : v.cells = #[v] := by cases v <;> first | rfl | cases hv
  have hcell : w.cell? ⟨b, i, none⟩ = some cs[i] := hB.cell i (Array.getElem?_eq_getElem hi)
  cases h3 : P.info? t with
  | none => simp [h3] at hs
  | some inf =>
    simp only [h3, Option.map_some, Option.some.injEq] at hs
    have := run_storeCells_cells (P := P) b i [v] 0 w (fun j hj => by simp at hj; subst hj; simp [hcell]) (fun j hj => hB.free _) (fun u hu => by simp at hu; subst hu; exact hv)
    simp only [Nat.add_zero] at this
    simp [execOp, ho, hx, hy, Instr.storeAt, Instr.sureAddr, storeVar, sizeOf, typeInfo, h3, hs, hc, this, World.setCells]
theorem fx_store1 {t b i : Nat} {tb : TypeId} {cs cs' : Array Value} {x y : Operand} {v : Value} (hs : (P.info? t).map (·.size) = some 1) (hw : Region.wanted o (yielded ops a.tmps) = true) (hd : o.dst = none) (ho : o.op = .store t x y)
    (hx : a.eval x = .pointer (some ⟨b, i, none⟩)) (hy : a.eval y = v) (hv : v.oneCell' = true) (hB : Blk w b tb cs) (hi : i < cs.size) (hcs : cs.setIfInBounds i v = cs')
    (next : ∀ w1, Only (fun k => k = b) w w1 → Blk w1 b tb cs' → wpList P ops Q rest a w1) : wpList P ops Q (o :: rest) a w :=
  fx_eff hw hd (x_store1 hs ho hx hy hv hB hi) (next _ ((Only.refl (fun k => k = b) w).setCell (p := ⟨b, i, none⟩) (fun _ => rfl) _) (by subst hcs; exact setCell_at hB i v))
theorem fx_storeS {t b n : Nat} {tb : TypeId} {old cs : Array Value} {x y : Operand} (hs : (P.info? t).map (·.size) = some n) (hw : Region.wanted o (yielded ops a.tmps) = true) (hd : o.dst = none) (ho : o.op = .store t x y)
    (hx : a.eval x = .pointer (some ⟨b, 0, none⟩)) (hy : a.eval y = .agg cs) (h1 : cs.all (·.oneCell') = true) (hB : Blk w b tb old) (hn : old.size = n) (hm : cs.size = n)
    (next : ∀ w1, Only (fun k => k = b) w w1 → Blk w1 b tb cs → wpList P ops Q rest a w1) : wpList P ops Q (o :: rest) a w := by
  refine fx_eff (w1 := w.setRow b cs) hw hd ?_ (next _ ((Only.refl (fun k => k = b) w).setRow (g := b) (fun _ => rfl) _) (setRow_self' hB))
  have := run_storeVar_row (P := P) w b tb t old cs hB (by rw [hs, hm]) (by rw [hn, hm]) h1
  simp [execOp, ho, hx, hy, Instr.storeAt, Instr.sureAddr, this]
end
theorem i64w {x r : Int} (h : x = r) (hb : -9223372036854775808 ≤ r ∧ r ≤ 9223372036854775807) : IntKind.i64.wrap x = r := by
  subst h; exact IntWalk.i64_in _ (by omega)
end Go.Proofs.Ytflnlmibkbojcaa
namespace Go.Proofs.Ytflnlmibkbojcaa
open Go.RowKit
theorem run_part_int {P : Program} (w : World) {e : TypeId} {k : IntKind} (he : P.underlying e = some (.int k)) (cs : Array Value) (i : Nat) (v : Value) (h : cs[i]? = some v) : (part e cs i).run P w = .ok v w := by
  simp [part, isAgg, run_underlying he, h]
theorem drop_eq_cons {xs ys : List Int} {s : Nat} (hx : s < xs.length) (hy : s < ys.length) : (xs.drop s = ys.drop s) ↔ (xs[s] = ys[s] ∧ xs.drop (s + 1) = ys.drop (s + 1)) := by
  rw [List.drop_eq_getElem_cons hx, List.drop_eq_getElem_cons hy, List.cons.injEq]
theorem run_equalIn_arr {P : Program} (w : World) (d : Nat) {t e : TypeId} {n : Nat} {k : IntKind} (ht : P.underlying t = some (.array n e)) (he : P.underlying e = some (.int k)) (hs : (P.info? e).map (·.size) = some 1) (xs ys : List Int) (hx : xs.length = n) (hy : ys.length = n) :
    (Op.equalIn (d + 2) t (.agg (xs.map (Value.int k)).toArray) (.agg (ys.map (Value.int k)).toArray)).run P w = .ok (decide (xs = ys)) w := by
  unfold Op.equalIn
  simp only [Sem.run_bind, run_underlying ht, Result.andThen_ok]
  have hsz : (sizeOf e).run P w = .ok 1 w := by
    cases hq : P.info? e with
    | none => simp [hq] at hs
    | some i => simp [hq] at hs; simp [sizeOf, typeInfo, hq, hs]
  simp only [hsz, Result.andThen_ok, Nat.mul_one]
  rw [Std.Legacy.Range.forIn_eq_forIn_range']
  have hf : ∀ (i : Nat) (s : Option Bool × Unit) (h1 : i < xs.length) (h2 : i < ys.length), (do
            let __do_lift ← part e (List.map (Value.int k) xs).toArray i
            let __do_lift_1 ← part e (List.map (Value.int k) ys).toArray i
            let __do_lift ← Op.equalIn (d + 1) e __do_lift __do_lift_1
            if (!__do_lift) = true then pure (ForInStep.done (some false, ())) else pure (ForInStep.yield (none, ())) : Sem (ForInStep (Option Bool × Unit))).run P w = .ok (if xs[i] = ys[i] then .yield (none, ()) else .done (some false, ())) w := by
    intro i s h1 h2
    simp only [Sem.run_bind, run_part_int w he (List.map (Value.int k) xs).toArray i (.int k xs[i]) (by simp [h1]), run_part_int w he (List.map (Value.int k) ys).toArray i (.int k ys[i]) (by simp [h2]), Result.andThen_ok, run_equalIn_int w d e k k xs[i] ys[i] he]
    by_cases hq : xs[i] = ys[i] <;> simp [hq]
  have key : ∀ (f : Nat → Option Bool × Unit → Sem (ForInStep (Option Bool × Unit))), (∀ (i : Nat) (s : Option Bool × Unit) (h1 : i < xs.length) (h2 : i < ys.length), (f i s).run P w = .ok (if xs[i] = ys[i] then .yield (none, ()) else .done (some false, ())) w) → ∀ (c s : Nat), s + c = n →
      (forIn (m := Sem) (List.range' s c 1) ((none : Option Bool), ()) f).run P w = .ok (if xs.drop s = ys.drop s then (none, ()) else (some false, ())) w := by
    intro f hf c
    induction c with
    | zero =>
      intro s hs
      have h1 : xs.drop s = [] := List.drop_eq_nil_of_le (by omega)
      have h2 : ys.drop s = [] := List.drop_eq_nil_of_le (by omega)
      simp [h1, h2]
    | succ c ih =>
      intro s hs
      have hxs : s < xs.length := by omega
      have hys : s < ys.length := by omega
      simp only [List.range'_succ, List.forIn_cons, Sem.run_bind, hf s _ hxs hys, Result.andThen_ok]
      have h3 := drop_eq_cons hxs hys
      by_cases hq : xs[s] = ys[s]
      · have := ih (s + 1) (by omega)
        simp [hq, this, h3]
      · simp [hq, h3]
  have hk := key _ hf n 0 (by omega)
  simp only [List.drop_zero] at hk
  have e1 : (List.range' (Std.Legacy.Range.mk 0 n 1 (by decide)).start (Std.Legacy.Range.mk 0 n 1 (by decide)).size (Std.Legacy.Range.mk 0 n 1 (by decide)).step) = List.range' 0 n 1 := by
    simp [Std.Legacy.Range.size]
  rw [e1, hk]
  by_cases hq : xs = ys <;> simp [hq]
end Go.Proofs.Ytflnlmibkbojcaa
namespace Go.Proofs.Ytflnlmibkbojcaa
open Go.RowKit
structure Enc (P : Program) (α : Type) [DecidableEq α] where
  T : Nat
  n : Nat
  cells : α → List Value
  len : ∀ x, (cells x).length = n
  one : ∀ x, ∀ v ∈ cells x, v.oneCell' = true
  pos : 0 < n
structure Enc.Rec {P : Program} {α : Type} [DecidableEq α] (E : Enc P α) : Prop where
  eq : ∀ (w : World) (x y : α), (Op.equal E.T (.agg (E.cells x).toArray) (.agg (E.cells y).toArray)).run P w = .ok (decide (x = y)) w
  calm : P.eqGuardType P.depth E.T = false
section
variable {P : Program} {α : Type} [DecidableEq α] (E : Enc P α)
def Enc.arr (x : α) : Array Value := (E.cells x).toArray
theorem Enc.size (x : α) : (E.arr x).size = E.n := by simp [Enc.arr, E.len]
theorem Enc.all (x : α) : (E.arr x).all (·.oneCell') = true := all_oneCell_toArray (E.one x)
theorem Enc.toList (x : α) : (E.arr x).toList = E.cells x := by simp [Enc.arr]
section
variable {w : World} {ev : Operand → Value} {o : Oper} {x y : Operand} {T T' : TypeId}
theorem run_eqGuard_calm (op : BinOp) (x y : Operand) (cs ds : Array Value) {T : TypeId} (h : P.eqGuardType P.depth T = false) : (eqGuard op T x y (.agg cs) (.agg ds)).run P w = .ok () w := by
  unfold eqGuard
  cases op <;> simp [h]
theorem x_neE {E : Enc P α} (R : E.Rec) (hT : E.T = T) (ho : o.op = .binOp .neq T x y T') {p q : α} (hx : ev x = .agg (E.arr p)) (hy : ev y = .agg (E.arr q)) {b : Bool} (hb : (!decide (p = q)) = b) : (execOp ev o).run P w = .ok (.value (.bool b)) w := by
  subst hT
  exact x_ne_of ho hx hy (run_eqGuard_calm _ _ _ _ _ R.calm) rfl (R.eq w p q) hb
theorem x_loadE {E : Enc P α} (hg : aggT P E.T E.n = true) (hT : E.T = T) (ho : o.op = .load T x) {g q : Nat} {p : α} (hx : ev x = .pointer (some ⟨g, q, none⟩)) (hc : w.rangeAt g q (E.cells p)) : (execOp ev o).run P w = .ok (.value (.agg (E.arr p))) w := by
  subst hT
  exact x_loadS hg ho hx (E.size p) (by rw [E.toList]; exact hc)
theorem loadV_E {E : Enc P α} (hg : aggT P E.T E.n = true) (hT : E.T = T) {g q : Nat} {p : α} (hc : w.rangeAt g q (E.cells p)) : (loadVar T ⟨g, q, none⟩).run P w = .ok (.agg (E.arr p)) w := by
  subst hT
  exact x_loadV hg (E.size p) (by rw [E.toList]; exact hc)
theorem Blk.rangeE {g : Nat} {t : TypeId} {p : α} (h : Blk w g t (E.arr p)) : w.rangeAt g 0 (E.cells p) := by
  have := h.range
  rwa [E.toList] at this
end
end
theorem run_equal_arr {P : Program} (w : World) {t e : TypeId} {n : Nat} {k : IntKind} (ht : P.underlying t = some (.array n e)) (he : P.underlying e = some (.int k)) (hs : (P.info? e).map (·.size) = some 1) (xs ys : List Int) (hx : xs.length = n) (hy : ys.length = n) :
    (Op.equal t (.agg (xs.map (Value.int k)).toArray) (.agg (ys.map (Value.int k)).toArray)).run P w = .ok (decide (xs = ys)) w :=
  run_equalIn_arr (P := P) w 9998 ht he hs xs ys hx hy
end Go.Proofs.Ytflnlmibkbojcaa
namespace Go.Proofs.Ytflnlmibkbojcaa
open Go.RowKit
def MapBlk (w : World) (r : Nat) (es : Array MapEntry) (c : Nat) : Prop := w.heap[r]? = some (.map es c)
section
variable {S : Nat → Prop} {w w' : World} {r : Nat} {es : Array MapEntry} {c : Nat}
theorem MapBlk.lt (h : MapBlk w r es c) : r < w.heap.size := (Array.getElem?_eq_some_iff.1 h).1
theorem MapBlk.only (h : MapBlk w r es c) (k : Only S w w') (hs : ¬ S r) : MapBlk w' r es c := k.heap h hs
theorem MapBlk.new (h : MapBlk w r es c) (k : New w w') : MapBlk w' r es c := k.heap h id
end
section
variable {P : Program} {N : Nat × List Deferred} {T : List (Nat × Value)} {a : Act} {w : World} {Q : Exit → Act → World → Prop} {ops : Array Oper} {rest : List Oper} {o : Oper} {d : Nat}
theorem fx_makeMap {t : TypeId} (fr : Fr N T a) (hw : Region.wanted o (yielded ops a.tmps) = true) (ho : o.op = .makeMap t none) (hd : o.dst = some d) (hN : d < N.1)
    (next : ∀ r w1, New w w1 → MapBlk w1 r #[] 0 → w.heap.size ≤ r → ∀ a, Fr N ((d, .map (some r)) :: T) a → wpList P ops Q rest a w1) : wpList P ops Q (o :: rest) a w := by
  refine fx_val (v := .map (some w.heap.size)) (w1 := w.alloc (.map #[] 0)) fr hw hd hN ?_ fun a fr => next w.heap.size _ ((Only.refl _ w).alloc _) (Go.heap_alloc_new w _) (Nat.le_refl _) a fr
  simp [execOp, ho, Instr.makeMap]
theorem run_checkInt' {K : TypeId} {k : IntKind} (hK : P.underlying K = some (.int k)) (em : Bool) (n : Int) (w : World) : (Instr.checkKey em 10000 K (.int k n)).run P w = .ok () w :=
  MapKept.run_checkKey hK (by simp [MapKept.IsKey]) em 9999
theorem run_findNow' {K : TypeId} {k : IntKind} (hK : P.underlying K = some (.int k)) {x : Value} {es : List MapEntry} {r : Option (Nat × Value)} (h : Instr.findNow (.int k) x es 0 = some r) (w : World) :
    (Instr.findKey K x es).run P w = .ok r w := by
  simp [Instr.findKey, run_underlying hK, h]
theorem fx_insert {t K E : TypeId} {k : IntKind} {n : Int} {v : Value} {r c : Nat} {es : Array MapEntry} {x y z : Operand} (ht : P.underlying t = some (.map K E)) (hK : P.underlying K = some (.int k)) (hw : Region.wanted o (yielded ops a.tmps) = true) (ho : o.op = .insert t x y z) (hd : o.dst = none)
    (hx : a.eval x = .map (some r)) (hy : a.eval y = .int k n) (hz : a.eval z = v) (hM : MapBlk w r es c) (hnew : Instr.findNow (.int k) (.int k n) es.toList 0 = some none) {es' : Array MapEntry} (hes : es.push ⟨.int k n, v, c⟩ = es')
    (next : ∀ w1, Only (fun j => j = r) w w1 → MapBlk w1 r es' (c + 1) → wpList P ops Q rest a w1) : wpList P ops Q (o :: rest) a w := by
  have hlt := hM.lt
  subst hes
  refine fx_eff (w1 := { w with heap := w.heap.setIfInBounds r (.map (es.push ⟨.int k n, v, c⟩) (c + 1)) }) hw hd ?_ (next _ ⟨rfl, rfl, rfl, by simp, fun j hj hs => ?_⟩ ?_)
  · simp [execOp, ho, hx, hy, hz, Instr.mapUpdate, run_underlying ht, MapKept.run_getObj_map hM, run_checkInt' hK, run_findNow' hK hnew, MapKept.run_setObj_map _ hM, Result.andThen]
  · simp [show r ≠ j from fun h => hs h.symm]
  · unfold MapBlk
    simp [hlt]
end
section
variable {P : Program} {w : World} {ev : Operand → Value} {o : Oper} {x y : Operand}
theorem x_lookup {t K E : TypeId} {k : IntKind} {n : Int} {v : Value} {r c : Nat} {es : Array MapEntry} {ok b : Bool} (ht : P.underlying t = some (.map K E)) (hK : P.underlying K = some (.int k)) (ho : o.op = .lookup t x y ok)
    (hx : ev x = .map (some r)) (hy : ev y = .int k n) (hM : MapBlk w r es c) {z : Value} (hz : (P.info? E).bind (·.zero) = some z) (hf : (Instr.findNow (.int k) (.int k n) es.toList 0).map (fun q => (match q with | some (_, u) => u | none => z, q.isSome)) = some (v, b)) :
    (execOp ev o).run P w = .ok (.value (if ok then .tuple #[v, .bool b] else v)) w := by
  cases hi : P.info? E with
  | none => simp [hi] at hz
  | some i =>
    simp only [hi, Option.bind_some] at hz
    have hzv : (zeroValue E).run P w = .ok z w := by simp [zeroValue, typeInfo, hi, hz]
    cases hq : Instr.findNow (.int k) (.int k n) es.toList 0 with
    | none => simp [hq] at hf
    | some q =>
      cases q with
      | none =>
        simp [hq] at hf
        obtain ⟨rfl, rfl⟩ := hf
        cases ok <;> simp [execOp, ho, hx, hy, Instr.lookup, run_underlying ht, MapKept.run_getObj_map hM, run_checkInt' hK, run_findNow' hK hq, hzv, Result.andThen]
      | some p =>
        simp [hq] at hf
        obtain ⟨rfl, rfl⟩ := hf
        cases ok <;> simp [execOp, ho, hx, hy, Instr.lookup, run_underlying ht, MapKept.run_getObj_map hM, run_checkInt' hK, run_findNow' hK hq, Result.andThen]
end
end Go.Proofs.Ytflnlmibkbojcaa
namespace Go.Proofs.Ytflnlmibkbojcaa
open Go.RowKit
section
variable {P : Program} {N : Nat × List Deferred} {T : List (Nat × Value)} {a : Act} {w : World} {Q : Exit → Act → World → Prop} {ops : List Oper} {o : Oper} {d : Nat} {v : Value} {S : World → Prop} {fuel i : Nat} {listed : Array Bool}
theorem fx_held {id n : Nat} (S : World → Prop) (hm : P.follows .mixedOrders = true) (hn : ops.length = n) (h : ∀ w1, New w w1 → wpAnyH P .any ops.toArray Q S n (Array.replicate n false) a w1) : (Code.region id ops.toArray true).wp P Q a w := by
  subst hn
  exact wp_region_held hm (by simpa using h w.drew ((Only.refl _ w).drew))
theorem fx_hdone (hr : Region.ready .any ops.toArray listed = []) (h : Q .normal a w) : wpAnyH P .any ops.toArray Q S fuel listed a w := wpAnyH_done hr h fuel
def takeOk (ops : List Oper) (listed : Array Bool) (i : Nat) : Bool := Region.noSelect ops.toArray && Region.free .any ops.toArray listed i && (Region.ready .any ops.toArray listed).contains i
theorem fx_take (fr : Fr N T a) (hi : ops[i]? = some o) (hok : takeOk ops listed i = true) (hw : Region.wanted o (yielded ops.toArray a.tmps) = true) (hd : o.dst = some d) (hN : d < N.1)
    (hQ : ∀ c a w, Q (.panic c) (a.put o.dst v) w → Q (.panic c) a w) (hrun : ∀ w, S w → (execOp a.eval o).run P w = .ok (.value v) w) (hS : S w)
    (next : ∀ a, Fr N ((d, v) :: T) a → wpAnyH P .any ops.toArray Q S fuel (listed.setIfInBounds i true) a w) : wpAnyH P .any ops.toArray Q S (fuel + 1) listed a w := by
  unfold takeOk at hok
  simp only [Bool.and_eq_true] at hok
  refine wpAnyH_take (oi := o) (v := v) (by simpa using hi) hok.1.1 hok.1.2 hok.2 hQ (.inl ⟨hw, hrun⟩) hS ?_
  rw [hd]
  exact next _ (fr.put d v hN)
theorem fx_takeskip (fr : Fr N T a) (hi : ops[i]? = some o) (hok : takeOk ops listed i = true) (hw : Region.wanted o (yielded ops.toArray a.tmps) = false) (hd : o.dst = some d) (hN : d < N.1)
    (hQ : ∀ c a w, Q (.panic c) (a.put o.dst undef) w → Q (.panic c) a w) (hS : S w)
    (next : ∀ a, Fr N ((d, undef) :: T) a → wpAnyH P .any ops.toArray Q S fuel (listed.setIfInBounds i true) a w) : wpAnyH P .any ops.toArray Q S (fuel + 1) listed a w := by
  unfold takeOk at hok
  simp only [Bool.and_eq_true] at hok
  refine wpAnyH_take (oi := o) (v := undef) (by simpa using hi) hok.1.1 hok.1.2 hok.2 hQ (.inr ⟨hw, rfl⟩) hS ?_
  rw [hd]
  exact next _ (fr.put d undef hN)
theorem fx_takemay {j t : Nat} {b want g : Bool} (fr : Fr N T a) (hi : ops[i]? = some o) (hok : takeOk ops listed i = true) (hg : o.guard = some (j, want)) (hj : dstAt ops.toArray j = some t) (hb : look T t = some (.bool b)) (hgb : (b == want) = g) (hd : o.dst = some d) (hN : d < N.1)
    (hQ : ∀ u c a w, Q (.panic c) (a.put o.dst u) w → Q (.panic c) a w) (hrun : g = true → ∀ w, S w → (execOp a.eval o).run P w = .ok (.value v) w) (hS : S w)
    (next : ∀ a, Fr N ((d, onlyIf g v) :: T) a → wpAnyH P .any ops.toArray Q S fuel (listed.setIfInBounds i true) a w) : wpAnyH P .any ops.toArray Q S (fuel + 1) listed a w := by
  subst hgb
  cases hq : b == want with
  | true =>
    obtain rfl : b = want := by simpa using hq
    rw [hq] at hrun next
    exact fx_take fr hi hok (fr.want hg hj hb) hd hN (hQ v) (hrun rfl) hS next
  | false =>
    rw [hq] at next
    exact fx_takeskip fr hi hok (fr.unwant hg hj hb (by simpa using hq)) hd hN (hQ undef) hS next
theorem fx_one (hr : Region.ready .any ops.toArray listed = [i]) (h : wpOp P ops.toArray Q i (fun a' w' => S w' ∧ wpAnyH P .any ops.toArray Q S fuel (listed.setIfInBounds i true) a' w') a w) : wpAnyH P .any ops.toArray Q S (fuel + 1) listed a w :=
  wpAnyH_all hr (by simp) fun j hj => by
    rw [List.mem_singleton] at hj
    subst hj
    exact h
theorem fx_two {j : Nat} (hr : Region.ready .any ops.toArray listed = [i, j]) (h1 : wpOp P ops.toArray Q i (fun a' w' => S w' ∧ wpAnyH P .any ops.toArray Q S fuel (listed.setIfInBounds i true) a' w') a w)
    (h2 : wpOp P ops.toArray Q j (fun a' w' => S w' ∧ wpAnyH P .any ops.toArray Q S fuel (listed.setIfInBounds j true) a' w') a w) : wpAnyH P .any ops.toArray Q S (fuel + 1) listed a w :=
  wpAnyH_all hr (by simp) fun q hq => by
    rw [List.mem_cons, List.mem_singleton] at hq
    rcases hq with rfl | rfl
    · exact h1
    · exact h2
theorem fx_op {K : Act → World → Prop} (hi : ops[i]? = some o) (h : wpList P ops.toArray (fun e a w => match e with | .normal => K a w | e => Q e a w) [o] a w) : wpOp P ops.toArray Q i K a w := by
  unfold wpOp
  have hi' : ops.toArray[i]? = some o := by simpa using hi
  rw [hi']
  simp only []
  unfold wpList at h
  split
  · rename_i hw
    rw [if_pos hw] at h
    rcases h with h | ⟨h1, h2⟩
    · refine .inl ?_
      unfold Oper.wp at *
      generalize (execOp a.eval o).run P w = r at *
      cases r with
      | ok n w' =>
        cases n <;> simp only [Oper.upon] at h ⊢ <;> first | exact h | (refine Calls.mono h fun e w'' he => ?_; cases e <;> exact he) | (exact Rows.mono h fun v w'' he => he)
      | halt x w' => cases x <;> simp only [Oper.upon] at h ⊢ <;> exact h
    · exact .inr ⟨h1, h2⟩
  · rename_i hw
    rw [if_neg hw] at h
    exact h
end
theorem getD_true_of_false {listed : Array Bool} {i : Nat} (h : i < listed.size) (hl : listed.getD i true = false) : listed.getD i false = false := by
  simp [h] at hl ⊢
  exact hl
def tailQ (P : Program) (ops : Array Oper) (Q : Exit → Act → World → Prop) (k : Nat) : Exit → Act → World → Prop
  | .normal, a, w => wpList P ops Q (ops.toList.drop k) a w
  | e, a, w => Q e a w
def headOk (ops : Array Oper) (k : Nat) : Bool :=
  decide (k ≤ ops.size) && (List.range ops.size).all fun i => match ops[i]? with
    | none => true
    | some o => o.after.toList.all (fun e => !Region.binds .any e || decide (e.on < i)) && (match o.guard with | some (j, _) => decide (j < i) | none => true) &&
      (decide (i < k) || (List.range i).all fun j => (decide (k ≤ j) && decide (j + 1 ≠ i)) || o.after.toList.any fun e => e.on == j && Region.binds .any e)
section
variable {P : Program} {Q : Exit → Act → World → Prop} {ops : Array Oper} {k : Nat}
theorem headOk_le (h : headOk ops k = true) : k ≤ ops.size := by
  unfold headOk at h
  rw [Bool.and_eq_true] at h
  exact of_decide_eq_true h.1
theorem headOk_at (h : headOk ops k = true) {i : Nat} {o : Oper} (ho : ops[i]? = some o) : (∀ e ∈ o.after, Region.binds .any e = true → e.on < i) ∧ (∀ j b, o.guard = some (j, b) → j < i) ∧ (k ≤ i → ∀ j, j < i → (j < k ∨ j + 1 = i) → ∃ e ∈ o.after, e.on = j ∧ Region.binds .any e = true) := by
  have hi : i < ops.size := (Array.getElem?_eq_some_iff.1 ho).1
  unfold headOk at h
  rw [Bool.and_eq_true, List.all_eq_true] at h
  have h1 := h.2 i (List.mem_range.2 hi)
  rw [ho] at h1
  simp only [Bool.and_eq_true] at h1
  obtain ⟨⟨h1, h2⟩, h3⟩ := h1
  refine ⟨fun e he hb => ?_, fun j b hg => ?_, fun hki j hj hor => ?_⟩
  · have := (List.all_eq_true.1 h1) e (Array.mem_toList_iff.2 he)
    simpa [hb] using this
  · rw [hg] at h2
    exact of_decide_eq_true h2
  · rw [Bool.or_eq_true] at h3
    rcases h3 with h3 | h3
    · have := of_decide_eq_true h3; omega
    · have := (List.all_eq_true.1 h3) j (List.mem_range.2 hj)
      rw [Bool.or_eq_true] at this
      have this := this.resolve_left (by simp; omega)
      rw [List.any_eq_true] at this
      obtain ⟨e, he, h9⟩ := this
      rw [Bool.and_eq_true] at h9
      exact ⟨e, Array.mem_toList_iff.1 he, by simpa using h9.1, h9.2⟩
theorem first_ready' (h : headOk ops k = true) {listed : Array Bool} (hsz : listed.size = ops.size) (hr : Region.ready .any ops listed = []) : ∀ i, i < ops.size → listed.getD i false = true := by
  intro i
  induction i using Nat.strongRecOn with
  | _ i ih =>
    intro hi
    cases hl : listed.getD i false with
    | true => rfl
    | false =>
      exfalso
      have ho : ops[i]? = some ops[i] := Array.getElem?_eq_getElem hi
      have h2 := (headOk_at h ho).1
      have : i ∈ Region.ready .any ops listed := by
        refine mem_ready.2 ⟨?_, ops[i], ho, fun e he hb => ih e.on (h2 e he hb) (Nat.lt_trans (h2 e he hb) hi)⟩
        have : i < listed.size := by omega
        simp [this] at hl ⊢
        exact hl
      rw [hr] at this
      cases this
theorem wpAny_turn' (hB : headOk ops k = true) : ∀ (m i fuel : Nat) (listed : Array Bool) (a : Act) (w : World), i + m = ops.size → k ≤ i → m ≤ fuel → listed.size = ops.size →
    (∀ j, j < ops.size → (listed.getD j false = true ↔ j < i)) → wpList P ops Q (ops.toList.drop i) a w → wpAny P .any ops Q fuel listed a w := by
  intro m
  induction m with
  | zero =>
    intro i fuel listed a w him hki hf hsz hl h
    have hd : ops.toList.drop i = [] := List.drop_eq_nil_of_le (by simp; omega)
    rw [hd] at h
    have hr : Region.ready .any ops listed = [] := by
      rw [List.eq_nil_iff_forall_not_mem]
      intro j hj
      obtain ⟨hun, o, ho, _⟩ := mem_ready.1 hj
      have hjs : j < ops.size := (Array.getElem?_eq_some_iff.1 ho).1
      have h1 := (hl j hjs).2 (by omega)
      have h2 := getD_true_of_false (by omega) hun
      rw [h1] at h2
      cases h2
    cases fuel with
    | zero => exact ⟨hr, h⟩
    | succ f =>
      refine ⟨fun _ => h, fun j hj => ?_⟩
      rw [hr] at hj
      cases hj
  | succ m ih =>
    intro i fuel listed a w him hki hf hsz hl h
    cases fuel with
    | zero => omega
    | succ f =>
      have hi : i < ops.size := by omega
      have ho : ops[i]? = some ops[i] := Array.getElem?_eq_getElem hi
      have hli : listed.getD i false = false := by
        cases hq : listed.getD i false with
        | false => rfl
        | true => have := (hl i hi).1 hq; omega
      refine ⟨fun hr => ?_, fun j hj => ?_⟩
      · have := first_ready' hB hsz hr i hi
        rw [this] at hli
        cases hli
      · obtain ⟨hun, o, hoj, hedges⟩ := mem_ready.1 hj
        have hjs : j < ops.size := (Array.getElem?_eq_some_iff.1 hoj).1
        have hlj := getD_true_of_false (by omega) hun
        have hij : i ≤ j := by
          rcases Nat.lt_or_ge j i with h1 | h1
          · have := (hl j hjs).2 h1
            rw [this] at hlj
            cases hlj
          · exact h1
        have hji : j = i := by
          rcases Nat.lt_or_ge i j with h1 | h1
          · obtain ⟨e, he, he1, he2⟩ := (headOk_at hB hoj).2.2 (by omega) (j - 1) (by omega) (.inr (by omega))
            have := hedges e he he2
            rw [he1, hl (j - 1) (by omega)] at this
            omega
          · omega
        subst hji
        have hd : ops.toList.drop j = ops[j] :: ops.toList.drop (j + 1) := by
          rw [List.drop_eq_getElem_cons (by simpa using hi)]
          simp
        have next : ∀ a w, wpList P ops Q (ops.toList.drop (j + 1)) a w → wpAny P .any ops Q f (listed.setIfInBounds j true) a w := by
          intro a w h
          refine ih (j + 1) f _ a w (by omega) (by omega) (by omega) (by simpa using hsz) (fun q hq => ?_) h
          rw [Array.getD_eq_getD_getElem?, Array.getElem?_setIfInBounds]
          by_cases hjq : j = q
          · subst hjq
            have : j < listed.size := by omega
            simp [this]
          · rw [if_neg hjq, ← Array.getD_eq_getD_getElem?, hl q hq]
            omega
        rw [hd] at h
        unfold wpOp
        rw [ho]
        simp only []
        unfold wpList at h
        split
        · rename_i hw
          rw [if_pos hw] at h
          rcases h with h | h
          · exact .inl (Oper.wp_mono next h)
          · exact .inr h
        · rename_i hw
          rw [if_neg hw] at h
          exact next _ _ h
theorem wp_tailQ {o : Oper} {a : Act} {w : World} {K : Act → World → Prop} (h : o.wp P a w K (tailQ P ops Q k)) : o.wp P a w K Q := by
  unfold Oper.wp at *
  generalize (execOp a.eval o).run P w = r at *
  cases r with
  | ok n w' =>
    cases n <;> simp only [Oper.upon] at h ⊢ <;> first | exact h | (refine Calls.mono h fun e w'' he => ?_; cases e <;> exact he)
  | halt x w' => cases x <;> simp only [Oper.upon] at h ⊢ <;> exact h
theorem wpAny_head (hB : headOk ops k = true) : ∀ (fuel : Nat) (la lf : Array Bool) (a : Act) (w : World), la.size = k → lf.size = ops.size → (∀ j, j < k → lf.getD j false = la.getD j false) → (∀ j, k ≤ j → lf.getD j false = false) →
    wpAny P .any (ops.toList.take k).toArray (tailQ P ops Q k) fuel la a w → wpAny P .any ops Q (fuel + (ops.size - k)) lf a w := by
  have hk := headOk_le hB
  have hget : ∀ i, i < k → (ops.toList.take k).toArray[i]? = ops[i]? := by
    intro i hi
    simp [List.getElem?_take, hi]
  have hsz' : (ops.toList.take k).toArray.size = k := by simp; omega
  -- readiness in the head
  have hready : ∀ (la lf : Array Bool), la.size = k → lf.size = ops.size → (∀ j, j < k → lf.getD j false = la.getD j false) → ∀ i, i < k → (i ∈ Region.ready .any ops lf ↔ i ∈ Region.ready .any (ops.toList.take k).toArray la) := by
    intro la lf h1 h2 h3 i hi
    have hun : lf.getD i true = la.getD i true := by
      have := h3 i hi
      have e1 : i < lf.size := by omega
      have e2 : i < la.size := by omega
      simp [e1, e2] at this ⊢
      exact this
    constructor
    · intro h
      obtain ⟨hu, o, ho, he⟩ := mem_ready.1 h
      refine mem_ready.2 ⟨by rw [← hun]; exact hu, o, by rw [hget i hi]; exact ho, fun e hm hb => ?_⟩
      have hlt := (headOk_at hB ho).1 e hm hb
      rw [← h3 e.on (by omega)]
      exact he e hm hb
    · intro h
      obtain ⟨hu, o, ho, he⟩ := mem_ready.1 h
      rw [hget i hi] at ho
      refine mem_ready.2 ⟨by rw [hun]; exact hu, o, ho, fun e hm hb => ?_⟩
      have hlt := (headOk_at hB ho).1 e hm hb
      rw [h3 e.on (by omega)]
      exact he e hm hb
  -- the head is through
  have turn : ∀ (fuel : Nat) (la lf : Array Bool) (a : Act) (w : World), la.size = k → lf.size = ops.size → (∀ j, j < k → lf.getD j false = la.getD j false) → (∀ j, k ≤ j → lf.getD j false = false) →
      (∀ i, i < k → la.getD i false = true) → wpList P ops Q (ops.toList.drop k) a w → wpAny P .any ops Q (fuel + (ops.size - k)) lf a w := by
    intro fuel la lf a w h1 h2 h3 h4 hall h
    refine wpAny_turn' hB (ops.size - k) k _ lf a w (by omega) (Nat.le_refl _) (by omega) h2 (fun j hj => ⟨fun hj2 => ?_, fun hj2 => by rw [h3 j hj2]; exact hall j hj2⟩) h
    rcases Nat.lt_or_ge j k with h9 | h9
    · exact h9
    · rw [h4 j h9] at hj2
      cases hj2
  have hfr : ∀ (la lf : Array Bool), la.size = k → lf.size = ops.size → (∀ j, j < k → lf.getD j false = la.getD j false) → Region.ready .any (ops.toList.take k).toArray la = [] → ∀ i, i < k → la.getD i false = true := by
    intro la lf h1 h2 h3 hr i
    induction i using Nat.strongRecOn with
    | _ i ih =>
      intro hi
      cases hl : la.getD i false with
      | true => rfl
      | false =>
        exfalso
        have ho : ops[i]? = some (ops[i]'(by omega)) := Array.getElem?_eq_getElem (by omega)
        have h9 := (headOk_at hB ho).1
        have : i ∈ Region.ready .any (ops.toList.take k).toArray la := by
          refine mem_ready.2 ⟨?_, _, by rw [hget i hi]; exact ho, fun e he hb => ih e.on (h9 e he hb) (Nat.lt_trans (h9 e he hb) hi)⟩
          have : i < la.size := by omega
          simp [this] at hl ⊢
          exact hl
        rw [hr] at this
        cases this
  intro fuel
  induction fuel with
  | zero =>
    intro la lf a w h1 h2 h3 h4 h
    exact turn 0 la lf a w h1 h2 h3 h4 (hfr la lf h1 h2 h3 h.1) h.2
  | succ fuel ih =>
    intro la lf a w h1 h2 h3 h4 h
    by_cases hr : Region.ready .any (ops.toList.take k).toArray la = []
    · exact turn (fuel + 1) la lf a w h1 h2 h3 h4 (hfr la lf h1 h2 h3 hr) (h.1 hr)
    · rw [show fuel + 1 + (ops.size - k) = (fuel + (ops.size - k)) + 1 by omega]
      refine ⟨fun hrf => absurd ?_ hr, fun i hi => ?_⟩
      · rw [List.eq_nil_iff_forall_not_mem]
        intro j hj
        obtain ⟨_, o, ho, _⟩ := mem_ready.1 hj
        have hjk : j < k := by have := (Array.getElem?_eq_some_iff.1 ho).1; omega
        have := (hready la lf h1 h2 h3 j hjk).2 hj
        rw [hrf] at this
        cases this
      · obtain ⟨hun, o, ho, hedges⟩ := mem_ready.1 hi
        have his : i < ops.size := (Array.getElem?_eq_some_iff.1 ho).1
        have hik : i < k := by
          rcases Nat.lt_or_ge i k with h9 | h9
          · exact h9
          · exfalso
            refine hr ?_
            rw [List.eq_nil_iff_forall_not_mem]
            intro j hj
            obtain ⟨hunj, oj, hoj, _⟩ := mem_ready.1 hj
            have hjk : j < k := by have := (Array.getElem?_eq_some_iff.1 hoj).1; omega
            obtain ⟨e, he, he1, he2⟩ := (headOk_at hB ho).2.2 h9 j (by omega) (.inl hjk)
            have hl := hedges e he he2
            rw [he1, h3 j hjk] at hl
            have := getD_true_of_false (by omega) hunj
            rw [hl] at this
            cases this
        have hia := (hready la lf h1 h2 h3 i hik).1 hi
        have hop := h.2 i hia
        have next : ∀ a w, wpAny P .any (ops.toList.take k).toArray (tailQ P ops Q k) fuel (la.setIfInBounds i true) a w → wpAny P .any ops Q (fuel + (ops.size - k)) (lf.setIfInBounds i true) a w := by
          intro a w h
          refine ih _ _ a w (by simpa using h1) (by simpa using h2) (fun j hj => ?_) (fun j hj => ?_) h
          · rw [Array.getD_eq_getD_getElem?, Array.getD_eq_getD_getElem?, Array.getElem?_setIfInBounds, Array.getElem?_setIfInBounds]
            by_cases hij : i = j
            · subst hij
              simp [show i < lf.size by omega, show i < la.size by omega]
            · rw [if_neg hij, if_neg hij, ← Array.getD_eq_getD_getElem?, ← Array.getD_eq_getD_getElem?]
              exact h3 j hj
          · rw [Array.getD_eq_getD_getElem?, Array.getElem?_setIfInBounds, if_neg (by omega), ← Array.getD_eq_getD_getElem?]
            exact h4 j hj
        have hy : ∀ tm, Region.wanted o (yielded ops tm) = Region.wanted o (yielded (ops.toList.take k).toArray tm) := by
          intro tm
          unfold Region.wanted
          cases hg : o.guard with
          | none => rfl
          | some p =>
            obtain ⟨j, b⟩ := p
            have hj := (headOk_at hB ho).2.1 j b hg
            simp only []
            unfold yielded
            rw [hget j (by omega)]
        unfold wpOp at hop ⊢
        rw [hget i hik, ho] at hop
        rw [ho]
        simp only [] at hop ⊢
        rw [hy]
        split
        · rename_i hw
          rw [if_pos hw] at hop
          rcases hop with hop | ⟨q1, q2⟩
          · exact .inl (Oper.wp_mono next (wp_tailQ hop))
          · exact .inr ⟨q1, q2⟩
        · rename_i hw
          rw [if_neg hw] at hop
          exact next _ _ hop
theorem fx_tail {a : Act} {w : World} (h : wpList P ops Q (ops.toList.drop k) a w) : tailQ P ops Q k .normal a w := h
theorem fx_heldT {id n k : Nat} {ops : List Oper} {a : Act} {w : World} (S : World → Prop) (hm : P.follows .mixedOrders = true) (hB : headOk ops.toArray k = true) (hn : (ops.take k).length = n)
    (h : ∀ w1, New w w1 → wpAnyH P .any (ops.take k).toArray (tailQ P ops.toArray Q k) S n (Array.replicate n false) a w1) : (Code.region id ops.toArray true).wp P Q a w := by
  refine wp_region_any hm ?_
  have hk := headOk_le hB
  have hn' : n = k := by rw [← hn, List.length_take]; simp at hk; omega
  subst hn'
  have h1 := wpAny_of_held _ _ _ _ (h w.drew ((Only.refl _ w).drew))
  have h2 := wpAny_head (P := P) (Q := Q) hB n (Array.replicate n false) (Array.replicate ops.toArray.size false) a w.drew (by simp) (by simp) (fun j hj => ?_) (fun j hj => ?_) h1
  · rw [Nat.add_sub_cancel' hk] at h2
    exact h2
  · rw [Array.getD_eq_getD_getElem?, Array.getD_eq_getD_getElem?, Array.getElem?_replicate, Array.getElem?_replicate]
    split <;> (try split) <;> rfl
  · rw [Array.getD_eq_getD_getElem?, Array.getElem?_replicate]
    split <;> rfl
end
end Go.Proofs.Ytflnlmibkbojcaa
namespace Go.Proofs.Ytflnlmibkbojcaa
open Go.RowKit
def inA (A : Option Addr) (k : Nat) : Prop := ∃ o, A = some ⟨k, o, none⟩
def Apart (A : Option Addr) (b : Nat) : Prop := ¬ inA A b
def Apart2 (A B : Option Addr) : Prop := ∀ k, inA A k → inA B k → False
section
variable {P : Program} {α : Type} [DecidableEq α] (E : Enc P α)
def Own (w : World) (A : Option Addr) (cap : Nat) (l : List α) : Prop :=
  l.length ≤ cap ∧ cap ≤ maxLen ∧ ((A = none ∧ cap = 0) ∨ ∃ g o cs, A = some ⟨g, o, none⟩ ∧ Blk w g E.T cs ∧ o + cap * E.n ≤ cs.size ∧ (cs.toList.drop o).take (l.length * E.n) = l.flatMap E.cells)
def View (w : World) (A : Option Addr) (cap : Nat) (l : List α) : Prop :=
  l.length ≤ cap ∧ cap ≤ maxLen ∧ ((A = none ∧ cap = 0) ∨ ∃ g o, A = some ⟨g, o, none⟩ ∧ g < w.heap.size ∧ w.rangeAt g o (l.flatMap E.cells))
variable {E}
variable {S : Nat → Prop} {w w' : World} {A : Option Addr} {cap : Nat} {l : List α}
theorem flat_len (l : List α) : (l.flatMap E.cells).length = l.length * E.n := by
  induction l with
  | nil => simp
  | cons x l ih => simp [List.flatMap_cons, ih, E.len, Nat.succ_mul, Nat.add_comm]
theorem flat_drop (l : List α) (k : Nat) (h : k < l.length) : ((l.flatMap E.cells).drop (k * E.n)).take E.n = E.cells l[k] := by
  induction l generalizing k with
  | nil => simp at h
  | cons x l ih =>
    cases k with
    | zero =>
      simp only [List.flatMap_cons, Nat.zero_mul, List.drop_zero, List.getElem_cons_zero]
      rw [List.take_append_of_le_length (by rw [E.len]; exact Nat.le_refl _), List.take_of_length_le (by rw [E.len]; exact Nat.le_refl _)]
    | succ k =>
      simp only [List.flatMap_cons, List.getElem_cons_succ]
      have hl : (E.cells x).length = E.n := E.len x
      rw [List.drop_append, List.drop_eq_nil_of_le (by rw [hl, Nat.succ_mul]; omega), List.nil_append, hl, show (k + 1) * E.n - E.n = k * E.n by rw [Nat.succ_mul]; omega]
      exact ih k (by simpa using h)
theorem range_part {g o : Nat} {cs : List Value} (h : w.rangeAt g o cs) (q n : Nat) : w.rangeAt g (o + q) ((cs.drop q).take n) := by
  intro j v hj
  rw [List.getElem?_take] at hj
  split at hj
  · rw [List.getElem?_drop] at hj
    have := h (q + j) v hj
    rwa [Nat.add_assoc]
  · cases hj
theorem range_only {g o : Nat} {cs : List Value} (h : w.rangeAt g o cs) (k : Only S w w') (hs : ¬ S g) : w'.rangeAt g o cs := fun j v hj => k.cell (h j v hj) hs
theorem View.at_ (h : View E w A cap l) (k : Nat) (hk : k < l.length) : ∃ g o, A = some ⟨g, o, none⟩ ∧ g < w.heap.size ∧ w.rangeAt g (o + k * E.n) (E.cells l[k]) := by
  obtain ⟨h1, _, ⟨_, h2⟩ | ⟨g, o, rfl, hg, hr⟩⟩ := h
  · omega
  · refine ⟨g, o, rfl, hg, ?_⟩
    have := range_part hr (k * E.n) E.n
    rwa [flat_drop l k hk] at this
theorem View.only (h : View E w A cap l) (k : Only S w w') (hs : ∀ g, inA A g → ¬ S g) : View E w' A cap l := by
  obtain ⟨h1, h2, h3 | ⟨g, o, rfl, hg, hr⟩⟩ := h
  · exact ⟨h1, h2, .inl h3⟩
  · exact ⟨h1, h2, .inr ⟨g, o, rfl, k.lt hg, range_only hr k (hs g ⟨o, rfl⟩)⟩⟩
theorem View.new (h : View E w A cap l) (k : New w w') : View E w' A cap l := h.only k fun _ _ => id
theorem View.len (h : View E w A cap l) : l.length ≤ cap ∧ cap ≤ maxLen := ⟨h.1, h.2.1⟩
theorem View.apart (h : View E w A cap l) {b : Nat} (hb : w.heap.size ≤ b) : Apart A b := by
  rintro ⟨o, rfl⟩
  obtain ⟨_, _, ⟨h3, _⟩ | ⟨g, o', h3, hg, _⟩⟩ := h
  · cases h3
  · simp only [Option.some.injEq, Addr.mk.injEq] at h3
    omega
theorem Own.view (h : Own E w A cap l) : View E w A cap l := by
  obtain ⟨h1, h2, h3 | ⟨g, o, cs, rfl, hB, hs, ht⟩⟩ := h
  · exact ⟨h1, h2, .inl h3⟩
  · refine ⟨h1, h2, .inr ⟨g, o, rfl, hB.lt, ?_⟩⟩
    exact hB.part ht
theorem Own.only (h : Own E w A cap l) (k : Only S w w') (hs : ∀ g, inA A g → ¬ S g) : Own E w' A cap l := by
  obtain ⟨h1, h2, h3 | ⟨g, o, cs, rfl, hB, h3⟩⟩ := h
  · exact ⟨h1, h2, .inl h3⟩
  · exact ⟨h1, h2, .inr ⟨g, o, cs, rfl, hB.only k (hs g ⟨o, rfl⟩), h3⟩⟩
theorem Own.new (h : Own E w A cap l) (k : New w w') : Own E w' A cap l := h.only k fun _ _ => id
theorem Own.len (h : Own E w A cap l) : l.length ≤ cap ∧ cap ≤ maxLen := ⟨h.1, h.2.1⟩
theorem Own.apart (h : Own E w A cap l) {b : Nat} (hb : w.heap.size ≤ b) : Apart A b := h.view.apart hb
theorem Own.nil : Own E w none 0 [] := ⟨Nat.le_refl _, Nat.zero_le _, .inl ⟨rfl, rfl⟩⟩
theorem View.nil : View E w none 0 [] := ⟨Nat.le_refl _, Nat.zero_le _, .inl ⟨rfl, rfl⟩⟩
theorem View.none_ (h : View E w none cap l) : cap = 0 ∧ l = [] := by
  obtain ⟨h1, _, ⟨_, h3⟩ | ⟨g', o', h3, _⟩⟩ := h
  · subst h3
    exact ⟨rfl, List.length_eq_zero_iff.1 (by omega)⟩
  · cases h3
theorem View.lt (h : View E w A cap l) {g : Nat} (hg : inA A g) : g < w.heap.size := by
  obtain ⟨o, rfl⟩ := hg
  obtain ⟨_, _, ⟨h3, _⟩ | ⟨g', o', h3, hg, _⟩⟩ := h
  · cases h3
  · simp only [Option.some.injEq, Addr.mk.injEq] at h3
    omega
theorem Own.lt (h : Own E w A cap l) {g : Nat} (hg : inA A g) : g < w.heap.size := h.view.lt hg
theorem Apart.ne1 {A : Option Addr} {b : Nat} (h : Apart A b) : ∀ g, inA A g → ¬ g = b := fun _ hg he => h (he ▸ hg)
variable {t ty : TypeId} {z : Value} {bytes : Nat}
structure ElemI (E : Enc P α) (t : TypeId) (bytes : Nat) : Prop where
  ty : P.underlying t = some (.slice E.T)
  info : ∃ i z, P.info? E.T = some i ∧ i.zero = some z ∧ i.size = E.n ∧ i.bytes = bytes ∧ z.cells.size = E.n
def Appended (E : Enc P α) (w : World) (A : Option Addr) (l : List α) (w1 : World) (A' : Option Addr) (cap' : Nat) : Prop :=
  Own E w1 A' cap' l ∧ Only (inA A) w w1 ∧ ∀ g, inA A' g → inA A g ∨ w.heap.size ≤ g
theorem run_append_in {i : TypeInfo} (ht : P.underlying t = some (.slice E.T)) (hi : P.info? E.T = some i) (hs : i.size = E.n) {g o n c : Nat} {cs : Array Value} (hB : Blk w g E.T cs) {u : Value} {m : Nat} {news : List Value} (hl : news.length = m * E.n)
    (hlen : (Builtin.lenOf u).run P w = .ok m w) (hf : (Builtin.firstCells E.n m u).run P w = .ok news.toArray w) (h1 : ∀ u ∈ news, u.oneCell' = true) (hroom : n + m ≤ c) (hfit : o + c * E.n ≤ cs.size) :
    (Builtin.append_ #[t, t] ty #[.slice (some ⟨g, o, none⟩) n c, u]).run P w = .ok (.slice (some ⟨g, o, none⟩) (n + m) c) (w.setRow g (cs.toList.take (o + n * E.n) ++ news ++ cs.toList.drop (o + n * E.n + news.length)).toArray) := by
  have hle : n * E.n + m * E.n ≤ c * E.n := by rw [← Nat.add_mul]; exact Nat.mul_le_mul_right _ hroom
  have hst := run_storeCells_at P g (o + n * E.n) E.T news 0 cs w hB (by rw [hl]; omega) h1
  simp only [Nat.add_zero] at hst
  simp [Builtin.append_, run_underlying ht, sizeOf, typeInfo, hi, hs, hlen, hroom, hf, Addr.add_mid, hst]
theorem run_append_E (hE : ElemI E t bytes) (h : Own E w A cap l) {B : Option Addr} {c : Nat} {l' : List α} (hv : View E w B c l') (hb : (l.length + l'.length) * bytes ≤ 140737488355328) (hm : l.length + l'.length ≤ maxLen) :
    ∃ A' cap' w1, (Builtin.append_ #[t, t] ty #[.slice A l.length cap, .slice B l'.length c]).run P w = .ok (.slice A' (l ++ l').length cap') w1 ∧ Appended E w A (l ++ l') w1 A' cap' := by
  obtain ⟨i, z, hi, hz, hs, hby, hzc⟩ := hE.info
  have hlen : (Builtin.lenOf (.slice B l'.length c)).run P w = .ok l'.length w := by simp [Builtin.lenOf]
  have hn : (l'.flatMap E.cells).length = l'.length * E.n := flat_len l'
  have h1 : ∀ u ∈ l'.flatMap E.cells, u.oneCell' = true := by
    intro u hu
    obtain ⟨x, _, hx⟩ := List.mem_flatMap.1 hu
    exact E.one x u hx
  have hsrc : (∃ ad, B = some ad ∧ ∀ j v, (l'.flatMap E.cells)[j]? = some v → w.cell? (ad.add j) = some v) ∨ (B = none ∧ l' = []) := by
    obtain ⟨q1, _, ⟨q2, q3⟩ | ⟨g, o, rfl, _, hr⟩⟩ := hv
    · exact .inr ⟨q2, List.eq_nil_of_length_eq_zero (by omega)⟩
    · exact .inl ⟨_, rfl, fun j v hj => by rw [Addr.add_mid]; exact hr j v hj⟩
  have hfirst : (Builtin.firstCells E.n l'.length (.slice B l'.length c)).run P w = .ok (l'.flatMap E.cells).toArray w := by
    rcases hsrc with ⟨ad, rfl, hc⟩ | ⟨rfl, rfl⟩
    · exact run_firstCells_some (P := P) w E.n l'.length ad l'.length c _ hn hc
    · exact run_firstCells_none (P := P) w E.n _ _ _
  have hlt : l.length + l'.length ≤ 9223372036854775807 := by unfold maxLen at hm; omega
  rw [List.length_append]
  have fresh : ∀ (cells : Array Value) (cap' : Nat), cap' ≤ maxLen → l.length + l'.length ≤ cap' → cells.size = cap' * E.n → (cells.toList.take ((l.length + l'.length) * E.n)) = (l ++ l').flatMap E.cells →
      Appended E w A (l ++ l') (w.drew.alloc (.cells cells E.T)) (some ⟨w.heap.size, 0, none⟩) cap' := by
    intro cells cap' hc1 hc2 hc3 hc4
    refine ⟨⟨by rw [List.length_append]; exact hc2, hc1, .inr ⟨w.heap.size, 0, cells, rfl, Go.heap_alloc_new w.drew _, by omega, ?_⟩⟩, ((Only.refl _ w).drew).alloc _, ?_⟩
    · rw [List.drop_zero, List.length_append]
      exact hc4
    · rintro g ⟨o, ho⟩
      simp only [Option.some.injEq, Addr.mk.injEq] at ho
      omega
  obtain ⟨k1, k2, ⟨rfl, rfl⟩ | ⟨g, o, cs, rfl, hB, hfit, htake⟩⟩ := h
  · have hl0 : l = [] := List.eq_nil_of_length_eq_zero (by omega)
    subst hl0
    rcases hsrc with ⟨ad, rfl, hc⟩ | ⟨rfl, rfl⟩
    · by_cases h0 : l'.length = 0
      · have : l' = [] := List.eq_nil_of_length_eq_zero h0
        subst this
        refine ⟨none, 0, w, ?_, Own.nil, Only.refl _ _, fun g hg => .inl hg⟩
        simp at hfirst
        simp [Builtin.append_, run_underlying hE.ty, sizeOf, typeInfo, hi, Builtin.lenOf, hs, hfirst]
      · have hr := run_append_nil (P := P) w t ty E.T i z hE.ty hi hz ad l'.length c (l'.flatMap E.cells) (by rw [hn, hs]) hc (by omega) (by have h9 := hlt; simp at h9; omega) (by rw [hby]; simp at hb; omega)
        refine ⟨_, _, _, by simpa using hr, ?_⟩
        have hge := grownCap_ge w l'.length 0 E.T
        refine fresh _ _ (grownCap_le_maxLen w _ _ _ (by simpa using hm)) (by simpa using hge) ?_ ?_
        · simp only [Array.size_append, List.size_toArray, size_zeroCells, hzc, hn, ← Nat.add_mul]
          congr 1
          omega
        · simp only [Array.toList_append, List.length_nil, Nat.zero_add, List.nil_append]
          rw [List.take_append_of_le_length (by simp [hn]), List.take_of_length_le (by simp [hn])]
    · refine ⟨none, 0, w, ?_, Own.nil, Only.refl _ _, fun g hg => .inl hg⟩
      simp [Builtin.append_, run_underlying hE.ty, sizeOf, typeInfo, hi, Builtin.lenOf, Builtin.firstCells]
  · by_cases hroom : l.length + l'.length ≤ cap
    · have hr := run_append_in (ty := ty) (n := l.length) hE.ty hi hs hB hn hlen hfirst h1 hroom hfit
      have hle : l.length * E.n + l'.length * E.n ≤ cap * E.n := by rw [← Nat.add_mul]; exact Nat.mul_le_mul_right _ hroom
      refine ⟨_, _, _, hr, ⟨by rw [List.length_append]; exact hroom, k2, .inr ⟨g, o, _, rfl, setRow_self' hB, ?_, ?_⟩⟩, (Only.refl (inA (some ⟨g, o, none⟩)) w).setRow (fun _ => ⟨o, rfl⟩) _, fun g' hg' => .inl hg'⟩
      · simp only [List.size_toArray, List.length_append, List.length_take, List.length_drop, Array.length_toList, hn]
        omega
      · have hlt2 : l.flatMap E.cells = (cs.toList.take (o + l.length * E.n)).drop o := by rw [← htake, List.drop_take]; congr 1; omega
        have hll := flat_len (E := E) l
        have e0 : o + l.length * E.n ≤ cs.toList.length := by
          have : cs.toList.length = cs.size := Array.length_toList
          omega
        rw [List.length_append, Nat.add_mul, List.flatMap_append, List.append_assoc, List.drop_append, List.length_take, Nat.min_eq_left e0, show o - (o + l.length * E.n) = 0 by omega, List.drop_zero, ← hlt2,
          List.take_append, hll, List.take_of_length_le (by omega), show l.length * E.n + l'.length * E.n - l.length * E.n = l'.length * E.n by omega, List.take_append_of_le_length (by omega), List.take_of_length_le (by omega)]
    · rcases hsrc with ⟨ad, rfl, hc⟩ | ⟨rfl, rfl⟩
      · have holds : ∀ j v, (l.flatMap E.cells)[j]? = some v → w.cell? ((⟨g, o, none⟩ : Addr).add j) = some v := by
          intro j v hj
          rw [Addr.add_mid]
          exact hB.part htake j v hj
        have hr := run_append_grow (P := P) w t ty E.T i z hE.ty hi hz ⟨g, o, none⟩ l.length cap (l.flatMap E.cells) (by rw [flat_len, hs]) holds ad l'.length c (l'.flatMap E.cells) (by rw [hn, hs]) hc (by omega) (by omega) (growslice_fits (by omega) (by rw [hby]; exact hb))
        refine ⟨_, _, _, hr, ?_⟩
        have hge := grownCap_ge w (l.length + l'.length) cap E.T
        refine fresh _ _ (grownCap_le_maxLen w _ _ _ hm) hge ?_ ?_
        · simp only [Array.size_append, List.size_toArray, size_zeroCells, hzc, flat_len, ← Nat.add_mul]
          congr 1
          omega
        · have e1 : ((l ++ l').flatMap E.cells).length = (l.length + l'.length) * E.n := by rw [flat_len, List.length_append]
          simp only [Array.toList_append]
          rw [← e1, ← List.flatMap_append]
          exact List.take_left
      · simp only [List.length_nil, Nat.add_zero] at hroom
        omega
end
section
variable {P : Program} {α : Type} [DecidableEq α] {E : Enc P α} {N : Nat × List Deferred} {T : List (Nat × Value)} {a : Act} {w : World} {Q : Exit → Act → World → Prop} {ops : Array Oper} {rest : List Oper} {o : Oper} {d : Nat} {t : TypeId} {bytes : Nat}
theorem fx_append (hE : ElemI E t bytes) (fr : Fr N T a) (hw : Region.wanted o (yielded ops a.tmps) = true) (hd : o.dst = some d) (hN : d < N.1) {x y : Operand} (ho : o.op = .call { callee := .builtin .append, args := #[x, y], argTypes := #[t, t] })
    {A B : Option Addr} {cap c n m : Nat} {l l' : List α} (hx : a.eval x = .slice A n cap) (hy : a.eval y = .slice B m c) (hn : n = l.length) (hm' : m = l'.length) (h : Own E w A cap l) (hv : View E w B c l') (hb : (l.length + l'.length) * bytes ≤ 140737488355328) (hm : l.length + l'.length ≤ maxLen)
    (next : ∀ A' cap' w1, Own E w1 A' cap' (l ++ l') → Only (inA A) w w1 → (∀ g, inA A' g → inA A g ∨ w.heap.size ≤ g) → ∀ a, Fr N ((d, .slice A' (l ++ l').length cap') :: T) a → wpList P ops Q rest a w1) : wpList P ops Q (o :: rest) a w := by
  subst hn hm'
  obtain ⟨A', cap', w1, hr, h1, h2, h3⟩ := run_append_E (ty := o.type) hE h hv hb hm
  refine fx_val (v := .slice A' (l ++ l').length cap') (w1 := w1) fr hw hd hN ?_ fun a fr => next A' cap' w1 h1 h2 h3 a fr
  simp [execOp, ho, resolve, invoke, builtin, hx, hy, hr, Result.andThen]
end
section
variable {P : Program} {α : Type} [DecidableEq α] {E : Enc P α} {w : World} {A : Option Addr} {cap : Nat} {l : List α}
theorem View.some_ (h : View E w A cap l) (hk : 0 < l.length) : ∃ g o, A = some ⟨g, o, none⟩ := by
  obtain ⟨g, o, h1, _⟩ := h.at_ 0 hk
  exact ⟨g, o, h1⟩
theorem View.elem (h : View E w A cap l) {g o : Nat} (hA : A = some ⟨g, o, none⟩) (k : Nat) (d : α) (hk : k < l.length) : w.rangeAt g (o + k * E.n) (E.cells (l.getD k d)) := by
  obtain ⟨g', o', h1, _, h2⟩ := h.at_ k hk
  rw [hA] at h1
  simp only [Option.some.injEq, Addr.mk.injEq, and_true] at h1
  obtain ⟨rfl, rfl⟩ := h1
  rwa [List.getD_eq_getElem?_getD, List.getElem?_eq_getElem hk]
theorem range_cell {g o : Nat} {cs : List Value} (h : w.rangeAt g o cs) (q : Nat) {v : Value} (hv : cs[q]? = some v) {q' : Nat} (hq : o + q = q') : w.cell? ⟨g, q', none⟩ = some v := by
  subst hq; exact h q v hv
theorem View.pre (h : View E w A cap l) (k : Nat) : View E w A cap (l.take k) := by
  obtain ⟨h1, h2, h3⟩ := h
  refine ⟨Nat.le_trans (by simp; omega) h1, h2, h3.imp id fun ⟨g, o, e1, e2, e3⟩ => ⟨g, o, e1, e2, fun j v hj => e3 j v ?_⟩⟩
  have e : l.flatMap E.cells = (l.take k).flatMap E.cells ++ (l.drop k).flatMap E.cells := by rw [← List.flatMap_append, List.take_append_drop]
  rw [e, List.getElem?_append_left (List.getElem?_eq_some_iff.1 hj).1]
  exact hj
def cutA (A : Option Addr) (cap k n : Nat) : Option Addr := if cap = k then A else A.map (·.add (k * n))
theorem View.drop (h : View E w A cap l) (k : Nat) (hk : k ≤ l.length) : View E w (cutA A cap k E.n) (cap - k) (l.drop k) := by
  obtain ⟨h1, h2, ⟨rfl, h3⟩ | ⟨g, o, rfl, hg, hr⟩⟩ := h
  · refine ⟨by rw [List.length_drop]; omega, by omega, .inl ⟨?_, by omega⟩⟩
    unfold cutA; split <;> rfl
  · refine ⟨by rw [List.length_drop]; omega, by omega, .inr ?_⟩
    unfold cutA
    split
    · rename_i hc
      have : l.drop k = [] := List.drop_eq_nil_of_le (by omega)
      exact ⟨g, o, rfl, hg, by rw [this]; intro j v hj; simp at hj⟩
    · refine ⟨g, o + k * E.n, by simp [Addr.add_mid], hg, fun j v hj => ?_⟩
      rw [Nat.add_assoc]
      refine hr _ v ?_
      conv => lhs; rw [← List.take_append_drop k l, List.flatMap_append]
      have e : ((l.take k).flatMap E.cells).length = k * E.n := by rw [flat_len, List.length_take, Nat.min_eq_left hk]
      rw [List.getElem?_append_right (by rw [e]; omega), e, Nat.add_sub_cancel_left]
      exact hj
end
section
variable {P : Program} {w : World} {ev : Operand → Value} {o : Oper} {x y z : Operand} {k : IntKind} {t e s n c j : Nat} {A : Option Addr}
theorem x_indexV {g q : Nat} (hu : P.underlying t = some (.slice e)) (hs : (P.info? e).map (·.size) = some s) (ho : o.op = .indexAddr t x y) (hx : ev x = .slice A n c) (hA : A = some ⟨g, q, none⟩) (hy : ev y = .int k ((j : Nat) : Int)) (hj : j < n) {q' : Nat} (hq : q + j * s = q') :
    (execOp ev o).run P w = .ok (.value (.pointer (some ⟨g, q', none⟩))) w := by
  subst hA
  exact x_indexAddr hu hs ho hx hy hj hq
theorem run_bound {y : Nat} (hj : j ≤ y) (code : BoundsCode) : (Instr.sliceBound (.int k ((j : Nat) : Int)) y code).run P w = .ok j w := by
  simp [Instr.sliceBound, asIntOf, hj]
theorem x_slice_to (hu : P.underlying t = some (.slice e)) (hs : (P.info? e).map (·.size) = some s) (ho : o.op = .slice t x none (some y) none) (hx : ev x = .slice A n c) (hy : ev y = .int k ((j : Nat) : Int)) (hj : j ≤ c) :
    (execOp ev o).run P w = .ok (.value (.slice A j c)) w := by
  cases h3 : P.info? e with
  | none => simp [h3] at hs
  | some i =>
    simp only [h3, Option.map_some, Option.some.injEq] at hs
    cases A <;> simp [execOp, ho, hx, hy, Instr.sliceAt, Instr.slice, Instr.sliceBounds, run_underlying hu, run_bound hj, sizeOf, typeInfo, h3, Addr.add]
theorem x_slice_from (hu : P.underlying t = some (.slice e)) (hs : (P.info? e).map (·.size) = some s) (ho : o.op = .slice t x (some y) none none) (hx : ev x = .slice A n c) (hy : ev y = .int k ((j : Nat) : Int)) (hj : j ≤ n) :
    (execOp ev o).run P w = .ok (.value (.slice (cutA A c j s) (n - j) (c - j))) w := by
  cases h3 : P.info? e with
  | none => simp [h3] at hs
  | some i =>
    simp only [h3, Option.map_some, Option.some.injEq] at hs
    simp [execOp, ho, hx, hy, Instr.sliceAt, Instr.slice, Instr.sliceBounds, run_underlying hu, run_bound hj, sizeOf, typeInfo, h3, hs, cutA]
end
theorem inA_new {b : Nat} : ∀ g, inA (some ⟨b, 0, none⟩) g → b ≤ g := by
  rintro g ⟨o, ho⟩
  simp only [Option.some.injEq, Addr.mk.injEq] at ho
  omega
theorem apart_none (b : Nat) : Apart none b := by rintro ⟨o, ho⟩; cases ho
theorem only_none {w w' : World} (h : Only (inA none) w w') : New w w' := h.mono fun i _ hi => absurd hi (apart_none i)
theorem moved_apart {w : World} {A A' : Option Addr} {b : Nat} (h : ∀ g, inA A' g → inA A g ∨ w.heap.size ≤ g) (ha : Apart A b) (hb : b < w.heap.size) : Apart A' b := fun hi => by
  rcases h b hi with h1 | h1
  · exact ha h1
  · omega
theorem moved_apart2 {w : World} {A A' B : Option Addr} (h : ∀ g, inA A' g → inA A g ∨ w.heap.size ≤ g) (ha : Apart2 A B) (hb : ∀ g, inA B g → g < w.heap.size) : Apart2 A' B := fun k h1 h2 => by
  rcases h k h1 with h3 | h3
  · exact ha k h3 h2
  · have := hb k h2; omega
theorem new_apart {w : World} {A : Option Addr} {b : Nat} (h : ∀ g, inA A g → w.heap.size ≤ g) (hb : b < w.heap.size) : Apart A b := fun hi => by
  have := h b hi; omega
theorem new_apart2 {w : World} {A B : Option Addr} (h : ∀ g, inA A g → w.heap.size ≤ g) (hb : ∀ g, inA B g → g < w.heap.size) : Apart2 A B := fun k h1 h2 => by
  have := h k h1; have := hb k h2; omega
theorem Apart2.symm {A B : Option Addr} (h : Apart2 A B) : Apart2 B A := fun k h1 h2 => h k h2 h1
theorem Only.locA {S : Nat → Prop} {a w w' : World} {A : Option Addr} (h : Only S a w) (k : Only (inA A) w w') (hA : ∀ g, inA A g → S g ∨ a.heap.size ≤ g) : Only S a w' :=
  h.trans k fun i hi he => (hA i he).elim id fun h => by omega
theorem Only.loc2 {S : Nat → Prop} {a w w' : World} {b : Nat} {A : Option Addr} (h : Only S a w) (k : Only (fun j => j = b ∨ inA A j) w w') (hb : S b ∨ a.heap.size ≤ b) (hA : ∀ g, inA A g → S g ∨ a.heap.size ≤ g) : Only S a w' :=
  h.trans k fun i hi he => he.elim (fun e => by subst e; exact hb.elim id fun h => by omega) fun he => (hA i he).elim id fun h => by omega
theorem gA_new {S : Nat → Prop} {a w : World} {A : Option Addr} (hF : Only S a w) (h : ∀ g, inA A g → w.heap.size ≤ g) : ∀ g, inA A g → S g ∨ a.heap.size ≤ g := fun g hg => .inr (Nat.le_trans hF.size (h g hg))
theorem gA_moved {S : Nat → Prop} {a w : World} {A A' : Option Addr} (hF : Only S a w) (h : ∀ g, inA A' g → inA A g ∨ w.heap.size ≤ g) (hA : ∀ g, inA A g → S g ∨ a.heap.size ≤ g) : ∀ g, inA A' g → S g ∨ a.heap.size ≤ g :=
  fun g hg => (h g hg).elim (hA g) fun h => .inr (Nat.le_trans hF.size h)
theorem gA_none {S : Nat → Prop} {a : World} : ∀ g, inA none g → S g ∨ a.heap.size ≤ g := fun g hg => absurd hg (apart_none g)
theorem fold_set (l : List Value) : ∀ (k : Nat) (z : Array Value), k + l.length ≤ z.size → (l.zipIdx k).foldl (fun cs x => cs.setIfInBounds x.2 x.1) z = (z.toList.take k ++ (l ++ z.toList.drop (k + l.length))).toArray := by
  induction l with
  | nil => intro k z h; simp
  | cons v l ih =>
    intro k z h
    simp only [List.length_cons] at h
    rw [List.zipIdx_cons, List.foldl_cons, ih (k + 1) _ (by simp; omega)]
    obtain ⟨z⟩ := z
    simp only [List.size_toArray] at h
    congr 1
    simp only [List.setIfInBounds_toArray]
    rw [List.take_set, List.drop_set_of_lt (by omega), List.take_succ_eq_append_getElem (by omega), List.set_append_right _ _ (by rw [List.length_take]; omega)]
    simp [List.length_take, Nat.min_eq_left (show k ≤ z.length by omega), Nat.add_assoc, Nat.add_comm 1 l.length]
theorem fill_one {n : Nat} (z cs : Array Value) (h0 : z.size = n) (hc : cs.size = n) : Instr.fill (fun q => some (q * n, n)) z [(0, .agg cs)] = some cs := by
  have hcells : (Value.agg cs).cells = cs := rfl
  unfold Instr.fill
  simp only [Nat.zero_mul, hcells, hc, h0, ne_eq, not_true_eq_false, decide_false, Bool.false_or, Nat.zero_add, gt_iff_lt, Nat.lt_irrefl, Bool.false_eq_true, if_false]
  unfold Instr.fill
  congr 1
  rw [← Array.foldl_toList, Array.toList_zipIdx]
  have hfs := fold_set cs.toList 0 z (by simp [hc, h0])
  rw [hfs]
  apply Array.ext'
  simp [hc, h0]
section
variable {P : Program} {α : Type} [DecidableEq α] {E : Enc P α} {N : Nat × List Deferred} {T : List (Nat × Value)} {a : Act} {w : World} {Q : Exit → Act → World → Prop} {ops : Array Oper} {rest : List Oper} {o : Oper} {d : Nat} {t : TypeId} {bytes : Nat}
theorem fx_build1 (hE : ElemI E t bytes) (hs : E.n ≤ 1000) (fr : Fr N T a) (hw : Region.wanted o (yielded ops a.tmps) = true) (hd : o.dst = some d) (hN : d < N.1) {x : Operand} (ho : o.op = .buildSlice t 1 #[(0, x)]) {p : α} (hx : a.eval x = .agg (E.arr p))
    (next : ∀ A w1, New w w1 → Own E w1 A 1 [p] → (∀ g, inA A g → w.heap.size ≤ g) → ∀ a, Fr N ((d, .slice A 1 1) :: T) a → wpList P ops Q rest a w1) : wpList P ops Q (o :: rest) a w := by
  obtain ⟨i, z, hi, hz, hsz, hby, hzc⟩ := hE.info
  have hpos := E.pos
  refine fx_val (v := .slice (some ⟨w.heap.size, 0, none⟩) 1 1) (w1 := w.alloc (.cells (E.arr p) E.T)) fr hw hd hN ?_ fun a fr => next _ _ ((Only.refl _ w).alloc _) ⟨by simp, by unfold maxLen; omega, .inr ⟨_, 0, _, rfl, Go.heap_alloc_new w _, by rw [E.size]; omega, ?_⟩⟩ inA_new a fr
  · have hfill : Instr.fill (fun q => some (q * i.size, i.size)) ((Array.range (1 * i.size)).map (z.cells[· % z.cells.size]!)) [(0, .agg (E.arr p))] = some (E.arr p) := fill_one _ _ (by simp) (by rw [E.size, hsz])
    have := run_buildSlice (P := P) w t E.T 1 #[(0, .agg (E.arr p))] (E.arr p) i z hE.ty hi hz (by rw [hsz]; omega) (by rw [hsz]; omega) hfill
    simp [execOp, ho, hx, this]
  · rw [List.drop_zero, E.toList, List.take_of_length_le (by rw [E.len]; simp)]
    simp
theorem fx_build0 (hE : ElemI E t bytes) (fr : Fr N T a) (hw : Region.wanted o (yielded ops a.tmps) = true) (hd : o.dst = some d) (hN : d < N.1) (ho : o.op = .buildSlice t 0 #[])
    (next : ∀ A w1, New w w1 → Own E w1 A 0 [] → (∀ g, inA A g → w.heap.size ≤ g) → ∀ a, Fr N ((d, .slice A 0 0) :: T) a → wpList P ops Q rest a w1) : wpList P ops Q (o :: rest) a w := by
  obtain ⟨i, z, hi, hz, hsz, hby, hzc⟩ := hE.info
  refine fx_val (v := .slice (some ⟨w.heap.size, 0, none⟩) 0 0) (w1 := w.alloc (.cells #[] E.T)) fr hw hd hN ?_ fun a fr => next _ _ ((Only.refl _ w).alloc _) ⟨by simp, by unfold maxLen; omega, .inr ⟨_, 0, _, rfl, Go.heap_alloc_new w _, by simp, by simp⟩⟩ inA_new a fr
  simp [execOp, ho, Instr.buildSlice, run_underlying hE.ty, sizeOf, typeInfo, hi, Instr.fill, newRow]
  congr 2
  apply Array.ext
  · simp
  · intro j h1 h2
    simp at h2
end
end Go.Proofs.Ytflnlmibkbojcaa
namespace Go.Proofs.Ytflnlmibkbojcaa
open Go.RowKit
theorem only_of_grown {w w' : World} {row : Option Nat} (h : w.grownBy w' row) : Only (fun k => some k = row) w w' := ⟨h.os, h.tape, h.output, h.size, fun k hk hs => h.block k hk hs⟩
theorem grown_of_new {w w' : World} (h : New w w') : w.grownBy w' none := ⟨h.os, h.tape, h.output, h.size, fun k hk _ => h.block k hk id⟩
theorem AbidesFrom.new {β : Type} {B : Nat} {J : β → World → Prop} (hJ : AbidesFrom B J) {s : β} {w w' : World} (h : J s w) (k : New w w') : J s w' := hJ s w w' none h (grown_of_new k) (fun _ e => by cases e)
def Turn (B : Nat) (w w' : World) : Prop := Only (fun k => B ≤ k ∧ ∃ o : Obj, w.heap[k]? = some o ∧ o.isCells = false) w w'
theorem Blk.turn {B : Nat} {w w' : World} {b t : Nat} {cs : Array Value} (h : Blk w b t cs) (k : Turn B w w') : Blk w' b t cs :=
  h.only k fun ⟨_, o, ho, hc⟩ => by
    have : w.heap[b]? = some (.cells cs t (0, 0)) := h
    rw [ho] at this
    cases this
    cases hc
theorem Own.turn {P : Program} {α : Type} [DecidableEq α] {E : Enc P α} {B : Nat} {w w' : World} {A : Option Addr} {cap : Nat} {l : List α} (h : Own E w A cap l) (k : Turn B w w') : Own E w' A cap l := by
  refine h.only k fun g ⟨o, hg⟩ ⟨_, ob, ho, hc⟩ => ?_
  obtain ⟨_, _, ⟨h3, _⟩ | ⟨g', o', cs, h3, hb, _⟩⟩ := h
  · rw [h3] at hg; cases hg
  · rw [h3] at hg
    cases hg
    have : w.heap[g]? = some (.cells cs E.T (0, 0)) := hb
    rw [ho] at this
    cases this
    cases hc
theorem Only.turn {S : Nat → Prop} {B : Nat} {a w w' : World} (h : Only S a w) (k : Turn B w w') (hB : a.heap.size ≤ B) : Only S a w' :=
  h.trans k fun i hi ⟨hb, _⟩ => by omega
theorem keepsFrom_of_only {S : Nat → Prop} {B : Nat} {w w' : World} (h : Only S w w') (hS : ∀ k, k < w.heap.size → S k → ∃ o : Obj, w.heap[k]? = some o ∧ o.isCells = true) : KeepsFrom B w w' :=
  ⟨h.size, fun k o _ hk ho => by
    have hlt := (Array.getElem?_eq_some_iff.1 hk).1
    refine (h.block k hlt fun hs => ?_).trans hk
    obtain ⟨o', h1, h2⟩ := hS k hlt hs
    rw [hk] at h1
    cases h1
    rw [ho] at h2
    cases h2⟩
theorem Own.cells {P : Program} {α : Type} [DecidableEq α] {E : Enc P α} {w : World} {A : Option Addr} {cap : Nat} {l : List α} (h : Own E w A cap l) {g : Nat} (hg : inA A g) : ∃ o : Obj, w.heap[g]? = some o ∧ o.isCells = true := by
  obtain ⟨o, hg⟩ := hg
  obtain ⟨_, _, ⟨h3, _⟩ | ⟨g', o', cs, h3, hb, _⟩⟩ := h
  · rw [h3] at hg; cases hg
  · rw [h3] at hg
    cases hg
    exact ⟨_, hb, rfl⟩
section
variable {P : Program} {a : Act} {w : World} {Q : Exit → Act → World → Prop} {ops : Array Oper} {n l : Nat}
theorem rows_wide {row : String} {args : Array Value} {R : Value → World → Prop} (h : Rows P row args w R) : RowsIn (Fence.wide.inRound l) n P row args w R := fun c cs _ => by
  obtain ⟨v, w', hr, hs⟩ := h c cs
  exact ⟨v, w', hr, stepsIn_wide.2 hs⟩
theorem oper_in {o : Oper} {K : Act → World → Prop} (hnd : ∀ c, o.op ≠ .defer c) (h : o.wp P a w K Q) (hlo : ¬ LetsOut Q) : o.wpIn (Fence.wide.inRound l) n P a w K Q := by
  refine ⟨fun _ _ => trivial, ?_⟩
  unfold Oper.wp at h
  show o.uponIn _ n P a K Q ((o.semAt (some l) a.eval).run P w)
  rw [Oper.semAt_some l a.eval o hnd]
  generalize (execOp a.eval o).run P w = r at *
  cases r with
  | ok v w' =>
    cases v with
    | value v => exact h
    | skip => exact h
    | defer d => exact h
    | enter f args =>
      refine ⟨fun hd => (by cases hd), ?_⟩
      exact CallsIn.inRound l (callsIn_wide.2 h)
    | row r args => exact ⟨fun hd => (by cases hd), rows_wide h⟩
    | _ => exact h.elim
  | halt x w' => cases x <;> exact h
theorem list_in : ∀ (rest : List Oper) (a : Act) (w : World), (∀ o ∈ rest, ∀ c, o.op ≠ .defer c) → ¬ LetsOut Q → wpList P ops Q rest a w → wpListIn (Fence.wide.inRound l) n P ops Q rest a w
  | [], _, _, _, _, h => h
  | o :: rest, a, w, hnd, hlo, h => by
    unfold wpList at h
    unfold wpListIn
    split
    · rename_i hw
      rw [if_pos hw] at h
      rcases h with h | ⟨_, h⟩
      · exact oper_in (hnd o (by simp)) (Oper.wp_mono (fun a w h => list_in rest a w (fun o ho => hnd o (by simp [ho])) hlo h) h) hlo
      · exact absurd h hlo
    · rename_i hw
      rw [if_neg hw] at h
      exact ⟨fun _ _ => trivial, list_in rest _ w (fun o ho => hnd o (by simp [ho])) hlo h⟩
def noDefer (ops : List Oper) : Bool := ops.all fun o => match o.op with | .defer _ => false | _ => true
theorem noDefer_at {ops : List Oper} (h : noDefer ops = true) : ∀ o ∈ ops, ∀ c, o.op ≠ .defer c := fun o ho c hc => by
  have := List.all_eq_true.1 h o ho
  rw [hc] at this
  cases this
theorem fxr_region {id : Nat} {l' : List Oper} (hnd : noDefer l' = true) (hlo : ¬ LetsOut Q) (h : wpList P l'.toArray Q l' a w) : (Code.region id l'.toArray false).wpIn (Fence.wide.inRound l) n P Q a w :=
  wpIn_region_lit (list_in l' a w (noDefer_at hnd) hlo h)
end
section
variable {P : Program} {w : World} {Q : Exit → Act → World → Prop} {T : List (Nat × Value)} {a : Act} {n : Nat}
theorem fx_enterM {f : FuncId} {fn : Func} {c : Code} {args : Array Value} {R : Ending → World → Prop} {N : Nat × List Deferred} (hf : P.funcs[f]? = some fn) (hb : fn.body = some c) (hN : (fn.ntmps, []) = N) (hle : args.size ≤ N.1) (hT : Args args T)
    (h : ∀ a, Fr N T a → c.wp P (bodyPostM Fence.wide 9 P fn R) a w) : Calls P f args w R := by
  subst hN
  refine (callsIn_wide (n := 9)).1 (callsIn_of_wp_marks hf hb trivial (wpIn_wide.2 (h _ ⟨rfl, ?_, fun t v hl => ?_⟩)) rfl)
  · simp at hle ⊢; omega
  · have := hT.look hl
    have hlt : t < args.size := (Array.getElem?_eq_some_iff.1 this).1
    simp [Array.getElem?_append_left hlt, this]
theorem turn_put {B : Nat} {w : World} {D : Nat} (hB : B ≤ D) (hD : w.heap[D]? = some (.deferred (some []))) : Turn B w (w.putObj D (.deferred none)) :=
  (only_of_grown (grownBy_putObj' w D _)).trans (Only.refl (fun _ => False) _) (fun _ _ h => h.elim) |>.mono fun k _ hk => by
    cases hk
    exact ⟨hB, _, hD, rfl⟩
theorem fx_retM1 {fn : Func} {R : Ending → World → Prop} {B D : Nat} (fr : Fr (n, [{ target := .collected D, args := #[] }]) T a) (hB : B ≤ D) (hD : w.heap[D]? = some (.deferred (some []))) (rs : List ResultVar) (vs : List Value) (hr : fn.results = rs.toArray)
    {v : Value} (hv : (if h : vs.toArray.size = 1 then vs.toArray[0] else .tuple vs.toArray) = v) (hR : ∀ w', Turn B w w' → Res P w' T rs vs ∧ R (.returned v) w') : bodyPostM Fence.wide 9 P fn R .ret a w := by
  show LeavesInM _ _ _ _ _ _ a.defers _ _
  rw [fr.df]
  obtain ⟨h1, h2⟩ := hR _ (turn_put hB hD)
  refine ⟨by simp, .inl ⟨D, _, rfl, run_takeDeferred hD, ?_⟩⟩
  exact ⟨v, by rw [results_run fr hr h1, hv], h2⟩
end
def MarkAt (w : World) (D : Nat) : Prop := w.heap[D]? = some (.deferred (some []))
theorem MarkAt.lt {w : World} {D : Nat} (h : MarkAt w D) : D < w.heap.size := (Array.getElem?_eq_some_iff.1 h).1
theorem MarkAt.only {S : Nat → Prop} {w w' : World} {D : Nat} (h : MarkAt w D) (k : Only S w w') (hs : ¬ S D) : MarkAt w' D := (k.block D h.lt hs).trans h
section
variable {P : Program} {N : Nat × List Deferred} {T : List (Nat × Value)} {a : Act} {w w1 : World} {Q : Exit → Act → World → Prop} {ops : Array Oper} {rest : List Oper} {o : Oper} {d n : Nat} {v : Value}
theorem fx_sn (h : Q .normal a w) : Exit.noGoto Q .normal a w := h
theorem fxi_region {id : Nat} {l : List Oper} (h : wpListIn Fence.wide 8 P l.toArray Q l a w) : (Code.region id l.toArray false).wp P Q a w := (wpIn_wide (n := 8)).1 (wpIn_region_lit h)
theorem fxi_val (fr : Fr N T a) (hw : Region.wanted o (yielded ops a.tmps) = true) (hd : o.dst = some d) (hN : d < N.1) (hrun : (execOp a.eval o).run P w = .ok (.value v) w1)
    (next : ∀ a, Fr N ((d, v) :: T) a → wpListIn Fence.wide n P ops Q rest a w1) : wpListIn Fence.wide n P ops Q (o :: rest) a w := by
  unfold wpListIn
  rw [if_pos hw]
  refine ⟨fun _ _ => trivial, ?_⟩
  show o.uponIn _ n P a _ Q ((o.semAt none a.eval).run P w)
  rw [Oper.semAt_none, hrun]
  refine next _ ?_
  rw [hd]
  exact fr.put d v hN
theorem fxi_yield (fr : Fr N T a) (hw : Region.wanted o (yielded ops a.tmps) = true) (hd : o.dst = some d) (hN : d < N.1) {t l : Nat} {x : Operand} {ts : Array TypeId} (ho : o.op = .call { callee := .value (.tmp t), args := #[x], argTypes := ts })
    (hf : a.eval (.tmp t) = .func (.yield l) #[] #[]) (hx : a.eval x = v) {R1 R2 : World → Prop} (hY : YieldAt Fence.wide (n - 1) P l #[v] w fun e W' => (e = .returned (.bool true) ∧ R1 W') ∨ (e = .returned (.bool false) ∧ R2 W'))
    (yes : ∀ w1, R1 w1 → ∀ a, Fr N ((d, .bool true) :: T) a → wpListIn Fence.wide n P ops Q rest a w1) (no : ∀ w1, R2 w1 → ∀ a, Fr N ((d, .bool false) :: T) a → wpListIn Fence.wide n P ops Q rest a w1) : wpListIn Fence.wide n P ops Q (o :: rest) a w := by
  obtain ⟨fn, tmps, assign, body, hy, hR⟩ := hY
  unfold wpListIn
  rw [if_pos hw]
  refine ⟨fun _ _ => trivial, ?_⟩
  show o.uponIn _ n P a _ Q ((o.semAt none a.eval).run P w)
  have hrun : (execOp a.eval o).run P w = .ok (.round l fn tmps assign body) w := by
    simp [execOp, ho, resolve, Deferred.ofValue, hf, hx, invoke, hy]
  rw [Oper.semAt_none, hrun]
  refine ⟨fun hd => (by cases hd), hR.mono ?_⟩
  rintro e W' (⟨rfl, h⟩ | ⟨rfl, h⟩)
  · refine yes W' h _ ?_
    rw [hd]
    exact fr.put d _ hN
  · refine no W' h _ ?_
    rw [hd]
    exact fr.put d _ hN
theorem x_makeFunc {ev : Operand → Value} {fn : Fn} {cap : List Operand} {vs : List Value} (ho : o.op = .makeFunc fn #[] cap.toArray) (hv : Evs ev cap vs) : (execOp ev o).run P w = .ok (.value (.func fn #[] vs.toArray)) w := by
  simp [execOp, ho, Instr.makeFunc, hv.map]
theorem below_new {w w' : World} (h : Below w.heap.size w w') : New w w' := ⟨h.os, h.tape, h.output, h.size, fun k hk _ => h.block k hk⟩
end
end Go.Proofs.Ytflnlmibkbojcaa
namespace Go.Proofs.Ytflnlmibkbojcaa
open Go.RowKit
section
variable {P : Program} {w : World} {ev : Operand → Value} {o : Oper} {x y z : Operand} {k k0 : IntKind} {m n r : Int} {v u : Value}
theorem x_convert {S D : TypeId} {d : TypeDesc} (hS : P.underlying S = some d) (hD : P.underlying D = some (.int k)) (ho : o.op = .convert S D x) (hx : ev x = .int k0 m) (hr : k.wrap m = r) : (execOp ev o).run P w = .ok (.value (.int k r)) w := by
  subst hr
  simp [execOp, ho, hx, convert, run_underlying hS, run_underlying hD, Conv.intToInt]
theorem x_shr {T T' : TypeId} (ho : o.op = .binOp .shr T x y T') (hx : ev x = .int k m) (hy : ev y = .int k0 n) (h0 : 0 ≤ n) (hr : m.fdiv (2 ^ min n.toNat k.bits) = r) : (execOp ev o).run P w = .ok (.value (.int k r)) w := by
  subst hr
  simp [execOp, ho, hx, hy, eqGuard, binOp, Op.shift, show ¬ n < 0 by omega]
theorem x_shl {T T' : TypeId} (ho : o.op = .binOp .shl T x y T') (hx : ev x = .int k m) (hy : ev y = .int k0 n) (h0 : 0 ≤ n) (hr : k.wrap (m * 2 ^ min n.toNat k.bits) = r) : (execOp ev o).run P w = .ok (.value (.int k r)) w := by
  subst hr
  simp [execOp, ho, hx, hy, eqGuard, binOp, Op.shift, show ¬ n < 0 by omega]
theorem x_and {T T' : TypeId} (ho : o.op = .binOp .and T x y T') (hx : ev x = .int k m) (hy : ev y = .int k n) (hr : k.wrap (BitVec.ofInt k.bits m &&& BitVec.ofInt k.bits n).toNat = r) : (execOp ev o).run P w = .ok (.value (.int k r)) w := by
  subst hr
  simp [execOp, ho, hx, hy, eqGuard, binOp, Op.intBits]
theorem x_or {T T' : TypeId} (ho : o.op = .binOp .or T x y T') (hx : ev x = .int k m) (hy : ev y = .int k n) (hr : k.wrap (BitVec.ofInt k.bits m ||| BitVec.ofInt k.bits n).toNat = r) : (execOp ev o).run P w = .ok (.value (.int k r)) w := by
  subst hr
  simp [execOp, ho, hx, hy, eqGuard, binOp, Op.intBits]
theorem u32w {x r : Int} (h : x = r) (hb : 0 ≤ r ∧ r < 4294967296) : IntKind.u32.wrap x = r := by
  subst h; simp [IntKind.wrap, IntKind.signed, IntKind.bits]; omega
theorem u8m (x : Int) : IntKind.u8.wrap x = x % 256 := by simp [IntKind.wrap, IntKind.signed, IntKind.bits]
theorem u32q {m n : Int} (h0 : 0 ≤ m ∧ m < 4294967296) (hn : 0 < n) : IntKind.u32.wrap (m.tdiv n) = m / n := by
  rw [Int.tdiv_eq_ediv_of_nonneg h0.1]
  have h1 := Int.ediv_nonneg h0.1 (Int.le_of_lt hn)
  have h2 := Int.ediv_le_self n h0.1
  exact u32w rfl (by omega)
theorem rem_nn {m n : Int} (h : 0 ≤ m) : m.tmod n = m % n := Int.tmod_eq_emod_of_nonneg h
theorem x_indexArr {t e n s g q j : Nat} (hu : P.underlying t = some (.array n e)) (hs : (P.info? e).map (·.size) = some s) (ho : o.op = .indexAddr t x y) (hx : ev x = .pointer (some ⟨g, q, none⟩)) (hy : ev y = .int k ((j : Nat) : Int)) (hj : j < n)
    {q' : Nat} (hq : q + j * s = q') : (execOp ev o).run P w = .ok (.value (.pointer (some ⟨g, q', none⟩))) w := by
  subst hq
  cases h3 : P.info? e with
  | none => simp [h3] at hs
  | some i =>
    simp only [h3, Option.map_some, Option.some.injEq] at hs
    simp [execOp, ho, hx, hy, Instr.indexAt, run_underlying hu, asIntOf, sizeOf, typeInfo, h3, hs, Addr.add_mid, hj, Instr.sureAddr]
end
section
variable {P : Program} {N : Nat × List Deferred} {T : List (Nat × Value)} {a : Act} {w : World} {Q : Exit → Act → World → Prop} {ops : Array Oper} {rest : List Oper} {o : Oper} {d : Nat}
theorem fx_storeAt {t b q n : Nat} {tb : TypeId} {cs cs' vs : Array Value} {x y : Operand} (hs : (P.info? t).map (·.size) = some n) (hw : Region.wanted o (yielded ops a.tmps) = true) (hd : o.dst = none) (ho : o.op = .store t x y)
    (hx : a.eval x = .pointer (some ⟨b, q, none⟩)) (hy : a.eval y = .agg vs) (h1 : vs.all (·.oneCell') = true) (hB : Blk w b tb cs) (hn : vs.size = n) (hq : q + n ≤ cs.size) (hcs : (cs.toList.take q ++ vs.toList ++ cs.toList.drop (q + n)).toArray = cs')
    (next : ∀ w1, Only (fun k => k = b) w w1 → Blk w1 b tb cs' → wpList P ops Q rest a w1) : wpList P ops Q (o :: rest) a w := by
  refine fx_eff (w1 := w.setRow b cs') hw hd ?_ (next _ ((Only.refl (fun k => k = b) w).setRow (g := b) (fun _ => rfl) _) (setRow_self' hB))
  subst hcs hn
  cases h3 : P.info? t with
  | none => simp [h3] at hs
  | some inf =>
    simp only [h3, Option.map_some, Option.some.injEq] at hs
    have := run_storeCells_at P b q tb vs.toList 0 cs w hB (by simpa using hq) (fun v hv => by
      rw [Array.all_eq_true_iff_forall_mem] at h1
      exact h1 v (Array.mem_toList_iff.1 hv))
    simp only [Nat.add_zero, Array.length_toList] at this
    simp only [List.append_assoc] at this
    simp [execOp, ho, hx, hy, Instr.storeAt, Instr.sureAddr, storeVar, sizeOf, typeInfo, h3, hs, Value.cells]
    rw [this]
    rfl
end
end Go.Proofs.Ytflnlmibkbojcaa
namespace Go.Proofs.Ytflnlmibkbojcaa
def NE (a b : Nat) : Prop := ¬ a = b
theorem NE.mk {a b : Nat} (h : a < b) : NE a b := Nat.ne_of_lt h
theorem NE.symm {a b : Nat} (h : NE a b) : NE b a := fun e => h e.symm
end Go.Proofs.Ytflnlmibkbojcaa
namespace Go.Proofs.Ytflnlmibkbojcaa
open Go.RowKit
section
variable {P : Program} {N : Nat × List Deferred} {T : List (Nat × Value)} {a : Act} {w : World} {Q : Exit → Act → World → Prop} {n l : Nat}
theorem fxr_cond {x y : Code} {t : Nat} {b : Bool} (fr : Fr N T a) (hc : look T t = some (.bool b)) (ht : b = true → x.wpIn (Fence.wide.inRound l) n P Q a w) (hf : b = false → y.wpIn (Fence.wide.inRound l) n P Q a w) : (Code.cond (.tmp t) x y).wpIn (Fence.wide.inRound l) n P Q a w :=
  wpIn_cond_split (fr.ev hc) ht hf
end
def Turns {β : Type} (B : Nat) (I : β → World → Prop) : Prop := ∀ s w w', I s w → Turn B w w' → I s w'
theorem Turns.own {β : Type} {B : Nat} {I : β → World → Prop} (h : Turns B I) : OwnFrom B I := fun s A A' row hs hg hr =>
  h s A A' hs ((only_of_grown hg).mono fun k _ hk => by
    obtain ⟨h1, o, h2, h3⟩ := hr k hk.symm
    exact ⟨h1, o, h2, h3⟩)
def Step (SI : Nat → Prop) (W W' : World) : Prop := ∃ S, Only S W W' ∧ ∀ k, k < W.heap.size → S k → SI k ∧ ∃ o : Obj, W.heap[k]? = some o ∧ o.isCells = true
theorem Blk.cells {w : World} {b t : Nat} {cs : Array Value} (h : Blk w b t cs) : ∃ o : Obj, w.heap[b]? = some o ∧ o.isCells = true := ⟨_, h, rfl⟩
theorem Step.new {SI : Nat → Prop} {W W' : World} (h : New W W') : Step SI W W' := ⟨_, h, fun _ _ h => h.elim⟩
def roundQ {α : Type} (SI : Nat → Prop) (I : List α → World → Prop) (Ix : Code → List α → World → Prop) (xs : List α) (W : World) : Exit → Act → World → Prop
  | .normal, _, W' => Step SI W W' ∧ I xs W'
  | .ret, _, W' => Step SI W W' ∧ Ix .ret xs W'
  | .exit id, _, W' => Step SI W W' ∧ Ix (.exit id) xs W'
  | .goto _, _, _ => False
  | .panic _, _, _ => False
  | .outgrown, _, _ => False
theorem Step.only {SI : Nat → Prop} {W W' : World} (h : Step SI W W') : Only SI W W' := by
  obtain ⟨S, h1, h2⟩ := h
  exact h1.mono fun k hk hs => (h2 k hk hs).1
theorem Step.keeps {SI : Nat → Prop} {W W' : World} (h : Step SI W W') (B : Nat) : KeepsFrom B W W' := by
  obtain ⟨S, h1, h2⟩ := h
  exact keepsFrom_of_only h1 fun k hk hs => (h2 k hk hs).2
section
variable {P : Program} {N : Nat × List Deferred} {T : List (Nat × Value)} {a : Act} {w : World} {Q : Exit → Act → World → Prop}
theorem fx_range {α : Type} {xs : List α} {e : α → Value} (fr : Fr N T a) {tg p gf : Nat} {lb : Array Value} (hg : look T tg = some (.func (.func gf) #[] lb)) (hp : p < N.1) (eg : ∀ (args : Array Value) (w : World), (callFunc gf args).run P w = .ok (.enter gf args) w)
    {SI : Nat → Prop} (hSI : ∀ k, w.heap.size ≤ k → SI k) (hseq : SeqStopsK Fence.wide 8 P gf lb (fun x => #[e x]) (Only SI) (fun ys => ys = xs) (fun pre => pre <+: xs) xs.length w)
    (I : List α → World → Prop) (Ix : Code → List α → World → Prop) (Ax : α → Act → World → Prop) (hI : Turns w.heap.size I) (hIx : ∀ c, Turns w.heap.size (Ix c)) (hAx : ∀ x a', Turns w.heap.size fun (_ : Unit) W => Ax x a' W) (hIn : ∀ s w w', I s w → New w w' → I s w') (h0 : I [] w)
    {assign body : Code} (hassign : ∀ (l : Nat) (pre : List α) (x : α) (W : World) (K : Act → World → Prop), I pre W → (∀ a' W', New W W' → Ax x a' W' → K a' W') → ∀ a0, Fr (N.1, []) ((p, e x) :: T) a0 → assign.wpIn (Fence.wide.inRound l) 7 P (Exit.then K (fun _ _ _ => False)) a0 W)
    (hbody : ∀ (l : Nat) (pre : List α) (x : α) (a' : Act) (W : World), I pre W → Ax x a' W → pre.length < xs.length → body.wpIn (Fence.wide.inRound l) 7 P (roundQ SI I Ix (pre ++ [x]) W) a' W)
    (next : ∀ D W, w.heap.size ≤ D → I xs W → MarkAt W D → ∀ a, Fr (N.1, { target := .collected D, args := #[] } :: N.2) T a → Q .normal a W)
    (stop : ∀ D c pre W, w.heap.size ≤ D → pre <+: xs → Ix c pre W → MarkAt W D → ∀ a, Fr (N.1, { target := .collected D, args := #[] } :: N.2) T a → c.wp P Q a W) :
    (Code.rangeFunc (.tmp tg) #[p] assign body).wp P Q a w := by
  have frD : ∀ D, Fr (N.1, { target := .collected D, args := #[] } :: N.2) T { a with defers := { target := .collected D, args := #[] } :: a.defers } := fun D => ⟨by show _ :: a.defers = _ :: N.2; rw [fr.df], fr.sz, fr.get⟩
  refine (wpIn_wide (n := 9)).1 (wpIn_rangeFunc_ownH (F := Fence.wide) (n := 9) rfl (by decide) (gf := gf) (lb := lb) (fr.ev hg) trivial eg hseq (fun h k => h.tr k) ?_ (Below.refl _ _) (fun _ => rfl) I Ix hI.own (fun c => (hIx c).own) h0 Ax (fun x a' => (hAx x a').own) ?_ ?_ ?_ ?_)
  · intro W l o o' hl hh _ _
    exact (only_of_grown (grownBy_putObj' W l o')).mono fun k _ hk => by
      cases hk
      exact hSI _ hl
  · intro l pre x W K hi hK
    have hf0 := fr.put p (e x) hp
    have he : ((#[p] : Array Nat).zip #[e x]).foldl (fun t (p, v) => t.setIfInBounds p v) a.tmps = (a.put (some p) (e x)).tmps := by simp [Act.put]
    refine hassign l pre x W K hi (fun a' W' hn hax => hK a' W' (keepsFrom_of_only hn fun _ _ h => h.elim) (hn.mono fun _ _ h => h.elim) (hIn _ _ _ hi hn) hax) _ ?_
    rw [he]
    exact ⟨rfl, hf0.sz, hf0.get⟩
  · intro l pre x a' W _ _ hi hax hlen
    refine wpIn_mono (hbody l pre x a' W hi hax hlen) ?_
    intro ex a3 W3 h
    cases ex with
    | normal => exact ⟨h.1.keeps _, h.1.only, h.2⟩
    | ret => exact ⟨h.1.keeps _, h.2⟩
    | exit id => exact ⟨h.1.keeps _, h.2⟩
    | goto t => exact h.elim
    | panic c => exact h.elim
    | outgrown => exact h.elim
  · intro D ys W hD hys hi hK
    subst hys
    exact next D W hD hi hK _ (frD D)
  · intro D c pre W hD hsp hi hK
    exact wpIn_wide.2 (stop D c pre W hD hsp hi hK _ (frD D))
end
section
variable {P : Program} {α : Type} [DecidableEq α] {E : Enc P α}
theorem flat_setRec {x' : α} : ∀ (l : List α) (j : Nat), j < l.length → (l.set j x').flatMap E.cells = (l.flatMap E.cells).take (j * E.n) ++ (E.cells x' ++ (l.flatMap E.cells).drop (j * E.n + E.n))
  | [], j, h => by simp at h
  | x :: l, 0, _ => by
    simp only [List.set_cons_zero, List.flatMap_cons, Nat.zero_mul, List.take_zero, List.nil_append, Nat.zero_add]
    rw [List.drop_append, List.drop_eq_nil_of_le (by rw [E.len]; exact Nat.le_refl _), E.len, Nat.sub_self, List.drop_zero, List.nil_append]
  | x :: l, j + 1, h => by
    have ih := flat_setRec (x' := x') l j (by simpa using h)
    have e : (j + 1) * E.n = E.n + j * E.n := by rw [Nat.succ_mul, Nat.add_comm]
    simp only [List.set_cons_succ, List.flatMap_cons, ih, e]
    have hx0 : (E.cells x).drop (E.n + j * E.n + E.n) = [] := List.drop_eq_nil_of_le (by rw [E.len]; omega)
    rw [List.take_append, List.take_of_length_le (l := E.cells x) (by rw [E.len]; omega), E.len, Nat.add_sub_cancel_left, List.drop_append, hx0, E.len, List.nil_append, show E.n + j * E.n + E.n - E.n = j * E.n + E.n by omega, List.append_assoc]
variable {N : Nat × List Deferred} {T : List (Nat × Value)} {a : Act} {w : World} {Q : Exit → Act → World → Prop} {ops : Array Oper} {rest : List Oper} {o : Oper} {t : TypeId}
theorem fx_storeRec {A : Option Addr} {g o' cap j : Nat} {l : List α} {x' : α} {x y : Operand} (hs : (P.info? t).map (·.size) = some E.n) (hw : Region.wanted o (yielded ops a.tmps) = true) (hd : o.dst = none) (ho : o.op = .store t x y) (hA : A = some ⟨g, o', none⟩) (hO : Own E w A cap l) (hj : j < l.length)
    {ad : Nat} (hx : a.eval x = .pointer (some ⟨g, ad, none⟩)) (had : o' + j * E.n = ad) (hy : a.eval y = .agg (E.arr x'))
    (next : ∀ w1, Only (inA A) w w1 → Own E w1 A cap (l.set j x') → wpList P ops Q rest a w1) : wpList P ops Q (o :: rest) a w := by
  subst had
  obtain ⟨h1, h2, ⟨h3, _⟩ | ⟨g', o2, cs, h3, hB, hs', ht⟩⟩ := hO
  · rw [hA] at h3; cases h3
  rw [hA] at h3
  cases h3
  have hjn : j * E.n + E.n ≤ l.length * E.n := by
    rw [← Nat.succ_mul]
    exact Nat.mul_le_mul_right _ (by omega)
  have hle : l.length * E.n ≤ cap * E.n := Nat.mul_le_mul_right _ h1
  have hcl : cs.toList.length = cs.size := Array.length_toList
  refine fx_storeAt (t := t) hs hw hd ho hx hy (E.all _) hB (E.size _) (by omega) rfl fun w1 hO1 hB1 => next w1 (hO1.mono fun k _ hk => ⟨o', by rw [hA, hk]⟩) ⟨by simpa using h1, h2, .inr ⟨g, o', _, hA, hB1, ?_, ?_⟩⟩
  · simp only [List.size_toArray, List.length_append, List.length_take, List.length_drop, Array.length_toList, E.size]
    omega
  · have e1 : (l.set j x').length = l.length := List.length_set
    rw [e1, flat_setRec l j hj, ← ht, E.toList]
    have hm : (cs.toList.take (o' + j * E.n)).length = o' + j * E.n := by rw [List.length_take]; omega
    have hc : (E.cells x').length = E.n := E.len _
    rw [List.append_assoc, List.drop_append, hm, show o' - (o' + j * E.n) = 0 by omega, List.drop_zero, List.drop_take, show o' + j * E.n - o' = j * E.n by omega]
    have h9 : ((cs.toList.drop o').take (j * E.n)).length = j * E.n := by rw [List.length_take, List.length_drop]; omega
    have a1 : l.length * E.n - j * E.n - E.n = l.length * E.n - (j * E.n + E.n) := by omega
    have a2 : o' + j * E.n + E.n = o' + (j * E.n + E.n) := by omega
    rw [List.take_append, h9, List.take_of_length_le (by omega), List.take_append, hc, List.take_of_length_le (l := E.cells x') (by omega), List.take_take, Nat.min_eq_left (by omega), List.drop_take, List.drop_drop, a1, a2]
end
section
variable {P : Program} {w : World} {ev : Operand → Value} {o : Oper} {x y : Operand} {k : IntKind} {m n r : Int}
theorem x_max {ts : Array TypeId} (ho : o.op = .call { callee := .builtin .max, args := #[x, y], argTypes := ts }) (hx : ev x = .int k m) (hy : ev y = .int k n) (hr : max m n = r) : (execOp ev o).run P w = .ok (.value (.int k r)) w := by
  subst hr
  simp [execOp, ho, hx, hy, resolve, invoke, builtin, Builtin.max_, Builtin.max2]
  omega
theorem x_loadV1 {t : TypeId} {ad : Addr} {v : Value} (ht : plainT P t = true) (hc : w.cell? ad = some v) : (loadVar t ad).run P w = .ok v w := by
  have := run_load_one (P := P) ht hc
  simpa [Instr.loadAt, Instr.sureAddr] using this
end
theorem Blk.mark {w : World} {b t D : Nat} {cs : Array Value} (h : Blk w b t cs) (k : MarkAt w D) : NE b D := fun e => by
  subst e
  have h : w.heap[b]? = some (.cells cs t (0, 0)) := h
  rw [show w.heap[b]? = _ from k] at h
  cases h
theorem Own.mark {P : Program} {α : Type} [DecidableEq α] {E : Enc P α} {w : World} {A : Option Addr} {cap D : Nat} {l : List α} (h : Own E w A cap l) (k : MarkAt w D) : Apart A D := fun hi => by
  obtain ⟨o, ho, hc⟩ := h.cells hi
  rw [show w.heap[D]? = _ from k] at ho
  cases ho
  cases hc
theorem Only.locS {S T : Nat → Prop} {a w w' : World} (h : Only S a w) (k : Only T w w') (hT : ∀ i, T i → S i ∨ a.heap.size ≤ i) : Only S a w' :=
  h.trans k fun i hi ht => (hT i ht).elim id fun h => by omega
section
variable {w : World} {p p' q : Nat → Prop} {b : Nat} {S : Nat → Prop} {a w' : World}
theorem moved_apartP (h : ∀ g, p' g → p g ∨ w.heap.size ≤ g) (ha : ¬ p b) (hb : b < w.heap.size) : ¬ p' b := fun hi => (h b hi).elim ha fun h => by omega
theorem moved_apart2P (h : ∀ g, p' g → p g ∨ w.heap.size ≤ g) (ha : ∀ k, p k → q k → False) (hb : ∀ g, q g → g < w.heap.size) : ∀ k, p' k → q k → False := fun k h1 h2 => (h k h1).elim (fun h => ha k h h2) fun h => by have := hb k h2; omega
theorem new_apartP (h : ∀ g, p g → w.heap.size ≤ g) (hb : b < w.heap.size) : ¬ p b := fun hi => by have := h b hi; omega
theorem new_apart2P (h : ∀ g, p g → w.heap.size ≤ g) (hb : ∀ g, q g → g < w.heap.size) : ∀ k, p k → q k → False := fun k h1 h2 => by have := h k h1; have := hb k h2; omega
theorem symP (h : ∀ k, p k → q k → False) : ∀ k, q k → p k → False := fun k h1 h2 => h k h2 h1
theorem ne1P (h : ¬ p b) : ∀ g, p g → ¬ g = b := fun _ hg he => h (he ▸ hg)
theorem Only.locP (h : Only S a w) (k : Only p w w') (hA : ∀ g, p g → S g ∨ a.heap.size ≤ g) : Only S a w' := h.locS k hA
theorem gA_newP (hF : Only S a w) (h : ∀ g, p g → w.heap.size ≤ g) : ∀ g, p g → S g ∨ a.heap.size ≤ g := fun g hg => .inr (Nat.le_trans hF.size (h g hg))
theorem gA_movedP (hF : Only S a w) (h : ∀ g, p' g → p g ∨ w.heap.size ≤ g) (hA : ∀ g, p g → S g ∨ a.heap.size ≤ g) : ∀ g, p' g → S g ∨ a.heap.size ≤ g := fun g hg => (h g hg).elim (hA g) fun h => .inr (Nat.le_trans hF.size h)
end
end Go.Proofs.Ytflnlmibkbojcaa
namespace Go.Proofs.Ytflnlmibkbojcaa
open Go.RowKit
section
variable {P : Program} {w : World} {ev : Operand → Value} {o : Oper} {x y z u : Operand} {k k1 k2 : IntKind} {A : Option Addr} {n c : Nat}
theorem x_callv {t f : Nat} {args : List Operand} {ts : Array TypeId} {vs : List Value} {cs all : Array Value} {fn : Func} (ho : o.op = .call { callee := .value (.tmp t), args := args.toArray, argTypes := ts }) (hf0 : ev (.tmp t) = .func (.func f) #[] cs) (hv : Evs ev args vs) (he : vs.toArray ++ cs = all)
    (hf : P.funcs[f]? = some fn) (hn : (fn.name == "runtime.NumGoroutine") = false) (hb : fn.body.isNone = false) : (execOp ev o).run P w = .ok (.enter f all) w := by
  subst he
  have hn' : ¬ fn.name = "runtime.NumGoroutine" := by simpa using hn
  have hb' : ¬ fn.body = none := fun h => by rw [h] at hb; cases hb
  simp [execOp, ho, resolve, Deferred.ofValue, hf0, hv.map, invoke, callFunc, hf, hn', hb']
theorem x_slice_mid {t e s i j : Nat} (hu : P.underlying t = some (.slice e)) (hs : (P.info? e).map (·.size) = some s) (ho : o.op = .slice t x (some y) (some z) none) (hx : ev x = .slice A n c) (hy : ev y = .int k ((i : Nat) : Int)) (hz : ev z = .int k1 ((j : Nat) : Int)) (hij : i ≤ j) (hj : j ≤ c) :
    (execOp ev o).run P w = .ok (.value (.slice (cutA A c i s) (j - i) (c - i))) w := by
  cases h3 : P.info? e with
  | none => simp [h3] at hs
  | some inf =>
    simp only [h3, Option.map_some, Option.some.injEq] at hs
    simp [execOp, ho, hx, hy, hz, Instr.sliceAt, Instr.slice, Instr.sliceBounds, run_underlying hu, run_bound hij, run_bound hj, sizeOf, typeInfo, h3, hs, cutA]
theorem x_slice_full {t e s i j m : Nat} (hu : P.underlying t = some (.slice e)) (hs : (P.info? e).map (·.size) = some s) (ho : o.op = .slice t x (some y) (some z) (some u)) (hx : ev x = .slice A n c) (hy : ev y = .int k ((i : Nat) : Int)) (hz : ev z = .int k1 ((j : Nat) : Int)) (hm : ev u = .int k2 ((m : Nat) : Int)) (hij : i ≤ j) (hjm : j ≤ m) (hmc : m ≤ c) :
    (execOp ev o).run P w = .ok (.value (.slice (cutA A m i s) (j - i) (m - i))) w := by
  cases h3 : P.info? e with
  | none => simp [h3] at hs
  | some inf =>
    simp only [h3, Option.map_some, Option.some.injEq] at hs
    simp [execOp, ho, hx, hy, hz, hm, Instr.sliceAt, Instr.slice, Instr.sliceBounds, run_underlying hu, run_bound hij, run_bound hjm, run_bound hmc, sizeOf, typeInfo, h3, hs, cutA]
end
section
variable {P : Program} {N : Nat × List Deferred} {T : List (Nat × Value)} {a : Act} {w : World} {Q : Exit → Act → World → Prop} {ops : Array Oper} {rest : List Oper} {o : Oper} {d : Nat}
theorem fx_effv {v : Value} {w1 : World} (hw : Region.wanted o (yielded ops a.tmps) = true) (hd : o.dst = none) (hrun : (execOp a.eval o).run P w = .ok (.value v) w1) (next : wpList P ops Q rest a w1) : wpList P ops Q (o :: rest) a w :=
  wpList_step fun K hK => by
    rw [if_pos hw]
    unfold Oper.wp
    rw [hrun]
    refine hK _ _ ?_
    rw [hd]
    exact next
variable {α : Type} [DecidableEq α] {E : Enc P α} {t : TypeId} {bytes : Nat}
theorem fx_appendIn (hE : ElemI E t bytes) (fr : Fr N T a) (hw : Region.wanted o (yielded ops a.tmps) = true) (hd : o.dst = some d) (hN : d < N.1) {x y : Operand} (ho : o.op = .call { callee := .builtin .append, args := #[x, y], argTypes := #[t, t] })
    {A B : Option Addr} {cap c n m : Nat} {l l' : List α} (hx : a.eval x = .slice A n cap) (hy : a.eval y = .slice B m c) (hn : n = l.length) (hm' : m = l'.length) (h : Own E w A cap l) (hv : View E w B c l') (hA : ∃ g o, A = some ⟨g, o, none⟩) (hroom : l.length + l'.length ≤ cap)
    (next : ∀ w1, Own E w1 A cap (l ++ l') → Only (inA A) w w1 → ∀ a, Fr N ((d, .slice A (l ++ l').length cap) :: T) a → wpList P ops Q rest a w1) : wpList P ops Q (o :: rest) a w := by
  subst hn hm'
  obtain ⟨i, z, hi, hz, hs, hby, hzc⟩ := hE.info
  obtain ⟨k1, k2, ⟨h3, _⟩ | ⟨g, q, cs, rfl, hB, hfit, htake⟩⟩ := h
  · obtain ⟨g, q, hA⟩ := hA
    rw [hA] at h3; cases h3
  have hlen : (Builtin.lenOf (.slice B l'.length c)).run P w = .ok l'.length w := by simp [Builtin.lenOf]
  have hnl : (l'.flatMap E.cells).length = l'.length * E.n := flat_len l'
  have h1 : ∀ u ∈ l'.flatMap E.cells, u.oneCell' = true := by
    intro u hu
    obtain ⟨x, _, hx⟩ := List.mem_flatMap.1 hu
    exact E.one x u hx
  have hfirst : (Builtin.firstCells E.n l'.length (.slice B l'.length c)).run P w = .ok (l'.flatMap E.cells).toArray w := by
    obtain ⟨q1, _, ⟨q2, q3⟩ | ⟨g2, o2, rfl, _, hr⟩⟩ := hv
    · obtain rfl : l' = [] := List.eq_nil_of_length_eq_zero (by omega)
      subst q2
      exact run_firstCells_none (P := P) w E.n _ _ _
    · exact run_firstCells_some (P := P) w E.n l'.length _ l'.length c _ hnl (fun j v hj => by rw [Addr.add_mid]; exact hr j v hj)
  have hr := run_append_in (ty := o.type) (n := l.length) hE.ty hi hs hB hnl hlen hfirst h1 hroom hfit
  have hle : l.length * E.n + l'.length * E.n ≤ cap * E.n := by rw [← Nat.add_mul]; exact Nat.mul_le_mul_right _ hroom
  obtain ⟨W1, hW1⟩ : ∃ W1, w.setRow g (cs.toList.take (q + l.length * E.n) ++ l'.flatMap E.cells ++ cs.toList.drop (q + l.length * E.n + (l'.flatMap E.cells).length)).toArray = W1 := ⟨_, rfl⟩
  rw [hW1] at hr
  refine fx_val (v := .slice (some ⟨g, q, none⟩) (l ++ l').length cap) (w1 := W1) fr hw hd hN (by rw [List.length_append]; simp [execOp, ho, resolve, invoke, builtin, hx, hy, hr, Result.andThen]) fun a fr => next _ ?_ ?_ a fr
  rotate_left
  · rw [← hW1]
    exact (Only.refl (inA (some ⟨g, q, none⟩)) w).setRow (fun _ => ⟨q, rfl⟩) _
  rw [← hW1]
  refine ⟨by rw [List.length_append]; exact hroom, k2, .inr ⟨g, q, _, rfl, setRow_self' hB, ?_, ?_⟩⟩
  · simp only [List.size_toArray, List.length_append, List.length_take, List.length_drop, Array.length_toList, hnl]
    omega
  · have hlt2 : l.flatMap E.cells = (cs.toList.take (q + l.length * E.n)).drop q := by rw [← htake, List.drop_take]; congr 1; omega
    have hll := flat_len (E := E) l
    have e0 : q + l.length * E.n ≤ cs.toList.length := by
      have : cs.toList.length = cs.size := Array.length_toList
      omega
    rw [List.length_append, Nat.add_mul, List.flatMap_append, List.append_assoc, List.drop_append, List.length_take, Nat.min_eq_left e0, show q - (q + l.length * E.n) = 0 by omega, List.drop_zero, ← hlt2,
      List.take_append, hll, List.take_of_length_le (by omega), show l.length * E.n + l'.length * E.n - l.length * E.n = l'.length * E.n by omega, List.take_append_of_le_length (by omega), List.take_of_length_le (by omega)]
theorem fx_clearTail (hE : ElemI E t bytes) {z : Value} (hz : (P.info? E.T).bind (·.zero) = some z) (hzs : z.cells.size = E.n) (hz1 : z.cells.all (·.oneCell') = true) (hw : Region.wanted o (yielded ops a.tmps) = true) (hd : o.dst = none) {x : Operand} (ho : o.op = .call { callee := .builtin .clear, args := #[x], argTypes := #[t] })
    {A : Option Addr} {cap k m c' : Nat} {l : List α} (hx : a.eval x = .slice (cutA A cap k E.n) m c') (h : Own E w A cap l) (hk : l.length ≤ k) (hroom : k + m ≤ cap) (next : ∀ w1, Own E w1 A cap l → Only (inA A) w w1 → wpList P ops Q rest a w1) : wpList P ops Q (o :: rest) a w := by
  by_cases hm : m = 0
  · subst hm
    refine fx_effv (v := .tuple #[]) (w1 := w) hw hd ?_ (next w h (Only.refl _ _))
    simp [execOp, ho, resolve, invoke, builtin, hx, Builtin.clear_, run_underlying hE.ty]
    cases cutA A cap k E.n <;> rfl
  obtain ⟨k1, k2, ⟨h3, h4⟩ | ⟨g, q, cs, rfl, hB, hfit, htake⟩⟩ := h
  · omega
  have hcut : cutA (some ⟨g, q, none⟩) cap k E.n = some ⟨g, q + k * E.n, none⟩ := by
    unfold cutA
    rw [if_neg (by omega), Option.map_some, addr_add]
  rw [hcut] at hx
  have hmn : k * E.n + m * E.n ≤ cap * E.n := by rw [← Nat.add_mul]; exact Nat.mul_le_mul_right _ hroom
  have hkn : l.length * E.n ≤ k * E.n := Nat.mul_le_mul_right _ hk
  have hzl : (Builtin.zeroCells z.cells m).toList.length = m * E.n := by rw [Array.length_toList, size_zeroCells, hzs]
  have hall : ∀ v ∈ (Builtin.zeroCells z.cells m).toList, v.oneCell' = true := by
    intro v hv
    rw [Array.mem_toList_iff] at hv
    unfold Builtin.zeroCells at hv
    rw [Array.all_eq_true_iff_forall_mem] at hz1
    simp only [Array.mem_map, Array.mem_range] at hv
    obtain ⟨j, hj, rfl⟩ := hv
    have hlt : j % z.cells.size < z.cells.size := Nat.mod_lt _ (by rw [hzs]; exact E.pos)
    rw [getElem!_pos z.cells _ hlt]
    exact hz1 _ (Array.getElem_mem hlt)
  have hst := run_storeCells_at P g (q + k * E.n) E.T (Builtin.zeroCells z.cells m).toList 0 cs w hB (by rw [hzl]; omega) hall
  simp only [Nat.add_zero] at hst
  cases hi : P.info? E.T with
  | none => simp [hi] at hz
  | some inf =>
    simp only [hi, Option.bind_some] at hz
    have hzv : (zeroValue E.T).run P w = .ok z w := by simp [zeroValue, typeInfo, hi, hz]
    have hm' : ∃ m', m = m' + 1 := ⟨m - 1, by omega⟩
    obtain ⟨m', rfl⟩ := hm'
    obtain ⟨W1, hW1⟩ : ∃ W1, w.setRow g (cs.toList.take (q + k * E.n) ++ (Builtin.zeroCells z.cells (m' + 1)).toList ++ cs.toList.drop (q + k * E.n + (Builtin.zeroCells z.cells (m' + 1)).toList.length)).toArray = W1 := ⟨_, rfl⟩
    rw [hW1] at hst
    refine fx_effv (v := .tuple #[]) (w1 := W1) hw hd (by simp [execOp, ho, resolve, invoke, builtin, hx, Builtin.clear_, run_underlying hE.ty, hzv, hst, Result.andThen]) (next _ ?_ ?_)
    rotate_left
    · rw [← hW1]
      exact (Only.refl (inA (some ⟨g, q, none⟩)) w).setRow (fun _ => ⟨q, rfl⟩) _
    rw [← hW1]
    refine ⟨k1, k2, .inr ⟨g, q, _, rfl, setRow_self' hB, ?_, ?_⟩⟩
    · have : cs.toList.length = cs.size := Array.length_toList
      simp only [List.size_toArray, List.length_append, List.length_take, List.length_drop, hzl]
      omega
    · have : cs.toList.length = cs.size := Array.length_toList
      have e1 : (cs.toList.take (q + k * E.n)).length = q + k * E.n := by rw [List.length_take]; omega
      rw [← htake, List.append_assoc, List.drop_append, e1, show q - (q + k * E.n) = 0 by omega, List.drop_zero, List.drop_take, List.take_append, List.length_take, List.length_drop, List.take_take]
      rw [show l.length * E.n - min (q + k * E.n - q) (cs.toList.length - q) = 0 by omega, List.take_zero, List.append_nil, Nat.min_eq_left (by omega)]
end
theorem Own.pre {P : Program} {α : Type} [DecidableEq α] {E : Enc P α} {w : World} {A : Option Addr} {cap : Nat} {l : List α} (h : Own E w A cap l) (k : Nat) : Own E w A cap (l.take k) := by
  obtain ⟨h1, h2, h3 | ⟨g, o, cs, e1, hB, hs, ht⟩⟩ := h
  · exact ⟨Nat.le_trans (by simp; omega) h1, h2, .inl h3⟩
  · refine ⟨Nat.le_trans (by simp; omega) h1, h2, .inr ⟨g, o, cs, e1, hB, hs, ?_⟩⟩
    have e : l.flatMap E.cells = (l.take k).flatMap E.cells ++ (l.drop k).flatMap E.cells := by rw [← List.flatMap_append, List.take_append_drop]
    have hle : (l.take k).length * E.n ≤ l.length * E.n := Nat.mul_le_mul_right _ (by simp; omega)
    have h4 : ((cs.toList.drop o).take (l.length * E.n)).take ((l.take k).length * E.n) = (l.take k).flatMap E.cells := by
      rw [ht, e, ← flat_len, List.take_left]
    rw [List.take_take, Nat.min_eq_left hle] at h4
    exact h4
end Go.Proofs.Ytflnlmibkbojcaa
namespace Go.Proofs.Ytflnlmibkbojcaa
open Go.RowKit
def resOk (fn : Func) (d : Nat) : Bool := fn.results.toList.all fun | .tmp t => t != d | .cell t _ => t != d
theorem mapM_same {α β : Type} {f g : α → Sem β} : ∀ (l : List α), (∀ r ∈ l, f r = g r) → l.mapM f = l.mapM g
  | [], _ => by simp
  | r :: l, h => by
    simp only [List.mapM_cons, h r (by simp), mapM_same l fun x hx => h x (by simp [hx])]
theorem results_put {fn : Func} {d : Nat} (hd : resOk fn d = true) (T : Array Value) (v : Value) : results fn (T.setIfInBounds d v) = results fn T := by
  unfold resOk at hd
  have hg : ∀ t, (t != d) = true → (T.setIfInBounds d v).getD t undef = T.getD t undef := by
    intro t ht
    have hne : d ≠ t := by
      intro e
      subst e
      simp at ht
    simp only [Array.getD_eq_getD_getElem?]
    rw [Array.getElem?_setIfInBounds_ne hne]
  unfold results
  obtain ⟨l, hl⟩ : ∃ l : List ResultVar, fn.results = l.toArray := ⟨fn.results.toList, by simp⟩
  rw [hl, List.mapM_toArray, List.mapM_toArray]
  rw [hl] at hd
  have := mapM_same (f := fun (r : ResultVar) => match r with | .tmp t => (pure ((T.setIfInBounds d v).getD t undef) : Sem Value) | .cell a t => (do loadVar t (← asAddr ((T.setIfInBounds d v).getD a undef))))
    (g := fun (r : ResultVar) => match r with | .tmp t => (pure (T.getD t undef) : Sem Value) | .cell a t => (do loadVar t (← asAddr (T.getD a undef)))) l (fun r hr => by
      have h := List.all_eq_true.1 hd r (by simpa using hr)
      cases r with
      | tmp t => show pure _ = pure _; rw [hg t h]
      | cell t ty => show (do loadVar ty (← asAddr _)) = (do loadVar ty (← asAddr _)); rw [hg t h])
  exact congrArg (fun (m : Sem (List Value)) => (do let vs ← Functor.map List.toArray m; pure (if h : vs.size = 1 then vs[0] else .tuple vs) : Sem Value)) this
end Go.Proofs.Ytflnlmibkbojcaa
namespace Go.Proofs.Ytflnlmibkbojcaa
open Go.RowKit
def Pan (R : List PanicEntry → World → Prop) (e : Ending) (w : World) : Prop := ∃ c, e = .panicked c ∧ R c w
section
variable {P : Program} {N : Nat × List Deferred} {T : List (Nat × Value)} {a : Act} {w w1 : World} {Q : Exit → Act → World → Prop} {ops : Array Oper} {rest : List Oper} {o : Oper} {d : Nat} {v : Value}
theorem fx_panic {u : TypeId} {pv : Value} {x : Operand} (hw : Region.wanted o (yielded ops a.tmps) = true) (ho : o.op = .panic x) (hx : a.eval x = .iface u pv) (h : Q (.panic [{ v := .iface u pv, recovered := false }]) a w) : wpList P ops Q (o :: rest) a w :=
  wpList_step fun K hK => by
    rw [if_pos hw]
    unfold Oper.wp
    rw [show (execOp a.eval o).run P w = .halt (.panic (.iface u pv)) w by simp [execOp, ho, hx, Instr.panic]]
    exact h
theorem fx_callp (hw : Region.wanted o (yielded ops a.tmps) = true) {f : FuncId} {args : Array Value} (hrun : (execOp a.eval o).run P w = .ok (.enter f args) w) {R : List PanicEntry → World → Prop}
    (hc : Calls P f args w (Pan R)) (next : ∀ c w1, R c w1 → Q (.panic c) a w1) : wpList P ops Q (o :: rest) a w :=
  wpList_step fun K hK => by
    rw [if_pos hw]
    unfold Oper.wp
    rw [hrun]
    refine hc.mono fun e w' ⟨c, he, hr⟩ => ?_
    subst he
    exact next c w' hr
theorem fx_pt {K : Act → World → Prop} {c : List PanicEntry} (h : Q (.panic c) a w) : Exit.then K Q (.panic c) a w := h
theorem fx_pend {n : Nat} {fn : Func} {R : Ending → World → Prop} {c : List PanicEntry} (fr : Fr (n, []) T a) (h : R (.panicked c) w) : bodyPost P fn R (.panic c) a w := ⟨fr.df, h⟩
theorem fx_enterD {f : FuncId} {fn : Func} {c : Code} {args : Array Value} {R : Ending → World → Prop} {N : Nat × List Deferred} (hf : P.funcs[f]? = some fn) (hb : fn.body = some c) (hN : (fn.ntmps, []) = N) (hle : args.size ≤ N.1) (hT : Args args T)
    (h : ∀ a, Fr N T a → c.wp P (bodyPostD P fn R) a w) : Calls P f args w R := by
  subst hN
  refine calls_of_wp_defers hf hb (h _ ⟨rfl, ?_, fun t v hl => ?_⟩)
  · simp at hle ⊢; omega
  · have := hT.look hl
    have hlt : t < args.size := (Array.getElem?_eq_some_iff.1 this).1
    simp [Array.getElem?_append_left hlt, this]
theorem fx_defer {dd : Deferred} (fr : Fr N T a) (hw : Region.wanted o (yielded ops a.tmps) = true) (hd : o.dst = none) (hrun : (execOp a.eval o).run P w = .ok (.defer dd) w)
    (next : ∀ a, Fr (N.1, dd :: N.2) T a → wpList P ops Q rest a w) : wpList P ops Q (o :: rest) a w :=
  wpList_step fun K hK => by
    rw [if_pos hw]
    unfold Oper.wp
    rw [hrun]
    refine hK _ _ ?_
    rw [hd]
    exact next _ ⟨by show dd :: a.defers = _; rw [fr.df], fr.sz, fr.get⟩
theorem leaves_put {fn : Func} {T T' : Array Value} {R : Ending → World → Prop} (hr : results fn T = results fn T') : ∀ (ds : List Deferred) (u : FrameMode) (w : World), Leaves P fn T R ds u w → Leaves P fn T' R ds u w
  | [], .returning, w, h => by
    obtain ⟨v, h1, h2⟩ := h
    exact ⟨v, by rw [← hr]; exact h1, h2⟩
  | [], .panicking _, w, h => h
  | [], .run, w, h => h
  | d :: ds, u, w, ⟨h0, fv, cap, f, args, h1, h2, h4⟩ => ⟨h0, fv, cap, f, args, h1, h2, h4.mono fun e u' w' h => by
    cases e with
    | returned _ => exact leaves_put hr ds _ _ h
    | panicked _ => exact leaves_put hr ds _ _ h
    | outgrown => exact h⟩
theorem panic_putD {fn : Func} {R : Ending → World → Prop} {d : Nat} {v : Value} (hd : resOk fn d = true) {c : List PanicEntry} {a : Act} {w : World} (h : bodyPostD P fn R (.panic c) (a.put (some d) v) w) : bodyPostD P fn R (.panic c) a w :=
  leaves_put (results_put hd a.tmps v) a.defers (.panicking c) w h
theorem fx_retD0 {n : Nat} {fn : Func} {R : Ending → World → Prop} (fr : Fr (n, []) T a) (rs : List ResultVar) (vs : List Value) (hr : fn.results = rs.toArray) (h : Res P w T rs vs) {v : Value}
    (hv : (if h : vs.toArray.size = 1 then vs.toArray[0] else .tuple vs.toArray) = v) (hR : R (.returned v) w) : bodyPostD P fn R .ret a w := by
  show Leaves _ _ _ _ a.defers _ _
  rw [fr.df]
  exact ⟨v, by rw [results_run fr hr h, hv], hR⟩
theorem fx_retD1 {n g : Nat} {fn : Func} {cap dargs args : Array Value} {R : Ending → World → Prop} (fr : Fr (n, [{ target := .fn (.func g) cap, args := dargs }]) T a) (hi : (invoke (.fn (.func g) cap) dargs).run P w = .ok (.enter g args) w)
    (hc : CallsD P g args .returning w fun e u' w' => e = .returned (.tuple #[]) ∧ u' = .returning ∧ w' = w) (rs : List ResultVar) (vs : List Value) (hr : fn.results = rs.toArray) (h : Res P w T rs vs) {v : Value}
    (hv : (if h : vs.toArray.size = 1 then vs.toArray[0] else .tuple vs.toArray) = v) (hR : R (.returned v) w) : bodyPostD P fn R .ret a w := by
  show Leaves _ _ _ _ a.defers _ _
  rw [fr.df]
  refine leaves_cons (by simp) hi (hc.mono ?_)
  rintro e u' w' ⟨rfl, rfl, rfl⟩
  exact ⟨v, by rw [results_run fr hr h, hv], hR⟩
theorem fx_panD1 {n g : Nat} {fn : Func} {cap dargs args : Array Value} {R : Ending → World → Prop} {pv : Value} {Rc : World → Prop} (fr : Fr (n, [{ target := .fn (.func g) cap, args := dargs }]) T a) (hi : (invoke (.fn (.func g) cap) dargs).run P w = .ok (.enter g args) w)
    (hc : CallsD P g args (.panicking [{ v := pv, recovered := false }]) w fun e u' w' => e = .returned (.tuple #[]) ∧ u' = .panicking [{ v := pv, recovered := true }] ∧ Rc w') (rs : List ResultVar) (vs : List Value) (hr : fn.results = rs.toArray)
    (h : ∀ w', Rc w' → Res P w' T rs vs ∧ R (.returned (if h : vs.toArray.size = 1 then vs.toArray[0] else .tuple vs.toArray)) w') : bodyPostD P fn R (.panic [{ v := pv, recovered := false }]) a w := by
  show Leaves _ _ _ _ a.defers _ _
  rw [fr.df]
  refine leaves_cons (by simp) hi (hc.mono ?_)
  rintro e u' w' ⟨rfl, rfl, hw'⟩
  obtain ⟨h1, h2⟩ := h w' hw'
  exact ⟨_, results_run fr hr h1, h2⟩
end
section
variable {P : Program} {w : World} {ev : Operand → Value} {o : Oper} {x y : Operand}
theorem x_makeInterface {t : TypeId} {v : Value} {d : TypeDesc} (ho : o.op = .makeInterface t x) (hx : ev x = v) (ht : P.underlying t = some d) (hd : (match d with | .interface _ => false | _ => true) = true) : (execOp ev o).run P w = .ok (.value (.iface t v)) w := by
  simp only [execOp, ho, hx]
  cases d <;> first | (simp [Instr.makeInterface, run_underlying ht]; done) | cases hd
theorem x_defer {f : Nat} {args : List Operand} {ts : Array TypeId} {vs : List Value} (ho : o.op = .defer { callee := .value (.func f), args := args.toArray, argTypes := ts }) (hf0 : ev (.func f) = .func (.func f) #[] #[]) (hv : Evs ev args vs) :
    (execOp ev o).run P w = .ok (.defer { target := .fn (.func f) #[], args := vs.toArray }) w := by
  simp [execOp, ho, resolve, hf0, Deferred.ofValue, hv.map]
theorem x_makeBound {f : Nat} {r : Operand} {rv : Value} (ho : o.op = .makeFunc (.func f) #[r] #[]) (hr : ev r = rv) : (execOp ev o).run P w = .ok (.value (.func (.func f) #[rv] #[])) w := by
  simp [execOp, ho, hr, Instr.makeFunc]
theorem x_callb {t f : Nat} {args : List Operand} {ts : Array TypeId} {vs : List Value} {rv : Value} {all : Array Value} {fn : Func} (ho : o.op = .call { callee := .value (.tmp t), args := args.toArray, argTypes := ts }) (hf0 : ev (.tmp t) = .func (.func f) #[rv] #[]) (hv : Evs ev args vs) (he : #[rv] ++ vs.toArray = all)
    (hf : P.funcs[f]? = some fn) (hn : (fn.name == "runtime.NumGoroutine") = false) (hb : fn.body.isNone = false) : (execOp ev o).run P w = .ok (.enter f all) w := by
  subst he
  have hn' : ¬ fn.name = "runtime.NumGoroutine" := by simpa using hn
  have hb' : ¬ fn.body = none := fun h => by rw [h] at hb; cases hb
  simp [execOp, ho, resolve, Deferred.ofValue, hf0, hv.map, invoke, callFunc, hf, hn', hb']
theorem x_typeAssert {t T : TypeId} {v : Value} {d : TypeDesc} (ho : o.op = .typeAssert x t T true) (hx : ev x = .iface T v) (ht : P.underlying T = some d) (hd : (match d with | .interface _ => false | _ => true) = true) : (execOp ev o).run P w = .ok (.value (.tuple #[v, .bool true])) w := by
  simp only [execOp, ho, hx]
  cases d <;> first | (simp [Instr.typeAssert, run_underlying ht]; done) | cases hd
theorem x_ieql {t T' : TypeId} {T : TypeId} {v : Value} {ms : Array (String × TypeId)} (ht : P.underlying t = some (.interface ms)) (ho : o.op = .binOp .eql t x y T') (hx : ev x = .iface T v) (hy : ev y = .nilIface) : (execOp ev o).run P w = .ok (.value (.bool false)) w := by
  refine x_eq_of ho hx hy (by simp [eqGuard]) rfl ?_
  show (Op.equalIn (9999 + 1) t (.iface T v) .nilIface).run P w = _
  unfold Op.equalIn
  simp only [Sem.run_bind, run_underlying ht, Result.andThen_ok]
  rfl
theorem x_ieqn {t T' : TypeId} {ms : Array (String × TypeId)} (ht : P.underlying t = some (.interface ms)) (ho : o.op = .binOp .eql t x (.const .nilIface) T') (hx : ev x = .nilIface) (hy : ev (.const .nilIface) = .nilIface) : (execOp ev o).run P w = .ok (.value (.bool true)) w := by
  refine x_eq_of ho hx hy (by simp [eqGuard]) rfl ?_
  show (Op.equalIn (9999 + 1) t .nilIface .nilIface).run P w = _
  unfold Op.equalIn
  simp only [Sem.run_bind, run_underlying ht, Result.andThen_ok]
  rfl
end
section
variable {P : Program} {N : Nat × List Deferred} {T : List (Nat × Value)} {w : World}
theorem fx_enterS {f : FuncId} {fn : Func} {id d : Nat} {o : Oper} {rest : Code} {args : Array Value} {R : Ending → FrameMode → World → Prop} (hf : P.funcs[f]? = some fn) (hb : fn.body = some (.seq (.region id #[o] false) rest)) (hN : (fn.ntmps, []) = N) (hle : args.size ≤ N.1) (hT : Args args T)
    (hg : o.guard = none) (hd : o.dst = some d) (hlt : d < N.1) (hop : ∀ ev w, (execOp ev o).run P w = .ok .recover w)
    {u u1 : FrameMode} {rv : Value} (hu : (u = .returning ∧ u1 = .returning ∧ rv = .nilIface) ∨ (u = .panicking [{ v := rv, recovered := false }] ∧ u1 = .panicking [{ v := rv, recovered := true }]))
    (h : ∀ c₀ cs a, Fr N ((d, rv) :: T) a → rest.wp P (fun e a' w' => bodyPostS P fn c₀ cs R e a' ({ c₀ with mode := u1 } :: cs) w') a w) : CallsD P f args u w R := by
  subst hN
  refine callsD_of_wpS hf hb fun c₀ cs hc => wpS_seq (wpS_region ?_)
  have hfr : ∀ v, Fr (fn.ntmps, []) ((d, v) :: T) (Act.put { tmps := args ++ Array.replicate (fn.ntmps - args.size) undef, defers := [] } (some d) v) := fun v => Fr.put ⟨rfl, by simp at hle ⊢; omega, fun t v hl => by
    have := hT.look hl
    have hlt : t < args.size := (Array.getElem?_eq_some_iff.1 this).1
    simp [Array.getElem?_append_left hlt, this]⟩ d v hlt
  have hw : ∀ t, Region.wanted o t = true := fun t => by simp [Region.wanted, hg]
  have hk : (#[o] : Array Oper)[0]? = some o := rfl
  rcases hu with ⟨rfl, rfl, rfl⟩ | ⟨rfl, rfl⟩
  · have hc0 : ({ c₀ with mode := .returning } : Frame) = c₀ := by rw [← hc]
    simp only [wpOpsS, List.range, List.range.loop, List.size_toArray, List.length_cons, List.length_nil, hk, hw, hop, recoverD, hc, hd, if_true]
    have := h c₀ cs _ (hfr _)
    rw [hc0] at this
    exact wpS_of_wp this
  · simp only [wpOpsS, List.range, List.range.loop, List.size_toArray, List.length_cons, List.length_nil, hk, hw, hop, recoverD, hc, hd, if_true]
    exact wpS_of_wp (h c₀ cs _ (hfr _))
theorem fx_retS {n : Nat} {fn : Func} {c₀ : Frame} {cs : List Frame} {u1 : FrameMode} {a : Act} {R : Ending → FrameMode → World → Prop} (fr : Fr (n, []) T a) (rs : List ResultVar) (vs : List Value) (hr : fn.results = rs.toArray) (h : Res P w T rs vs) {v : Value}
    (hv : (if h : vs.toArray.size = 1 then vs.toArray[0] else .tuple vs.toArray) = v) (hR : R (.returned v) u1 w) : bodyPostS P fn c₀ cs R .normal a ({ c₀ with mode := u1 } :: cs) w :=
  ⟨fr.df, u1, rfl, v, by rw [results_run fr hr h, hv], hR⟩
end
end Go.Proofs.Ytflnlmibkbojcaa
namespace Go.Proofs.Ytflnlmibkbojcaa
open Go.RowKit
theorem nelt {a b n : Nat} (h1 : a < n) (h2 : n ≤ b) : NE a b := NE.mk (Nat.lt_of_lt_of_le h1 h2)
theorem Only.sz {S : Nat → Prop} {w w' : World} {b : Nat} (h : Only S w w') (hb : w'.heap.size ≤ b) : w.heap.size ≤ b := Nat.le_trans h.size hb
def evT (T : List (Nat × Value)) : Operand → Option Value
  | .tmp t => look T t
  | .const v => some v
  | .global g => some (.pointer (some ⟨g, 0, none⟩))
  | .func f => some (.func (.func f) #[] #[])
def Gd (o : Oper) (ops : Array Oper) (T : List (Nat × Value)) : Prop := o.guard = none ∨ ∃ j t b, o.guard = some (j, b) ∧ dstAt ops j = some t ∧ look T t = some (.bool b)
def Gn (o : Oper) (ops : Array Oper) (T : List (Nat × Value)) : Prop := ∃ j t b, o.guard = some (j, b) ∧ dstAt ops j = some t ∧ (look T t = some undef ∨ ∃ c, look T t = some (.bool c) ∧ c ≠ b)
section
variable {P : Program} {N : Nat × List Deferred} {T T' : List (Nat × Value)} {a : Act} {w w1 : World} {Q : Exit → Act → World → Prop} {K : Act → World → Prop} {ops : Array Oper} {rest : List Oper} {o : Oper} {d : Nat} {v u : Value} {x y z : Operand} {c c' : Code} {e : Exit} {E : Exit → Act → World → Prop}
theorem Fr.evT (fr : Fr N T a) (h : Go.Proofs.Ytflnlmibkbojcaa.evT T x = some v) : a.eval x = v := by
  cases x with
  | tmp t => exact fr.ev h
  | const u => exact Option.some.inj h
  | global g => exact Option.some.inj h
  | func f => exact Option.some.inj h
theorem Fr.gd (fr : Fr N T a) (h : Gd o ops T) : Region.wanted o (yielded ops a.tmps) = true := by
  rcases h with h | ⟨j, t, b, h1, h2, h3⟩
  · simp [Region.wanted, h]
  · exact fr.want h1 h2 h3
theorem Fr.gn (fr : Fr N T a) (h : Gn o ops T) : Region.wanted o (yielded ops a.tmps) = false := by
  obtain ⟨j, t, b, h1, h2, h3 | ⟨c, h3, h4⟩⟩ := h
  · exact fr.unwant_u h1 h2 h3
  · exact fr.unwant h1 h2 h3 h4
def Zl (P : Program) (ops : Array Oper) (Q : Exit → Act → World → Prop) (l : List Oper) (N : Nat × List Deferred) (T : List (Nat × Value)) (w : World) : Prop := ∀ a, Fr N T a → wpList P ops Q l a w
def Zc (P : Program) (c : Code) (Q : Exit → Act → World → Prop) (N : Nat × List Deferred) (T : List (Nat × Value)) (w : World) : Prop := ∀ a, Fr N T a → c.wp P Q a w
def Ze (E : Exit → Act → World → Prop) (e : Exit) (N : Nat × List Deferred) (T : List (Nat × Value)) (w : World) : Prop := ∀ a, Fr N T a → E e a w
def Zh (P : Program) (ops : List Oper) (Q : Exit → Act → World → Prop) (S : World → Prop) (fuel : Nat) (listed : Array Bool) (N : Nat × List Deferred) (T : List (Nat × Value)) (w : World) : Prop := ∀ a, Fr N T a → wpAnyH P .any ops.toArray Q S fuel listed a w
def argT : Nat → List Value → List (Nat × Value)
  | _, [] => []
  | k, v :: r => (k, v) :: argT (k + 1) r
theorem argT_args (args : Array Value) : ∀ (l : List Value) (k : Nat), (∀ j v, l[j]? = some v → args[k + j]? = some v) → Args args (argT k l)
  | [], _, _ => trivial
  | v :: r, k, h => ⟨h 0 v rfl, argT_args args r (k + 1) fun j u hj => by
    have := h (j + 1) u hj
    rwa [Nat.add_assoc, Nat.add_comm 1 j]⟩
theorem Zen {f : FuncId} {fn : Func} {args : Array Value} {R : Ending → World → Prop} (n : Nat) (hf : P.funcs[f]? = some fn) (h : Zc P c (bodyPost P fn R) (n, []) (argT 0 args.toList) w) (hb : fn.body = some c := by rfl) (hn : fn.ntmps = n := by rfl) (hle : args.size ≤ n := by exact Nat.le_of_ble_eq_true rfl) : Calls P f args w R :=
  fx_enter hf hb (by rw [hn]) hle (argT_args args args.toList 0 fun j v h => by simpa using h) h
theorem ZeD {f : FuncId} {fn : Func} {args : Array Value} {R : Ending → World → Prop} (n : Nat) (hf : P.funcs[f]? = some fn) (h : Zc P c (bodyPostD P fn R) (n, []) (argT 0 args.toList) w) (hb : fn.body = some c := by rfl) (hn : fn.ntmps = n := by rfl) (hle : args.size ≤ n := by exact Nat.le_of_ble_eq_true rfl) : Calls P f args w R :=
  fx_enterD hf hb (by rw [hn]) hle (argT_args args args.toList 0 fun j v h => by simpa using h) h
theorem Zsq (h : Zc P c (Exit.then (c'.wp P Q) Q) N T w) : Zc P (.seq c c') Q N T w := fun a fr => wp_seq (h a fr)
theorem Zrg {id : Nat} {l : List Oper} (h : Zl P l.toArray Q l N T w) : Zc P (.region id l.toArray false) Q N T w := fun a fr => wp_region_lit (h a fr)
theorem Zsr {id : Nat} {l : List Oper} (h : Zl P l.toArray (Exit.then (c'.wp P Q) Q) l N T w) : Zc P (.seq (.region id l.toArray false) c') Q N T w := Zsq (Zrg h)
theorem Znl (h : Ze Q .normal N T w) : Zl P ops Q [] N T w := fun a fr => wpList_nil (h a fr)
theorem Znx (h : Zc P c Q N T w) : Ze (Exit.then (c.wp P Q) E) .normal N T w := fun a fr => fx_next (h a fr)
theorem Znn (h : Zc P c Q N T w) : Zl P ops (Exit.then (c.wp P Q) E) [] N T w := Znl (Znx h)
theorem Zsk (h : Ze Q .normal N T w) : Zc P .skip Q N T w := fun a fr => wp_skip (h a fr)
theorem Zex {id : Nat} (h : Ze Q (.exit id) N T w) : Zc P (.exit id) Q N T w := fun a fr => wp_exit (h a fr)
theorem Zrt (h : Ze Q .ret N T w) : Zc P .ret Q N T w := fun a fr => wp_ret (h a fr)
theorem Zbl {id : Nat} (h : Zc P c (Exit.inBlock id Q) N T w) : Zc P (.block id c) Q N T w := fun a fr => wp_block (h a fr)
theorem Zct {x y : Code} {t : Nat} (h : Zc P x Q N T w) (hc : look T t = some (.bool true) := by rfl) : Zc P (.cond (.tmp t) x y) Q N T w := fun a fr => fx_cond_t fr hc (h a fr)
theorem Zcf {x y : Code} {t : Nat} (h : Zc P y Q N T w) (hc : look T t = some (.bool false) := by rfl) : Zc P (.cond (.tmp t) x y) Q N T w := fun a fr => fx_cond_f fr hc (h a fr)
theorem Zcd {x y : Code} {t : Nat} {b : Bool} (ht : b = true → Zc P x Q N T w) (hf : b = false → Zc P y Q N T w) (hc : look T t = some (.bool b) := by rfl) : Zc P (.cond (.tmp t) x y) Q N T w := fun a fr => fx_cond fr hc (fun h => ht h a fr) (fun h => hf h a fr)
theorem Zb {id : Nat} (h : Ze Q .normal N T w) : Ze (Exit.inBlock id Q) .normal N T w := fun a fr => fx_blk (h a fr)
theorem Zxt {id : Nat} (h : Ze Q (.exit id) N T w) : Ze (Exit.then K Q) (.exit id) N T w := fun a fr => fx_xt (h a fr)
theorem Zxb {id j : Nat} (h : Ze Q (.exit id) N T w) (hne : id ≠ j := by decide) : Ze (Exit.inBlock j Q) (.exit id) N T w := fun a fr => fx_xb hne (h a fr)
theorem Zxx {id : Nat} (h : Ze Q .normal N T w) : Ze (Exit.inBlock id Q) (.exit id) N T w := fun a fr => fx_xx (h a fr)
theorem Zr1 (h : Ze Q .ret N T w) : Ze (Exit.then K Q) .ret N T w := fun a fr => fx_rt (h a fr)
theorem Zr2 {id : Nat} (h : Ze Q .ret N T w) : Ze (Exit.inBlock id Q) .ret N T w := fun a fr => fx_rb (h a fr)
theorem Zre {n : Nat} {fn : Func} {R : Ending → World → Prop} {rs : List ResultVar} (hr : fn.results = rs.toArray) (vs : List Value) (h : Res P w T rs vs) {v : Value} (hR : R (.returned v) w)
    (hv : (if h : vs.toArray.size = 1 then vs.toArray[0] else .tuple vs.toArray) = v := by rfl) : Ze (bodyPost P fn R) .ret (n, []) T w := fun _ fr => fx_ret fr rs vs hr h hv hR
theorem Zee {n : Nat} {fn : Func} {R : Ending → World → Prop} {rs : List ResultVar} (hr : fn.results = rs.toArray) (vs : List Value) (h : Res P w T rs vs) {v : Value} (hR : R (.returned v) w)
    (hv : (if h : vs.toArray.size = 1 then vs.toArray[0] else .tuple vs.toArray) = v := by rfl) : Ze (bodyPost P fn R) .normal (n, []) T w := fun _ fr => fx_end fr rs vs hr h hv hR
theorem Zv (v : Value) (hx : ∀ a, Fr N T a → (execOp a.eval o).run P w = .ok (.value v) w1) (k : Zl P ops Q rest N ((d, v) :: T) w1) (hw : Gd o ops T := by first | exact Or.inl rfl | exact Or.inr ⟨_, _, _, rfl, rfl, rfl⟩) (hd : o.dst = some d := by rfl) (hN : d < N.1 := by exact Nat.le_of_ble_eq_true rfl) : Zl P ops Q (o :: rest) N T w :=
  fun a fr => fx_val fr (fr.gd hw) hd hN (hx a fr) k
theorem Zm (k : Zl P ops Q rest N ((d, v) :: T) w) (ho : o.op = .move x := by rfl) (hx : evT T x = some v := by rfl) (hw : Gd o ops T := by first | exact Or.inl rfl | exact Or.inr ⟨_, _, _, rfl, rfl, rfl⟩) (hd : o.dst = some d := by rfl) (hN : d < N.1 := by exact Nat.le_of_ble_eq_true rfl) : Zl P ops Q (o :: rest) N T w :=
  Zv v (fun _ fr => x_move ho (fr.evT hx)) k hw hd hN
theorem Za (k : Zl P ops Q rest N ((d, v) :: T) w) (ho : o.op = .assign x := by rfl) (hx : evT T x = some v := by rfl) (hw : Gd o ops T := by first | exact Or.inl rfl | exact Or.inr ⟨_, _, _, rfl, rfl, rfl⟩) (hd : o.dst = some d := by rfl) (hN : d < N.1 := by exact Nat.le_of_ble_eq_true rfl) : Zl P ops Q (o :: rest) N T w :=
  Zv v (fun _ fr => x_assign ho (fr.evT hx)) k hw hd hN
theorem Zt {vs : Array Value} {i : Nat} (k : Zl P ops Q rest N ((d, v) :: T) w) (ho : o.op = .extract x i := by rfl) (hx : evT T x = some (.tuple vs) := by rfl) (hi : vs[i]? = some v := by rfl) (hw : Gd o ops T := by first | exact Or.inl rfl | exact Or.inr ⟨_, _, _, rfl, rfl, rfl⟩) (hd : o.dst = some d := by rfl) (hN : d < N.1 := by exact Nat.le_of_ble_eq_true rfl) : Zl P ops Q (o :: rest) N T w :=
  Zv v (fun _ fr => x_extract ho (fr.evT hx) hi) k hw hd hN
theorem Zn {p : Addr} (k : Zl P ops Q rest N ((d, .pointer (some p)) :: T) w) (ho : o.op = .nilCheck x := by rfl) (hx : evT T x = some (.pointer (some p)) := by rfl) (hw : Gd o ops T := by first | exact Or.inl rfl | exact Or.inr ⟨_, _, _, rfl, rfl, rfl⟩) (hd : o.dst = some d := by rfl) (hN : d < N.1 := by exact Nat.le_of_ble_eq_true rfl) : Zl P ops Q (o :: rest) N T w :=
  Zv _ (fun _ fr => x_nilCheck ho (fr.evT hx)) k hw hd hN
theorem Zf {t f off g q q' : Nat} (hf : fieldOff P t f = some off) (k : Zl P ops Q rest N ((d, .pointer (some ⟨g, q', none⟩)) :: T) w) (ho : o.op = .fieldAddr t x f := by rfl) (hx : evT T x = some (.pointer (some ⟨g, q, none⟩)) := by rfl) (hq : q + off = q' := by rfl) (hw : Gd o ops T := by first | exact Or.inl rfl | exact Or.inr ⟨_, _, _, rfl, rfl, rfl⟩) (hd : o.dst = some d := by rfl) (hN : d < N.1 := by exact Nat.le_of_ble_eq_true rfl) : Zl P ops Q (o :: rest) N T w :=
  Zv _ (fun _ fr => x_fieldAddr hf ho (fr.evT hx) hq) k hw hd hN
theorem Zd {t : TypeId} {ad : Addr} (ht : plainT P t = true) (hc : w.cell? ad = some v) (k : Zl P ops Q rest N ((d, v) :: T) w) (ho : o.op = .load t x := by rfl) (hx : evT T x = some (.pointer (some ad)) := by rfl) (hw : Gd o ops T := by first | exact Or.inl rfl | exact Or.inr ⟨_, _, _, rfl, rfl, rfl⟩) (hd : o.dst = some d := by rfl) (hN : d < N.1 := by exact Nat.le_of_ble_eq_true rfl) : Zl P ops Q (o :: rest) N T w :=
  Zv v (fun _ fr => x_load1 ht ho (fr.evT hx) hc) k hw hd hN
theorem ZE {α : Type} [DecidableEq α] (E : Enc P α) {t : TypeId} {g q : Nat} {p : α} (hg : aggT P t E.n = true) (hc : w.rangeAt g q (E.cells p)) (k : Zl P ops Q rest N ((d, .agg (E.arr p)) :: T) w) (hT : E.T = t := by rfl) (ho : o.op = .load t x := by rfl) (hx : evT T x = some (.pointer (some ⟨g, q, none⟩)) := by rfl) (hw : Gd o ops T := by first | exact Or.inl rfl | exact Or.inr ⟨_, _, _, rfl, rfl, rfl⟩) (hd : o.dst = some d := by rfl) (hN : d < N.1 := by exact Nat.le_of_ble_eq_true rfl) : Zl P ops Q (o :: rest) N T w :=
  Zv _ (fun _ fr => by subst hT; exact x_loadE hg rfl ho (fr.evT hx) hc) k hw hd hN
theorem Zpt (k : Zl P ops Q rest N ((d, v) :: T) w) (ho : o.op = .pick x y z := by rfl) (hx : evT T x = some (.bool true) := by rfl) (hy : evT T y = some v := by rfl) (hw : Gd o ops T := by first | exact Or.inl rfl | exact Or.inr ⟨_, _, _, rfl, rfl, rfl⟩) (hd : o.dst = some d := by rfl) (hN : d < N.1 := by exact Nat.le_of_ble_eq_true rfl) : Zl P ops Q (o :: rest) N T w :=
  Zv v (fun _ fr => x_pick_t ho (fr.evT hx) (fr.evT hy)) k hw hd hN
theorem Zpf (k : Zl P ops Q rest N ((d, v) :: T) w) (ho : o.op = .pick x y z := by rfl) (hx : evT T x = some (.bool false) := by rfl) (hz : evT T z = some v := by rfl) (hw : Gd o ops T := by first | exact Or.inl rfl | exact Or.inr ⟨_, _, _, rfl, rfl, rfl⟩) (hd : o.dst = some d := by rfl) (hN : d < N.1 := by exact Nat.le_of_ble_eq_true rfl) : Zl P ops Q (o :: rest) N T w :=
  Zv v (fun _ fr => x_pick_f ho (fr.evT hx) (fr.evT hz)) k hw hd hN
theorem Zs (k : Zl P ops Q rest N ((d, undef) :: T) w) (hw : Gn o ops T := by first | exact ⟨_, _, _, rfl, rfl, Or.inr ⟨_, rfl, by decide⟩⟩ | exact ⟨_, _, _, rfl, rfl, Or.inl rfl⟩) (hd : o.dst = some d := by rfl) (hN : d < N.1 := by exact Nat.le_of_ble_eq_true rfl) : Zl P ops Q (o :: rest) N T w :=
  fun a fr => fx_skip fr (fr.gn hw) hd hN k
theorem Zy {j t : Nat} {b want : Bool} (g : Bool) (v : Value) (hx : ∀ a, Fr N T a → g = true → (execOp a.eval o).run P w = .ok (.value v) w) (k : Zl P ops Q rest N ((d, onlyIf g v) :: T) w) (hg : o.guard = some (j, want) := by rfl) (hj : dstAt ops j = some t := by rfl) (hb : look T t = some (.bool b) := by rfl) (hgb : (b == want) = g := by simp) (hd : o.dst = some d := by rfl) (hN : d < N.1 := by exact Nat.le_of_ble_eq_true rfl) : Zl P ops Q (o :: rest) N T w :=
  fun a fr => fx_may fr hg hj hb hgb hd hN (hx a fr) k
def EvL (T : List (Nat × Value)) : List Operand → List Value → Prop
  | [], [] => True
  | x :: xs, v :: vs => evT T x = some v ∧ EvL T xs vs
  | _, _ => False
theorem Fr.evL (fr : Fr N T a) : ∀ {xs : List Operand} {vs : List Value}, EvL T xs vs → Evs a.eval xs vs
  | [], [], _ => trivial
  | _ :: _, _ :: _, h => ⟨fr.evT h.1, fr.evL h.2⟩
  | [], _ :: _, h => h.elim
  | _ :: _, [], h => h.elim
structure CF (P : Program) (f : FuncId) : Prop where
  ok : ∃ fn, P.funcs[f]? = some fn ∧ (fn.name == "runtime.NumGoroutine") = false ∧ fn.body.isNone = false
theorem Zk {f : FuncId} {args : Array Value} {xs : List Operand} {ts : Array TypeId} {R : Value → World → Prop} (hf : CF P f) (L : Calls P f args w (Ret R)) (k : ∀ v w1, R v w1 → Zl P ops Q rest N ((d, v) :: T) w1) (ho : o.op = .call { callee := .value (.func f), args := xs.toArray, argTypes := ts } := by rfl)
    (hv : EvL T xs args.toList := by repeat' first | exact trivial | exact rfl | apply And.intro) (hw : Gd o ops T := by first | exact Or.inl rfl | exact Or.inr ⟨_, _, _, rfl, rfl, rfl⟩) (hd : o.dst = some d := by rfl) (hN : d < N.1 := by exact Nat.le_of_ble_eq_true rfl) : Zl P ops Q (o :: rest) N T w := by
  obtain ⟨fn, h1, h2, h3⟩ := hf.ok
  intro a fr
  have hc := x_call (w := w) (vs := args.toList) (fn := fn) ho rfl (fr.evL hv) h1 h2 h3
  rw [show args.toList.toArray = args from rfl] at hc
  exact fx_call fr (fr.gd hw) hd hN hc L k
theorem Zkx {f : FuncId} {args : Array Value} {R : Value → World → Prop} (hx : ∀ a, Fr N T a → (execOp a.eval o).run P w = .ok (.enter f args) w) (L : Calls P f args w (Ret R)) (k : ∀ v w1, R v w1 → Zl P ops Q rest N ((d, v) :: T) w1) (hw : Gd o ops T := by first | exact Or.inl rfl | exact Or.inr ⟨_, _, _, rfl, rfl, rfl⟩) (hd : o.dst = some d := by rfl) (hN : d < N.1 := by exact Nat.le_of_ble_eq_true rfl) : Zl P ops Q (o :: rest) N T w :=
  fun a fr => fx_call fr (fr.gd hw) hd hN (hx a fr) L k
theorem Zna {t : TypeId} {z : Value} {cs : Array Value} (hz : (P.info? t).bind (·.zero) = some z) (k : ∀ b w1, New w w1 → Blk w1 b t cs → w.heap.size ≤ b → Zl P ops Q rest N ((d, .pointer (some ⟨b, 0, none⟩)) :: T) w1) (ho : o.op = .alloc t := by rfl) (hc : z.cells = cs := by rfl) (hw : Gd o ops T := by first | exact Or.inl rfl | exact Or.inr ⟨_, _, _, rfl, rfl, rfl⟩) (hd : o.dst = some d := by rfl) (hN : d < N.1 := by exact Nat.le_of_ble_eq_true rfl) : Zl P ops Q (o :: rest) N T w :=
  fun a fr => fx_new fr (fr.gd hw) hd hN (x_alloc ho hz hc) k
theorem Znb {t : TypeId} {cs : Array Value} (k : ∀ b w1, New w w1 → Blk w1 b t cs → w.heap.size ≤ b → Zl P ops Q rest N ((d, .pointer (some ⟨b, 0, none⟩)) :: T) w1) (ho : o.op = .box t x := by rfl) (hx : evT T x = some v := by rfl) (hc : v.cells = cs := by rfl) (hw : Gd o ops T := by first | exact Or.inl rfl | exact Or.inr ⟨_, _, _, rfl, rfl, rfl⟩) (hd : o.dst = some d := by rfl) (hN : d < N.1 := by exact Nat.le_of_ble_eq_true rfl) : Zl P ops Q (o :: rest) N T w :=
  fun a fr => fx_new fr (fr.gd hw) hd hN (x_box ho (fr.evT hx) hc) k
theorem ZsS {t b n : Nat} {tb : TypeId} {old cs : Array Value} (hs : (P.info? t).map (·.size) = some n) (h1 : cs.all (·.oneCell') = true) (hB : Blk w b tb old) (hn : old.size = n) (hm : cs.size = n) (k : ∀ w1, Only (fun k => k = b) w w1 → Blk w1 b tb cs → Zl P ops Q rest N T w1)
    (ho : o.op = .store t x y := by rfl) (hx : evT T x = some (.pointer (some ⟨b, 0, none⟩)) := by rfl) (hy : evT T y = some (.agg cs) := by rfl) (hw : Gd o ops T := by first | exact Or.inl rfl | exact Or.inr ⟨_, _, _, rfl, rfl, rfl⟩) (hd : o.dst = none := by rfl) : Zl P ops Q (o :: rest) N T w :=
  fun a fr => fx_storeS hs (fr.gd hw) hd ho (fr.evT hx) (fr.evT hy) h1 hB hn hm fun w1 h1 h2 => k w1 h1 h2 a fr
theorem Zs1 {t b i : Nat} {tb : TypeId} {cs cs' : Array Value} (hs : (P.info? t).map (·.size) = some 1) (hB : Blk w b tb cs) (hi : i < cs.size) (hcs : cs.setIfInBounds i v = cs') (k : ∀ w1, Only (fun k => k = b) w w1 → Blk w1 b tb cs' → Zl P ops Q rest N T w1)
    (ho : o.op = .store t x y := by rfl) (hx : evT T x = some (.pointer (some ⟨b, i, none⟩)) := by rfl) (hy : evT T y = some v := by rfl) (hv : v.oneCell' = true := by rfl) (hw : Gd o ops T := by first | exact Or.inl rfl | exact Or.inr ⟨_, _, _, rfl, rfl, rfl⟩) (hd : o.dst = none := by rfl) : Zl P ops Q (o :: rest) N T w :=
  fun a fr => fx_store1 hs (fr.gd hw) hd ho (fr.evT hx) (fr.evT hy) hv hB hi hcs fun w1 h1 h2 => k w1 h1 h2 a fr
end
section
variable {P : Program} {N : Nat × List Deferred} {T T' : List (Nat × Value)} {w : World} {Q : Exit → Act → World → Prop} {K : Act → World → Prop} {ops : Array Oper} {rest : List Oper} {o o' : Oper} {d d' : Nat} {v v' : Value} {x x' : Operand} {c c' : Code} {E : Exit → Act → World → Prop}
theorem Zan (k : Zc P c Q N ((d, v) :: T) w) (ho : o.op = .assign x := by rfl) (hx : evT T x = some v := by rfl) (hw : Gd o ops T := by first | exact Or.inl rfl | exact Or.inr ⟨_, _, _, rfl, rfl, rfl⟩) (hd : o.dst = some d := by rfl) (hN : d < N.1 := by exact Nat.le_of_ble_eq_true rfl) : Zl P ops (Exit.then (c.wp P Q) E) [o] N T w := Za (Znn k) ho hx hw hd hN
theorem Zsm {id : Nat} (k : Zl P (o :: rest).toArray (Exit.then (c'.wp P Q) Q) rest N ((d, v) :: T) w) (ho : o.op = .move x := by rfl) (hx : evT T x = some v := by rfl) (hw : Gd o (o :: rest).toArray T := by first | exact Or.inl rfl | exact Or.inr ⟨_, _, _, rfl, rfl, rfl⟩) (hd : o.dst = some d := by rfl) (hN : d < N.1 := by exact Nat.le_of_ble_eq_true rfl) : Zc P (.seq (.region id (o :: rest).toArray false) c') Q N T w := Zsr (Zm k ho hx hw hd hN)
theorem Zgm {id : Nat} (k : Zl P (o :: rest).toArray Q rest N ((d, v) :: T) w) (ho : o.op = .move x := by rfl) (hx : evT T x = some v := by rfl) (hw : Gd o (o :: rest).toArray T := by first | exact Or.inl rfl | exact Or.inr ⟨_, _, _, rfl, rfl, rfl⟩) (hd : o.dst = some d := by rfl) (hN : d < N.1 := by exact Nat.le_of_ble_eq_true rfl) : Zc P (.region id (o :: rest).toArray false) Q N T w := Zrg (Zm k ho hx hw hd hN)
theorem Zmm (k : Zl P ops Q rest N ((d', v') :: (d, v) :: T) w) (ho : o.op = .move x := by rfl) (hx : evT T x = some v := by rfl) (hw : Gd o ops T := by first | exact Or.inl rfl | exact Or.inr ⟨_, _, _, rfl, rfl, rfl⟩) (hd : o.dst = some d := by rfl) (hN : d < N.1 := by exact Nat.le_of_ble_eq_true rfl)
    (ho' : o'.op = .move x' := by rfl) (hx' : evT ((d, v) :: T) x' = some v' := by rfl) (hw' : Gd o' ops ((d, v) :: T) := by first | exact Or.inl rfl | exact Or.inr ⟨_, _, _, rfl, rfl, rfl⟩) (hd' : o'.dst = some d' := by rfl) (hN' : d' < N.1 := by exact Nat.le_of_ble_eq_true rfl) : Zl P ops Q (o :: o' :: rest) N T w := Zm (Zm k ho' hx' hw' hd' hN') ho hx hw hd hN
theorem Ztt {vs vs' : Array Value} {i i' : Nat} (k : Zl P ops Q rest N ((d', v') :: (d, v) :: T) w) (ho : o.op = .extract x i := by rfl) (hx : evT T x = some (.tuple vs) := by rfl) (hi : vs[i]? = some v := by rfl) (hw : Gd o ops T := by first | exact Or.inl rfl | exact Or.inr ⟨_, _, _, rfl, rfl, rfl⟩) (hd : o.dst = some d := by rfl) (hN : d < N.1 := by exact Nat.le_of_ble_eq_true rfl)
    (ho' : o'.op = .extract x' i' := by rfl) (hx' : evT ((d, v) :: T) x' = some (.tuple vs') := by rfl) (hi' : vs'[i']? = some v' := by rfl) (hw' : Gd o' ops ((d, v) :: T) := by first | exact Or.inl rfl | exact Or.inr ⟨_, _, _, rfl, rfl, rfl⟩) (hd' : o'.dst = some d' := by rfl) (hN' : d' < N.1 := by exact Nat.le_of_ble_eq_true rfl) : Zl P ops Q (o :: o' :: rest) N T w := Zt (Zt k ho' hx' hi' hw' hd' hN') ho hx hi hw hd hN
theorem Zss (k : Zl P ops Q rest N ((d', undef) :: (d, undef) :: T) w) (hw : Gn o ops T := by first | exact ⟨_, _, _, rfl, rfl, Or.inr ⟨_, rfl, by decide⟩⟩ | exact ⟨_, _, _, rfl, rfl, Or.inl rfl⟩) (hd : o.dst = some d := by rfl) (hN : d < N.1 := by exact Nat.le_of_ble_eq_true rfl)
    (hw' : Gn o' ops ((d, undef) :: T) := by first | exact ⟨_, _, _, rfl, rfl, Or.inr ⟨_, rfl, by decide⟩⟩ | exact ⟨_, _, _, rfl, rfl, Or.inl rfl⟩) (hd' : o'.dst = some d' := by rfl) (hN' : d' < N.1 := by exact Nat.le_of_ble_eq_true rfl) : Zl P ops Q (o :: o' :: rest) N T w := Zs (Zs k hw' hd' hN') hw hd hN
theorem Zaq (k : Zc P c (Exit.then (c'.wp P Q) Q) N ((d, v) :: T) w) (ho : o.op = .assign x := by rfl) (hx : evT T x = some v := by rfl) (hw : Gd o ops T := by first | exact Or.inl rfl | exact Or.inr ⟨_, _, _, rfl, rfl, rfl⟩) (hd : o.dst = some d := by rfl) (hN : d < N.1 := by exact Nat.le_of_ble_eq_true rfl) : Zl P ops (Exit.then ((Code.seq c c').wp P Q) E) [o] N T w := Zan (Zsq k) ho hx hw hd hN
theorem Zar (k : Ze Q .ret N ((d, v) :: T) w) (ho : o.op = .assign x := by rfl) (hx : evT T x = some v := by rfl) (hw : Gd o ops T := by first | exact Or.inl rfl | exact Or.inr ⟨_, _, _, rfl, rfl, rfl⟩) (hd : o.dst = some d := by rfl) (hN : d < N.1 := by exact Nat.le_of_ble_eq_true rfl) : Zl P ops (Exit.then (Code.ret.wp P Q) E) [o] N T w := Zan (Zrt k) ho hx hw hd hN
theorem Zkn (h : Zc P c Q N T w) : Zc P .skip (Exit.then (c.wp P Q) E) N T w := Zsk (Znx h)
theorem Znf {z y : Code} {t : Nat} (h : Zc P y Q N T w) (hc : look T t = some (.bool false) := by rfl) : Zl P ops (Exit.then ((Code.cond (.tmp t) z y).wp P Q) E) [] N T w := Znn (Zcf h hc)
theorem Znt {z y : Code} {t : Nat} (h : Zc P z Q N T w) (hc : look T t = some (.bool true) := by rfl) : Zl P ops (Exit.then ((Code.cond (.tmp t) z y).wp P Q) E) [] N T w := Znn (Zct h hc)
theorem Znq (h : Zc P c (Exit.then (c'.wp P Q) Q) N T w) : Zl P ops (Exit.then ((Code.seq c c').wp P Q) E) [] N T w := Znn (Zsq h)
theorem Zbn {id : Nat} (h : Zc P c Q N T w) : Ze (Exit.inBlock id (Exit.then (c.wp P Q) E)) .normal N T w := Zb (Znx h)
theorem Zr21 {id : Nat} (h : Ze Q .ret N T w) : Ze (Exit.inBlock id (Exit.then K Q)) .ret N T w := Zr2 (Zr1 h)
end
section
variable {P : Program} {N : Nat × List Deferred} {T : List (Nat × Value)} {w : World} {Q : Exit → Act → World → Prop} {K : Act → World → Prop} {ops : List Oper} {o : Oper} {d k : Nat} {v : Value} {S : World → Prop} {fuel i : Nat} {listed : Array Bool} {x y z : Operand}
theorem Zhd {id n : Nat} (S : World → Prop) (h : ∀ w1, New w w1 → Zh P ops Q S n (Array.replicate n false) N T w1) (hm : P.follows .mixedOrders = true := by kernel_rfl) (hn : ops.length = n := by rfl) : Zc P (.region id ops.toArray true) Q N T w :=
  fun a fr => fx_held S hm hn fun w1 h1 => h w1 h1 a fr
theorem ZhT {id n : Nat} (k : Nat) (S : World → Prop) (h : ∀ w1, New w w1 → Zh P (ops.take k) (tailQ P ops.toArray Q k) S n (Array.replicate n false) N T w1) (hm : P.follows .mixedOrders = true := by kernel_rfl) (hB : headOk ops.toArray k = true := by kernel_rfl) (hn : (ops.take k).length = n := by rfl) : Zc P (.region id ops.toArray true) Q N T w :=
  fun a fr => fx_heldT S hm hB hn fun w1 h1 => h w1 h1 a fr
theorem Zhn (h : Ze Q .normal N T w) (hr : Region.ready .any ops.toArray listed = [] := by kernel_rfl) : Zh P ops Q S fuel listed N T w := fun a fr => fx_hdone hr (h a fr)
theorem Ztl {ops : Array Oper} (h : Zl P ops Q (ops.toList.drop k) N T w) : Ze (tailQ P ops Q k) .normal N T w := fun a fr => fx_tail (h a fr)
theorem Zht (i : Nat) (hi : ops[i]? = some o) (v : Value) (hS : S w) (hrun : ∀ a, Fr N T a → ∀ w, S w → (execOp a.eval o).run P w = .ok (.value v) w) (k : Zh P ops Q S fuel (listed.setIfInBounds i true) N ((d, v) :: T) w) (hok : takeOk ops listed i = true := by kernel_rfl) (hw : Gd o ops.toArray T := by first | exact Or.inl rfl | exact Or.inr ⟨_, _, _, rfl, rfl, rfl⟩) (hd : o.dst = some d := by rfl) (hN : d < N.1 := by exact Nat.le_of_ble_eq_true rfl)
    (hQ : ∀ c a w, Q (.panic c) (a.put o.dst v) w → Q (.panic c) a w := by first | exact fun _ _ _ h => h | exact fun _ _ _ h => panic_putD (by decide) h) : Zh P ops Q S (fuel + 1) listed N T w :=
  fun a fr => fx_take fr hi hok (fr.gd hw) hd hN hQ (hrun a fr) hS k
theorem Zhm (i : Nat) (hS : S w) (k : Zh P ops Q S fuel (listed.setIfInBounds i true) N ((d, v) :: T) w) (hi : ops[i]? = some o := by rfl) (ho : o.op = .move x := by rfl) (hx : evT T x = some v := by rfl) (hok : takeOk ops listed i = true := by kernel_rfl) (hw : Gd o ops.toArray T := by first | exact Or.inl rfl | exact Or.inr ⟨_, _, _, rfl, rfl, rfl⟩) (hd : o.dst = some d := by rfl) (hN : d < N.1 := by exact Nat.le_of_ble_eq_true rfl)
    (hQ : ∀ c a w, Q (.panic c) (a.put o.dst v) w → Q (.panic c) a w := by first | exact fun _ _ _ h => h | exact fun _ _ _ h => panic_putD (by decide) h) : Zh P ops Q S (fuel + 1) listed N T w :=
  Zht i hi v hS (fun _ fr _ _ => x_move ho (fr.evT hx)) k hok hw hd hN hQ
theorem Zha (i : Nat) (hS : S w) (k : Zh P ops Q S fuel (listed.setIfInBounds i true) N ((d, v) :: T) w) (hi : ops[i]? = some o := by rfl) (ho : o.op = .assign x := by rfl) (hx : evT T x = some v := by rfl) (hok : takeOk ops listed i = true := by kernel_rfl) (hw : Gd o ops.toArray T := by first | exact Or.inl rfl | exact Or.inr ⟨_, _, _, rfl, rfl, rfl⟩) (hd : o.dst = some d := by rfl) (hN : d < N.1 := by exact Nat.le_of_ble_eq_true rfl)
    (hQ : ∀ c a w, Q (.panic c) (a.put o.dst v) w → Q (.panic c) a w := by first | exact fun _ _ _ h => h | exact fun _ _ _ h => panic_putD (by decide) h) : Zh P ops Q S (fuel + 1) listed N T w :=
  Zht i hi v hS (fun _ fr _ _ => x_assign ho (fr.evT hx)) k hok hw hd hN hQ
theorem Zhx (i : Nat) {vs : Array Value} {j : Nat} (hS : S w) (k : Zh P ops Q S fuel (listed.setIfInBounds i true) N ((d, v) :: T) w) (hi : ops[i]? = some o := by rfl) (ho : o.op = .extract x j := by rfl) (hx : evT T x = some (.tuple vs) := by rfl) (hj : vs[j]? = some v := by rfl) (hok : takeOk ops listed i = true := by kernel_rfl) (hw : Gd o ops.toArray T := by first | exact Or.inl rfl | exact Or.inr ⟨_, _, _, rfl, rfl, rfl⟩) (hd : o.dst = some d := by rfl) (hN : d < N.1 := by exact Nat.le_of_ble_eq_true rfl)
    (hQ : ∀ c a w, Q (.panic c) (a.put o.dst v) w → Q (.panic c) a w := by first | exact fun _ _ _ h => h | exact fun _ _ _ h => panic_putD (by decide) h) : Zh P ops Q S (fuel + 1) listed N T w :=
  Zht i hi v hS (fun _ fr _ _ => x_extract ho (fr.evT hx) hj) k hok hw hd hN hQ
theorem Zhf (i : Nat) {t f off g q q' : Nat} (hf : fieldOff P t f = some off) (hS : S w) (k : Zh P ops Q S fuel (listed.setIfInBounds i true) N ((d, .pointer (some ⟨g, q', none⟩)) :: T) w) (hi : ops[i]? = some o := by rfl) (ho : o.op = .fieldAddr t x f := by rfl) (hx : evT T x = some (.pointer (some ⟨g, q, none⟩)) := by rfl) (hq : q + off = q' := by rfl) (hok : takeOk ops listed i = true := by kernel_rfl) (hw : Gd o ops.toArray T := by first | exact Or.inl rfl | exact Or.inr ⟨_, _, _, rfl, rfl, rfl⟩) (hd : o.dst = some d := by rfl) (hN : d < N.1 := by exact Nat.le_of_ble_eq_true rfl)
    (hQ : ∀ c a w, Q (.panic c) (a.put o.dst (.pointer (some ⟨g, q', none⟩))) w → Q (.panic c) a w := by first | exact fun _ _ _ h => h | exact fun _ _ _ h => panic_putD (by decide) h) : Zh P ops Q S (fuel + 1) listed N T w :=
  Zht i hi _ hS (fun _ fr _ _ => x_fieldAddr hf ho (fr.evT hx) hq) k hok hw hd hN hQ
theorem Zhc (i : Nat) {p : Addr} (hS : S w) (k : Zh P ops Q S fuel (listed.setIfInBounds i true) N ((d, .pointer (some p)) :: T) w) (hi : ops[i]? = some o := by rfl) (ho : o.op = .nilCheck x := by rfl) (hx : evT T x = some (.pointer (some p)) := by rfl) (hok : takeOk ops listed i = true := by kernel_rfl) (hw : Gd o ops.toArray T := by first | exact Or.inl rfl | exact Or.inr ⟨_, _, _, rfl, rfl, rfl⟩) (hd : o.dst = some d := by rfl) (hN : d < N.1 := by exact Nat.le_of_ble_eq_true rfl)
    (hQ : ∀ c a w, Q (.panic c) (a.put o.dst (.pointer (some p))) w → Q (.panic c) a w := by first | exact fun _ _ _ h => h | exact fun _ _ _ h => panic_putD (by decide) h) : Zh P ops Q S (fuel + 1) listed N T w :=
  Zht i hi _ hS (fun _ fr _ _ => x_nilCheck ho (fr.evT hx)) k hok hw hd hN hQ
theorem Zhl (i : Nat) {t : TypeId} {ad : Addr} (ht : plainT P t = true) (hS : S w) (hc : ∀ w, S w → w.cell? ad = some v) (k : Zh P ops Q S fuel (listed.setIfInBounds i true) N ((d, v) :: T) w) (hi : ops[i]? = some o := by rfl) (ho : o.op = .load t x := by rfl) (hx : evT T x = some (.pointer (some ad)) := by rfl) (hok : takeOk ops listed i = true := by kernel_rfl) (hw : Gd o ops.toArray T := by first | exact Or.inl rfl | exact Or.inr ⟨_, _, _, rfl, rfl, rfl⟩) (hd : o.dst = some d := by rfl) (hN : d < N.1 := by exact Nat.le_of_ble_eq_true rfl)
    (hQ : ∀ c a w, Q (.panic c) (a.put o.dst v) w → Q (.panic c) a w := by first | exact fun _ _ _ h => h | exact fun _ _ _ h => panic_putD (by decide) h) : Zh P ops Q S (fuel + 1) listed N T w :=
  Zht i hi v hS (fun _ fr w hs => x_load1 ht ho (fr.evT hx) (hc w hs)) k hok hw hd hN hQ
theorem ZhE (i : Nat) {α : Type} [DecidableEq α] (E : Enc P α) {t : TypeId} {g q : Nat} {p : α} (hg : aggT P t E.n = true) (hS : S w) (hc : ∀ w, S w → w.rangeAt g q (E.cells p)) (k : Zh P ops Q S fuel (listed.setIfInBounds i true) N ((d, .agg (E.arr p)) :: T) w) (hT : E.T = t := by rfl) (hi : ops[i]? = some o := by rfl) (ho : o.op = .load t x := by rfl) (hx : evT T x = some (.pointer (some ⟨g, q, none⟩)) := by rfl) (hok : takeOk ops listed i = true := by kernel_rfl) (hw : Gd o ops.toArray T := by first | exact Or.inl rfl | exact Or.inr ⟨_, _, _, rfl, rfl, rfl⟩) (hd : o.dst = some d := by rfl) (hN : d < N.1 := by exact Nat.le_of_ble_eq_true rfl)
    (hQ : ∀ c a w, Q (.panic c) (a.put o.dst (.agg (E.arr p))) w → Q (.panic c) a w := by first | exact fun _ _ _ h => h | exact fun _ _ _ h => panic_putD (by decide) h) : Zh P ops Q S (fuel + 1) listed N T w :=
  Zht i hi _ hS (fun _ fr w hs => by subst hT; exact x_loadE hg rfl ho (fr.evT hx) (hc w hs)) k hok hw hd hN hQ
theorem Zhs (i : Nat) (hS : S w) (k : Zh P ops Q S fuel (listed.setIfInBounds i true) N ((d, undef) :: T) w) (hi : ops[i]? = some o := by rfl) (hok : takeOk ops listed i = true := by kernel_rfl) (hw : Gn o ops.toArray T := by first | exact ⟨_, _, _, rfl, rfl, Or.inr ⟨_, rfl, by decide⟩⟩ | exact ⟨_, _, _, rfl, rfl, Or.inl rfl⟩) (hd : o.dst = some d := by rfl) (hN : d < N.1 := by exact Nat.le_of_ble_eq_true rfl)
    (hQ : ∀ c a w, Q (.panic c) (a.put o.dst undef) w → Q (.panic c) a w := by first | exact fun _ _ _ h => h | exact fun _ _ _ h => panic_putD (by decide) h) : Zh P ops Q S (fuel + 1) listed N T w :=
  fun a fr => fx_takeskip fr hi hok (fr.gn hw) hd hN hQ hS k
theorem Zhy (i : Nat) {j t : Nat} {b want : Bool} (hi : ops[i]? = some o) (g : Bool) (v : Value) (hS : S w) (hrun : ∀ a, Fr N T a → g = true → ∀ w, S w → (execOp a.eval o).run P w = .ok (.value v) w) (k : Zh P ops Q S fuel (listed.setIfInBounds i true) N ((d, onlyIf g v) :: T) w) (hg : o.guard = some (j, want) := by rfl) (hj : dstAt ops.toArray j = some t := by rfl) (hb : look T t = some (.bool b) := by rfl) (hgb : (b == want) = g := by simp) (hok : takeOk ops listed i = true := by kernel_rfl) (hd : o.dst = some d := by rfl) (hN : d < N.1 := by exact Nat.le_of_ble_eq_true rfl)
    (hQ : ∀ u c a w, Q (.panic c) (a.put o.dst u) w → Q (.panic c) a w := by first | exact fun _ _ _ _ h => h | exact fun _ _ _ _ h => panic_putD (by decide) h) : Zh P ops Q S (fuel + 1) listed N T w :=
  fun a fr => fx_takemay fr hi hok hg hj hb hgb hd hN hQ (hrun a fr) hS k
def Hq (P : Program) (ops : List Oper) (Q : Exit → Act → World → Prop) (S : World → Prop) (fuel : Nat) (listed : Array Bool) : Exit → Act → World → Prop := fun e a w => match e with
  | .normal => S w ∧ wpAnyH P .any ops.toArray Q S fuel listed a w
  | e => Q e a w
theorem Zhp {c : List PanicEntry} {a : Act} (h : Q (.panic c) a w) : Hq P ops Q S fuel listed (.panic c) a w := h
theorem Zh1 (i : Nat) (h : Zl P ops.toArray (Hq P ops Q S fuel (listed.setIfInBounds i true)) [o] N T w) (hr : Region.ready .any ops.toArray listed = [i] := by kernel_rfl) (hi : ops[i]? = some o := by rfl) : Zh P ops Q S (fuel + 1) listed N T w :=
  fun a fr => fx_one hr (fx_op hi (h a fr))
theorem Zh2 (i j : Nat) {o' : Oper} (h : Zl P ops.toArray (Hq P ops Q S fuel (listed.setIfInBounds i true)) [o] N T w) (h' : Zl P ops.toArray (Hq P ops Q S fuel (listed.setIfInBounds j true)) [o'] N T w) (hr : Region.ready .any ops.toArray listed = [i, j] := by kernel_rfl) (hi : ops[i]? = some o := by rfl) (hj : ops[j]? = some o' := by rfl) : Zh P ops Q S (fuel + 1) listed N T w :=
  fun a fr => fx_two hr (fx_op hi (h a fr)) (fx_op hj (h' a fr))
theorem Zhb {os : Array Oper} (hS : S w) (h : Zh P ops Q S fuel listed N T w) : Zl P os (Hq P ops Q S fuel listed) [] N T w :=
  fun a fr => wpList_nil ⟨hS, h a fr⟩
end
end Go.Proofs.Ytflnlmibkbojcaa
namespace Go.Proofs.Ytflnlmibkbojcaa
open Go.RowKit
def u8v (x : UInt8) : Value := .int .u8 (x.toNat : Int)
def okSize (n : Int) : Bool := n == 16 || n == 32 || n == 64 || n == 128 || n == 256 || n == 512 || n == 1024 || n == 2048 || n == 4096
theorem okSize_nat (n : Nat) (h1 : n < 4097) (h0 : 16 ≤ n) : (bits .and .i64 (n : Int) ((n : Int) - 1) != 0) = !okSize n := by
  have h : ∀ a : Nat, a < 65 → ∀ b : Nat, b < 64 → 64 * a + b < 4097 → 16 ≤ 64 * a + b → (bits .and .i64 ((64 * a + b : Nat) : Int) (((64 * a + b : Nat) : Int) - 1) != 0) = !okSize ((64 * a + b : Nat) : Int) := by decide +kernel
  have := h (n / 64) (by omega) (n % 64) (by omega) (by omega) (by omega)
  rwa [Nat.div_add_mod] at this
theorem okSize_int (n : Int) (h0 : 16 ≤ n) (h1 : n ≤ 4096) : (bits .and .i64 n (n - 1) != 0) = !okSize n := by
  obtain ⟨k, rfl⟩ := Int.eq_ofNat_of_zero_le (show 0 ≤ n by omega)
  exact okSize_nat k (by omega) (by omega)
theorem okSize_range {n : Int} (h : okSize n = true) : 16 ≤ n ∧ n ≤ 4096 := by
  simp [okSize] at h
  omega
theorem info5 : (Try.prog.info? 5).map (fun i => (i.zero, i.size, i.bytes)) = some (some (.int .u8 0), 1, 1) := by kernel_rfl
structure Img (base : Nat) (w : World) (b g cap : Nat) (bs : List UInt8) : Prop where
  hb : base ≤ b
  hg : base ≤ g
  ne : b ≠ g
  ok : okSize bs.length = true
  head : w.heap[b]? = some (.cells #[.slice (some ⟨g, 0, none⟩) bs.length cap] 136 (0, 0))
  row : w.ownsRow base 5 1 (.slice (some ⟨g, 0, none⟩) bs.length cap) bs.length (bs.map u8v)
def NewYes (n : Nat) (w : World) (e : Ending) (w' : World) : Prop :=
  ∃ b g cap, e = .returned (.tuple #[.pointer (some ⟨b, 0, none⟩), .int .i64 0]) ∧ Img w.heap.size w' b g cap (List.replicate n 0) ∧ New w w'
set_option maxHeartbeats 400000 in
theorem im_new_yes (n : Nat) (w : World) (h : okSize n = true) :
    Calls Try.prog 35 #[.int .i64 n] w (NewYes n w) := by
  have hb := okSize_int n (okSize_range h).1 (okSize_range h).2
  have hr := okSize_range h
  obtain ⟨hr1, hr2⟩ := hr
  rw [h] at hb
  have H := Lib.hid h
  clear h
  obtain ⟨i0, hi, hz0, hz1, hz2⟩ := info_parts info5
  have hby : i0.bytes * n ≤ 281474976710656 := by rw [hz2]; omega
  go_enter Try.func35, Try.ntmps35
  go_wp2_with (at_make; refine wpList_make_full _ rfl _ _ _ rfl w.heap.size 5 i0 (.int .u8 0) 1 Try.underlying134 hi hz0 hz1 .i64 .i64 n n n rfl rfl rfl rfl hby (by unfold maxLen; omega) (Nat.le_refl _) ?_; intro w1 hown hgrow)
  go_ret2
  have hlt := (row_lt hown).2
  have hrow := (Only.refl (fun _ => False) w1).alloc (.cells #[.slice (some ⟨w.heap.size, 0, none⟩) n n] 136) |>.row hown (by simp)
  refine ⟨w1.heap.size, w.heap.size, n, rfl, ⟨hgrow.size, Nat.le_refl _, by omega, ?_, ?_, ?_⟩, (Only.ofGrown hgrow (by simp)).alloc _⟩
  · simpa using H.out
  · simpa using Go.heap_alloc_new w1 _
  · rw [show (Value.int IntKind.u8 0).cells = #[Value.int IntKind.u8 0] from rfl, toList_madeCells_one] at hrow
    simpa [u8v] using hrow
theorem Img.pos {base : Nat} {w : World} {b g cap : Nat} {bs : List UInt8} (h : Img base w b g cap bs) : 16 ≤ bs.length ∧ bs.length ≤ 4096 := by
  have := okSize_range h.ok
  omega
theorem Img.cell {base : Nat} {w : World} {b g cap : Nat} {bs : List UInt8} (h : Img base w b g cap bs) : w.cell? ⟨b, 0, none⟩ = some (.slice (some ⟨g, 0, none⟩) bs.length cap) := by
  rw [head_cell h.head]; rfl
theorem Img.only {S : Nat → Prop} {base : Nat} {w w' : World} {b g cap : Nat} {bs : List UInt8} (h : Img base w b g cap bs) (k : Only S w w') (h1 : ¬ S b) (h2 : ¬ S g) : Img base w' b g cap bs :=
  ⟨h.hb, h.hg, h.ne, h.ok, k.heap h.head h1, k.row h.row (by simp [Value.ownBlock]; exact h2)⟩
theorem Img.new {base : Nat} {w w' : World} {b g cap : Nat} {bs : List UInt8} (h : Img base w b g cap bs) (k : New w w') : Img base w' b g cap bs := h.only k id id
theorem Img.mono {base base' : Nat} {w : World} {b g cap : Nat} {bs : List UInt8} (h : Img base w b g cap bs) (k : base' ≤ base) : Img base' w b g cap bs :=
  ⟨Nat.le_trans k h.hb, Nat.le_trans k h.hg, h.ne, h.ok, h.head, row_mono h.row k⟩
theorem Img.lt {base : Nat} {w : World} {b g cap : Nat} {bs : List UInt8} (h : Img base w b g cap bs) : b < w.heap.size ∧ g < w.heap.size :=
  ⟨(Array.getElem?_eq_some_iff.1 h.head).1, (row_lt h.row).2⟩
set_option maxHeartbeats 400000 in
theorem im_none_some (b : Nat) (a : Addr) (n c : Nat) (w : World) (h : w.cell? ⟨b, 0, none⟩ = some (.slice (some a) n c)) :
    Calls Try.prog 83 #[.pointer (some ⟨b, 0, none⟩)] w fun e w' => e = .returned (.bool false) ∧ w = w' := by
  have hs := fun (w : World) a l c => Lib.run_eql_slice_nil w 134 5 a l c 0 0 Try.underlying134
  go_enter Try.func83, Try.ntmps83
  go_wp2
  go_ret
  exact ⟨rfl, rfl⟩
set_option maxHeartbeats 400000 in
theorem size_some (b : Nat) (a : Addr) (n c : Nat) (w : World) (h : w.cell? ⟨b, 0, none⟩ = some (.slice (some a) n c)) :
    Calls Try.prog 97 #[.pointer (some ⟨b, 0, none⟩)] w fun e w' => e = .returned (.int .i64 n) ∧ w = w' := by
  go_enter Try.func97, Try.ntmps97
  go_wp2
  go_ret
  exact ⟨rfl, rfl⟩
theorem u8v_one (bs : List UInt8) : ∀ u ∈ bs.map u8v, u.oneCell' = true := by
  intro u hu
  obtain ⟨x, _, rfl⟩ := List.mem_map.1 hu
  rfl
def OwnsBytes (base : Nat) (bs : List UInt8) (w : World) (e : Ending) (w' : World) : Prop :=
  ∃ v, e = .returned v ∧ w'.ownsRow base 5 1 v bs.length (bs.map u8v) ∧ New w w'
set_option maxHeartbeats 400000 in
theorem im_clone_some (b o n c : Nat) (bs : List UInt8) (w : World) (hn : n = bs.length) (h0 : 0 < n) (h1 : n ≤ 10000) (hcell : ∀ j u, (bs.map u8v)[j]? = some u → w.cell? ⟨b, o + j, none⟩ = some u) :
    Calls Try.prog 96 #[.slice (some ⟨b, o, none⟩) n c] w (OwnsBytes w.heap.size bs w) := by
  have hs := fun (w : World) a l c => Lib.run_eql_slice_nil w 134 5 a l c 0 0 Try.underlying134
  obtain ⟨i0, hi, hz0, hz1, hz2⟩ := info_parts info5
  have Hn := Lib.hid hn
  have hl : (bs.map u8v).length = n * 1 := by simp [hn]
  have Hl := Lib.hid hl
  have Hcell : Hid (∀ j u, (bs.map u8v)[j]? = some u → (w.alloc (.cells #[] 5)).cell? ((⟨b, o, none⟩ : Addr).add j) = some u) := by
    intro j u hj
    rw [addr_add]
    exact ((Only.refl (fun _ => False) w).alloc _).cell (hcell j u hj) (by simp)
  clear hn hl hcell
  go_enter Try.func96, Try.ntmps96
  go_wp2_with (at_builtin; refine wpList_append_grows _ rfl _ _ 134 rfl 5 i0 (.int .u8 0) 1 1 Try.underlying134 hi hz0 hz1 hz2 rfl (by decide) (some ⟨w.heap.size, 0, none⟩) 0 0 [] rfl (by simp) rfl (by simp) ⟨b, o, none⟩ n c (bs.map u8v) rfl Hl.out Hcell.out (u8v_one _) (by omega) (by unfold maxLen; omega) (by omega) ?_; intro v1 w1 hown hgrow)
  go_ret
  simp only [Nat.zero_add, List.nil_append] at hown
  refine ⟨_, rfl, ?_, ((Only.refl _ w).alloc _).tr (Only.ofGrown hgrow (by simp))⟩
  rw [← Hn.out]
  exact row_mono hown (by simp)
set_option maxHeartbeats 400000 in
theorem bytes_some {base b g cap : Nat} {bs : List UInt8} {w : World} (h : Img base w b g cap bs) :
    Calls Try.prog 84 #[.pointer (some ⟨b, 0, none⟩)] w (OwnsBytes w.heap.size bs w) := by
  have hc := h.cell
  have hp := h.pos
  have H : Hid (∀ j u, (bs.map u8v)[j]? = some u → w.cell? ⟨g, 0 + j, none⟩ = some u) := by
    intro j u hj
    have hjl : j < bs.length := by
      have := (List.getElem?_eq_some_iff.1 hj).1
      simpa using this
    rw [Nat.zero_add, row_cell h.row (by omega), hj]
  clear h
  go_enter Try.func84, Try.ntmps84
  go_wp2_with (first | (go_at_call 83; refine (im_none_some _ _ _ _ _ hc).mono ?_; rintro e w' ⟨rfl, rfl⟩) | (go_at_call 96; refine (im_clone_some g 0 _ cap bs _ rfl (by omega) (by omega) H.out).mono ?_; rintro e w' ⟨v, rfl, hown, hnew⟩))
  go_ret
  exact ⟨_, rfl, hown, hnew⟩
def IsImg (base : Nat) (bs : List UInt8) (w : World) (e : Ending) (w' : World) : Prop :=
  ∃ b g cap, e = .returned (.pointer (some ⟨b, 0, none⟩)) ∧ Img base w' b g cap bs ∧ New w w'
set_option maxHeartbeats 400000 in
theorem copy_some {base b g cap : Nat} {bs : List UInt8} {w : World} (h : Img base w b g cap bs) :
    Calls Try.prog 70 #[.pointer (some ⟨b, 0, none⟩)] w (IsImg w.heap.size bs w) := by
  have hc := h.cell
  have hp := h.pos
  have hok := Lib.hid h.ok
  have H := Lib.hid (bytes_some h)
  clear h
  go_enter Try.func70, Try.ntmps70
  go_wp2_with (first | (go_at_call 83; refine (im_none_some _ _ _ _ _ hc).mono ?_; rintro e w' ⟨rfl, rfl⟩) | (go_at_call 84; refine H.out.mono ?_; rintro e w1 ⟨v, rfl, hown, hnew⟩; obtain ⟨g1, cap1, rfl⟩ := row_some hown (by omega)))
  go_ret
  have hlt := row_lt hown
  have hsz := hnew.size
  refine ⟨w1.heap.size, g1, cap1, rfl, ⟨by omega, hlt.1, by omega, hok.out, ?_, ?_⟩, hnew.alloc _⟩
  · simpa using Go.heap_alloc_new w1 _
  · exact ((Only.refl (fun _ => False) w1).alloc _).row hown (by simp)
theorem size5 : (Try.prog.info? 5).map (·.size) = some 1 := by kernel_rfl
def Wrote (w : World) (g o : Nat) (cur : Array Value) (l : List Value) (e : Ending) (w' : World) : Prop := e = .returned (.tuple #[]) ∧ w'.heap[g]? = some (.cells (upd cur o l) 5 (0, 0)) ∧ Only (fun k => k = g) w w'
theorem take_splice {α : Type} (c l : List α) (o m : Nat) (h : o + l.length ≤ m) (hm : m ≤ c.length) : (c.take o ++ (l ++ c.drop (o + l.length))).take m = (c.take m).take o ++ (l ++ (c.take m).drop (o + l.length)) := by
  have hl : (c.take o).length = o := by simp; omega
  rw [List.take_append, hl, List.take_append, List.take_take, List.take_take, List.drop_take, List.take_of_length_le (l := l) (by omega), Nat.min_eq_right (show o ≤ m by omega), Nat.min_eq_left (show o ≤ m by omega), Nat.sub_sub]
theorem take_map_get {bs : List UInt8} {a n j : Nat} {u : Value} (h : (((bs.drop a).take n).map u8v)[j]? = some u) : (bs.map u8v)[a + j]? = some u ∧ j < n := by
  rw [List.getElem?_map, List.getElem?_take] at h
  by_cases hj : j < n
  · rw [if_pos hj, List.getElem?_drop] at h
    exact ⟨by rw [List.getElem?_map]; exact h, hj⟩
  · rw [if_neg hj] at h
    simp at h
def lineV (l : List UInt8) : Value := .agg (l.map u8v).toArray
theorem row_cells {B : Nat} {w : World} {l : List UInt8} {T : TypeId} (h : w.heap[B]? = some (.cells (l.map u8v).toArray T (0, 0))) : ∀ j u, (l.map u8v)[j]? = some u → w.cell? ((⟨B, 0, none⟩ : Addr).add j) = some u := by
  intro j u hj
  rw [addr_add, Nat.zero_add, head_cell h]
  simpa using hj
set_option maxHeartbeats 1000000 in
theorem setline1 (g o c B : Nat) (cur : Array Value) (l : List UInt8) (w : World) (hl : l.length = 16) (hg : w.heap[g]? = some (.cells cur 5 (0, 0))) (hfit : o + 16 ≤ cur.size)
    (hB : w.heap[B]? = some (.cells (l.map u8v).toArray 22 (0, 0))) :
    Calls Try.prog 110 #[.slice (some ⟨g, o, none⟩) 16 c, .pointer (some ⟨B, 0, none⟩)] w (Wrote w g o cur (l.map u8v)) := by
  have hcp := run_copy_row (P := Try.prog) w 134 134 3 5 g o 16 c ⟨B, 0, none⟩ 16 16 cur 5 (l.map u8v) Try.underlying134 size5 hg (by simp [hl]) (row_cells hB) (by simp [hl]; omega) (u8v_one _)
  have Hg := Lib.hid hg
  clear hg hB
  go_enter Try.func110, Try.ntmps110
  go_wp2
  go_end0
  refine ⟨rfl, ?_, (Only.refl (fun k => k = g) w).setRow (fun _ => rfl) _⟩
  have := setRow_self' (cs := upd cur o (l.map u8v)) Hg.out
  simpa [upd, hl] using this
theorem Img.spliced {base b g cap : Nat} {bs : List UInt8} {w w' : World} (h : Img base w b g cap bs) {o : Nat} {xs : List UInt8} {cur : Array Value} {e : Ending} (hcur : w.heap[g]? = some (.cells cur 5 (0, 0))) (hfit : o + xs.length ≤ bs.length)
    (k : Wrote w g o cur (xs.map u8v) e w') : Img base w' b g cap (bs.take o ++ (xs ++ bs.drop (o + xs.length))) := by
  obtain ⟨_, hg, hO⟩ := k
  have hl : (bs.take o ++ (xs ++ bs.drop (o + xs.length))).length = bs.length := by simp; omega
  obtain ⟨cur', h0, h1, h2, h3, h4⟩ := row_at h.row
  obtain rfl : cur' = cur := by rw [hcur] at h0; simpa using h0.symm
  refine ⟨h.hb, h.hg, h.ne, by rw [hl]; exact h.ok, by rw [hl]; exact hO.heap h.head h.ne, ?_⟩
  rw [hl]
  refine row_mk h.hg hg h1 h2 ?_ ?_
  · rw [size_upd _ _ _ (by simp; omega), h3]
  · rw [Nat.mul_one] at h4 ⊢
    have hs := take_splice cur'.toList (xs.map u8v) o bs.length (by simp; omega) (by simp; omega)
    simp only [List.length_map] at hs
    simp only [upd, List.length_map]
    rw [hs, h4]
    simp
def LineHas (w : World) (B : Nat) (l : List UInt8) (e : Ending) (w' : World) : Prop := e = .returned (.tuple #[]) ∧ w'.heap[B]? = some (.cells (l.map u8v).toArray 22 (0, 0)) ∧ Only (fun k => k = B) w w'
set_option maxHeartbeats 1000000 in
theorem line1 (g o c B : Nat) (cur : Array Value) (l : List UInt8) (w : World) (hl : l.length = 16) (hcell : ∀ j u, (l.map u8v)[j]? = some u → w.cell? ⟨g, o + j, none⟩ = some u) (hc : cur.size = 16)
    (hB : w.heap[B]? = some (.cells cur 22 (0, 0))) :
    Calls Try.prog 115 #[.slice (some ⟨g, o, none⟩) 16 c, .pointer (some ⟨B, 0, none⟩)] w (LineHas w B l) := by
  have hcp := run_copy_row (P := Try.prog) w 134 134 3 5 B 0 16 16 ⟨g, o, none⟩ 16 c cur 22 (l.map u8v) Try.underlying134 size5 hB (by simp [hl]) (fun j u hj => by rw [addr_add]; exact hcell j u hj) (by simp [hl, hc]) (u8v_one _)
  have HB := Lib.hid hB
  have Hc := Lib.hid hc
  have Hl := Lib.hid hl
  clear hB hcell hc hl
  go_enter Try.func115, Try.ntmps115
  go_wp2
  go_end0
  refine ⟨rfl, ?_, (Only.refl (fun k => k = B) w).setRow (fun _ => rfl) _⟩
  have := setRow_self' (cs := (l.map u8v).toArray) HB.out
  have hd : cur.toList.drop 16 = [] := List.drop_eq_nil_of_le (by have := Hc.out; simp; omega)
  simpa [Hl.out, hd] using this
def lineErr (len : Nat) (number : Nat) : Int := if len / 16 ≤ number then 4 else 0
set_option maxHeartbeats 1000000 in
theorem linef_no {base b g cap : Nat} {bs : List UInt8} {w : World} (h : Img base w b g cap bs) (a : Nat) (v : Value) (hbad : bs.length / 16 ≤ a) :
    Calls Try.prog 109 #[.pointer (some ⟨b, 0, none⟩), .int .u32 a, v] w fun e w' => e = .returned (.int .i64 4) ∧ w = w' := by
  have hp := h.pos
  have hc := h.cell
  clear h
  go_enter Try.func109, Try.ntmps109
  go_wp2_with (go_at_call 83; refine (im_none_some _ _ _ _ _ hc).mono ?_; rintro e w' ⟨rfl, rfl⟩)
  go_ret
  exact ⟨rfl, rfl⟩
set_option maxHeartbeats 1000000 in
theorem linef_set {base b g cap : Nat} {bs : List UInt8} {w : World} (h : Img base w b g cap bs) (a : Nat) (ha : a < bs.length / 16) (B : Nat) (l : List UInt8) (hl : l.length = 16)
    (hB : w.heap[B]? = some (.cells (l.map u8v).toArray 22 (0, 0))) :
    Calls Try.prog 109 #[.pointer (some ⟨b, 0, none⟩), .int .u32 a, .func (.func 110) #[] #[.pointer (some ⟨B, 0, none⟩)]] w fun e w' => e = .returned (.int .i64 0) ∧
      Img base w' b g cap (bs.take (16 * a) ++ (l ++ bs.drop (16 * a + 16))) ∧ Only (fun k => k = g) w w' := by
  have hp := h.pos
  have hc := h.cell
  obtain ⟨cur, hcur, hcap, hmax, hsz, _⟩ := row_at h.row
  unfold maxLen at hmax
  have HR : Hid (∀ c, Calls Try.prog 110 #[.slice (some ⟨g, a * 16, none⟩) 16 c, .pointer (some ⟨B, 0, none⟩)] w (Wrote w g (a * 16) cur (l.map u8v))) := fun c =>
    setline1 g (a * 16) c B cur l w hl hcur (by omega) hB
  have HI := Lib.hid h
  have Hl := Lib.hid hl
  have Hcur := Lib.hid hcur
  clear h hcur hB hl hsz
  go_enter Try.func109, Try.ntmps109
  go_wp2_with (first | (go_at_call 83; refine (im_none_some _ _ _ _ _ hc).mono ?_; rintro e w' ⟨rfl, rfl⟩) | (go_at_call 110; refine (HR.out _).mono ?_; rintro e w' ⟨rfl, hg, hO⟩; have HG := Lib.hid hg; have HO := Lib.hid hO; clear hg hO))
  go_ret
  refine ⟨rfl, ?_, HO.out⟩
  have := HI.out.spliced (e := .returned (.tuple #[])) Hcur.out (xs := l) (by have := Hl.out; omega) ⟨rfl, HG.out, HO.out⟩
  rwa [Hl.out, Nat.mul_comm a 16] at this
set_option maxHeartbeats 1000000 in
theorem linef_get {base b g cap : Nat} {bs : List UInt8} {w : World} (h : Img base w b g cap bs) (a : Nat) (ha : a < bs.length / 16) (B : Nat) (cs : Array Value) (hcs : cs.size = 16)
    (hB : w.heap[B]? = some (.cells cs 22 (0, 0))) :
    Calls Try.prog 109 #[.pointer (some ⟨b, 0, none⟩), .int .u32 a, .func (.func 115) #[] #[.pointer (some ⟨B, 0, none⟩)]] w fun e w' => e = .returned (.int .i64 0) ∧
      w'.heap[B]? = some (.cells ((bs.drop (16 * a)).take 16 |>.map u8v).toArray 22 (0, 0)) ∧ Only (fun k => k = B) w w' := by
  have hp := h.pos
  have hc := h.cell
  obtain ⟨_, _, hcap, hmax, _⟩ := row_at h.row
  unfold maxLen at hmax
  have HR : Hid (∀ c, Calls Try.prog 115 #[.slice (some ⟨g, a * 16, none⟩) 16 c, .pointer (some ⟨B, 0, none⟩)] w (LineHas w B ((bs.drop (16 * a)).take 16))) := by
    intro c
    refine line1 g (a * 16) c B cs _ w (by simp; omega) ?_ hcs hB
    intro j u hj
    obtain ⟨hj1, hj2⟩ := take_map_get hj
    rw [row_cell h.row (by omega), Nat.mul_comm a 16, hj1]
  clear h hB hcs
  go_enter Try.func109, Try.ntmps109
  go_wp2_with (first | (go_at_call 83; refine (im_none_some _ _ _ _ _ hc).mono ?_; rintro e w' ⟨rfl, rfl⟩) | (go_at_call 115; refine (HR.out _).mono ?_; rintro e w' ⟨rfl, hg, hO⟩; have HG := Lib.hid hg; have HO := Lib.hid hO; clear hg hO))
  go_ret
  exact ⟨rfl, HG.out, HO.out⟩
def zline : List UInt8 := List.replicate 16 0
def lineSpec (bs : List UInt8) (a : Nat) : List UInt8 := if bs.length / 16 ≤ a then zline else (bs.drop (16 * a)).take 16
theorem size46 : (Try.prog.info? 22).map (·.size) = some 16 := by kernel_rfl
theorem results_line {fn : Func} {p u : Tmp} (h : fn.results = #[.cell p 22, .tmp u]) (tmps : Array Value) (w : World) (g : Nat) (cs : Array Value) (n : Int)
    (hp : tmps.getD p undef = .pointer (some ⟨g, 0, none⟩)) (hu : tmps.getD u undef = .int .i64 n) (hg : w.heap[g]? = some (.cells cs 22 (0, 0))) (hs : cs.size = 16) :
    (results fn tmps).run Try.prog w = .ok (.tuple #[.agg cs, .int .i64 n]) w := by
  rw [results_cell_tmp h, hp, hu]
  simp [asAddr, run_loadVar_row w g 22 22 cs (0, 0) _ hg Try.underlying22 rfl (by rw [size46, hs]), Result.andThen]
theorem u8v_all (l : List UInt8) : (l.map u8v).toArray.all (·.oneCell') = true := by
  rw [Array.all_eq_true_iff_forall_mem]
  intro v hv
  exact u8v_one l v (by simpa using hv)
theorem lineSpec_length (bs : List UInt8) (a : Nat) : (lineSpec bs a).length = 16 := by
  unfold lineSpec
  split
  · rfl
  · simp
    omega
set_option maxHeartbeats 1000000 in
theorem line_any {base b g cap : Nat} {bs : List UInt8} {w : World} (h : Img base w b g cap bs) (a : Nat) :
    Calls Try.prog 111 #[.pointer (some ⟨b, 0, none⟩), .int .u32 a] w fun e w' => e = .returned (.tuple #[lineV (lineSpec bs a), .int .i64 (lineErr bs.length a)]) ∧ New w w' := by
  have hz : (#[.int .u8 0, .int .u8 0, .int .u8 0, .int .u8 0, .int .u8 0, .int .u8 0, .int .u8 0, .int .u8 0, .int .u8 0, .int .u8 0, .int .u8 0, .int .u8 0, .int .u8 0, .int .u8 0, .int .u8 0, .int .u8 0] : Array Value) = (zline.map u8v).toArray := by rfl
  have H : Hid (∀ z, z = (zline.map u8v).toArray → Calls Try.prog 109 #[.pointer (some ⟨b, 0, none⟩), .int .u32 a, .func (.func 115) #[] #[.pointer (some ⟨w.heap.size + 1, 0, none⟩)]] ((w.alloc (.cells z 22)).alloc (.cells z 22)) fun e w' => e = .returned (.int .i64 (lineErr bs.length a)) ∧
      w'.heap[w.heap.size + 1]? = some (.cells ((lineSpec bs a).map u8v).toArray 22 (0, 0)) ∧ w'.heap[w.heap.size]? = some (.cells (zline.map u8v).toArray 22 (0, 0)) ∧ New w w') := by
    rintro z rfl
    have hN : New w ((w.alloc (.cells (zline.map u8v).toArray 22)).alloc (.cells (zline.map u8v).toArray 22)) := ((Only.refl _ w).alloc _).alloc _
    have h1 := Go.heap_alloc2_new w (.cells (zline.map u8v).toArray 22) (.cells (zline.map u8v).toArray 22)
    have h0 := Go.heap_alloc2_old w (.cells (zline.map u8v).toArray 22) (.cells (zline.map u8v).toArray 22)
    unfold lineErr lineSpec
    by_cases hge : bs.length / 16 ≤ a
    · rw [if_pos hge, if_pos hge]
      refine (linef_no (h.new hN) a _ hge).mono ?_
      rintro e w' ⟨rfl, rfl⟩
      exact ⟨rfl, h1, h0, hN⟩
    · rw [if_neg hge, if_neg hge]
      refine (linef_get (h.new hN) a (by omega) (w.heap.size + 1) _ (by simp [zline]) h1).mono ?_
      rintro e w' ⟨rfl, h2, h3⟩
      exact ⟨rfl, h2, h3.heap h0 (by omega), hN.trans h3 (by intro i hi he; omega)⟩
  have hs := lineSpec_length bs a
  have hall := u8v_all (lineSpec bs a)
  unfold lineV
  generalize hcs : ((lineSpec bs a).map u8v).toArray = cs at *
  have hsz : (Try.prog.info? 22).map (·.size) = some cs.size := by rw [size46, ← hcs]; simp [hs]
  have hold : (zline.map u8v).toArray.size = cs.size := by rw [← hcs]; simp [hs, zline]
  have HF := Lib.hid (And.intro hsz (And.intro hold hall))
  have Hz := Lib.hid hz
  clear h hs hall hcs hsz hold hz
  go_enter Try.func111, Try.ntmps111
  go_wp2_with (first | (go_at_call 109; refine (H.out _ Hz.out).mono ?_; rintro e w1 ⟨rfl, h1, h0, hn⟩; have HN := Lib.hid (And.intro h1 (And.intro h0 hn)); clear h1 h0 hn) | (refine wpList_load_row (o := ⟨some 12, _, _, _, _, _⟩) rfl 22 _ rfl (w.heap.size + 1) rfl 22 cs (0, 0) _ HN.out.1 Try.underlying22 rfl HF.out.1 ?_) | (refine wpList_store_row (o := ⟨none, _, _, _, _, _⟩) rfl 22 _ _ rfl w.heap.size cs rfl rfl 22 _ HN.out.2.1 HF.out.1 HF.out.2.1 HF.out.2.2 ?_))
  refine bodyPost_ret (results_line rfl _ _ w.heap.size cs _ rfl rfl (setRow_self' HN.out.2.1) (by have := HF.out.2.1; simpa [zline] using this.symm)) rfl ⟨rfl, HN.out.2.2.setRow (fun h => absurd h (by omega)) _⟩
set_option maxHeartbeats 1000000 in
theorem setline_no {base b g cap : Nat} {bs : List UInt8} {w : World} (h : Img base w b g cap bs) (a : Nat) (l : List UInt8) (hbad : bs.length / 16 ≤ a) :
    Calls Try.prog 101 #[.pointer (some ⟨b, 0, none⟩), .int .u32 a, lineV l] w fun e w' => e = .returned (.int .i64 4) ∧ New w w' := by
  unfold lineV
  generalize hcs : (l.map u8v).toArray = cs
  have hN : New w (w.alloc (.cells cs 22)) := (Only.refl _ w).alloc _
  have H := Lib.hid fun v => linef_no (h.new hN) a v hbad
  clear h hN hbad hcs
  go_enter Try.func101, Try.ntmps101
  go_wp2_with (go_at_call 109; refine (H.out _).mono ?_; rintro e w' ⟨rfl, rfl⟩)
  go_ret
  exact ⟨rfl, (Only.refl _ w).alloc _⟩
set_option maxHeartbeats 1000000 in
theorem setline_yes {base b g cap : Nat} {bs : List UInt8} {w : World} (h : Img base w b g cap bs) (a : Nat) (l : List UInt8) (hl : l.length = 16) (ha : a < bs.length / 16) :
    Calls Try.prog 101 #[.pointer (some ⟨b, 0, none⟩), .int .u32 a, lineV l] w fun e w' => e = .returned (.int .i64 0) ∧
      Img base w' b g cap (bs.take (16 * a) ++ (l ++ bs.drop (16 * a + 16))) ∧ Only (fun k => k = g) w w' := by
  have hN : New w (w.alloc (.cells (l.map u8v).toArray 22)) := (Only.refl _ w).alloc _
  have H := Lib.hid (linef_set (h.new hN) a ha w.heap.size l hl (Go.heap_alloc_new w _))
  unfold lineV
  generalize hcs : (l.map u8v).toArray = cs at *
  clear h hN ha hl hcs
  go_enter Try.func101, Try.ntmps101
  go_wp2_with (go_at_call 109; refine H.out.mono ?_; rintro e w' ⟨rfl, hi, hn⟩; have HI := Lib.hid hi; have HN := Lib.hid hn; clear hi hn)
  go_ret
  exact ⟨rfl, HI.out, ((Only.refl _ w).alloc _).tr HN.out⟩
def setSpec (bs : List UInt8) (a : Nat) (l : List UInt8) : List UInt8 := if bs.length / 16 ≤ a then bs else bs.take (16 * a) ++ (l ++ bs.drop (16 * a + 16))
theorem setSpec_length (bs : List UInt8) (a : Nat) (l : List UInt8) (hl : l.length = 16) : (setSpec bs a l).length = bs.length := by
  unfold setSpec
  split
  · rfl
  · simp [hl]; omega
theorem lineSpec_set (bs : List UInt8) (a o : Nat) (l : List UInt8) (hl : l.length = 16) (ho : o < bs.length / 16) : lineSpec (setSpec bs a l) o = if o = a then l else lineSpec bs o := by
  unfold lineSpec
  rw [setSpec_length bs a l hl, if_neg (by omega)]
  unfold setSpec
  by_cases ha : bs.length / 16 ≤ a
  · rw [if_pos ha, if_neg (by omega), if_neg (by omega)]
  · rw [if_neg ha]
    by_cases hoa : o = a
    · subst hoa
      have h1 : (bs.take (16 * o)).length = 16 * o := by simp; omega
      rw [if_pos rfl, List.drop_append, List.drop_eq_nil_of_le (by omega), h1, Nat.sub_self, List.drop_zero, List.nil_append, List.take_append, List.take_of_length_le (by omega), hl]
      simp
    · rw [if_neg hoa, if_neg (by omega)]
      have h1 : (bs.take (16 * a)).length = 16 * a := by simp; omega
      rcases Nat.lt_or_ge o a with h | h
      · rw [List.drop_append, List.take_append, List.length_drop, h1, List.drop_take, List.take_take, Nat.min_eq_left (by omega), show 16 - (16 * a - 16 * o) = 0 by omega]
        simp
      · rw [List.drop_append, List.drop_eq_nil_of_le (by omega), List.nil_append, h1, List.drop_append, List.drop_eq_nil_of_le (by omega), List.nil_append, hl, List.drop_drop]
        congr 2
        omega
theorem setline_any {base b g cap : Nat} {bs : List UInt8} {w : World} (h : Img base w b g cap bs) (a : Nat) (l : List UInt8) (hl : l.length = 16) :
    Calls Try.prog 101 #[.pointer (some ⟨b, 0, none⟩), .int .u32 a, lineV l] w fun e w' => e = .returned (.int .i64 (lineErr bs.length a)) ∧ Img base w' b g cap (setSpec bs a l) ∧ Only (fun k => k = g) w w' := by
  unfold lineErr setSpec
  by_cases ha : bs.length / 16 ≤ a
  · rw [if_pos ha, if_pos ha]
    exact (setline_no h a l ha).mono fun e w' ⟨h1, h2⟩ => ⟨h1, h.new h2, Only.ofNew h2⟩
  · rw [if_neg ha, if_neg ha]
    exact setline_yes h a l hl (by omega)
end Go.Proofs.Ytflnlmibkbojcaa
namespace Go.Proofs.Ytflnlmibkbojcaa
open Go.RowKit
abbrev B16 := { l : List Int // l.length = 16 ∧ ∀ a ∈ l, 0 ≤ a ∧ a < 256 }
def b16z : B16 := ⟨List.replicate 16 0, by simp, by simp⟩
structure Ln where
  num : Int
  state : Int
  bs : B16
  hn : 0 ≤ num ∧ num < 4294967296
def mkL (n s : Int) (b : B16 := b16z) (h : 0 ≤ n ∧ n < 4294967296 := by omega) : Ln := ⟨n, s, b, h⟩
theorem Ln.ext_iff' (m m' : Ln) : m = m' ↔ m.num = m'.num ∧ m.state = m'.state ∧ m.bs.1 = m'.bs.1 := by
  constructor
  · rintro rfl; simp
  · rintro ⟨h1, h2, h3⟩
    cases m; cases m'
    simp only [Ln.mk.injEq]
    exact ⟨h1, h2, Subtype.ext h3⟩
instance : DecidableEq Ln := fun s t => decidable_of_iff _ (Ln.ext_iff' s t).symm
def Ln.cells (m : Ln) : List Value := .int .u32 m.num :: .int .i64 m.state :: m.bs.1.map (Value.int .u8)
theorem sizeU8 : (Try.prog.info? 5).map (·.size) = some 1 := by kernel_rfl
theorem Ln.len (m : Ln) : m.cells.length = 18 := by simp [Ln.cells, m.bs.2.1]
theorem Ln.one (m : Ln) : ∀ v ∈ m.cells, v.oneCell' = true := by
  intro v hv
  simp only [Ln.cells, List.mem_cons, List.mem_map] at hv
  rcases hv with rfl | rfl | ⟨a, _, rfl⟩ <;> rfl
def lnE : Enc Try.prog Ln where
  T := 39
  n := 18
  cells := Ln.cells
  len := Ln.len
  one := Ln.one
  pos := by decide
def ln0 : Ln := ⟨0, 0, b16z, by decide⟩
theorem elLn : ElemI lnE 40 32 := ⟨Try.underlying40, by
  obtain ⟨i0, hi, hz0, hz1, hz2⟩ := info_parts (show (Try.prog.info? 39).map (fun i => (i.zero, i.size, i.bytes)) = some (some (.agg (lnE.arr ln0)), 18, 32) by kernel_rfl)
  exact ⟨i0, _, hi, hz0, hz1, hz2, by rw [show (Value.agg (lnE.arr ln0)).cells = lnE.arr ln0 from rfl, lnE.size]⟩⟩
structure Row where
  A : Option Addr
  cap : Nat
  l : List Ln
def r0 : Row := ⟨none, 0, []⟩
def Row.val (r : Row) : Value := .slice r.A r.l.length r.cap
def rowsArr (rs : List Row) : Array Value := (rs.map Row.val).toArray
theorem rows_size (rs : List Row) : (rowsArr rs).size = rs.length := by simp [rowsArr]
theorem rows_cell (rs : List Row) {i : Nat} (h : i < rs.length) : (rowsArr rs)[i]? = some (.slice (rs.getD i r0).A (rs.getD i r0).l.length (rs.getD i r0).cap) := by
  simp [rowsArr, List.getD, h, Row.val]
theorem rows_set (rs : List Row) {i : Nat} {r : Row} : (rowsArr rs).setIfInBounds i (.slice r.A r.l.length r.cap) = rowsArr (rs.set i r) := by
  apply Array.toList_inj.1
  rw [Array.toList_setIfInBounds]
  show (rs.map Row.val).set i r.val = (rs.set i r).map Row.val
  rw [List.map_set]
structure RowsAt (w : World) (F : Nat → Prop) (rs : List Row) : Prop where
  foot : ∀ k, F k ↔ ∃ i, i < rs.length ∧ inA (rs.getD i r0).A k
  own : ∀ {i}, i < rs.length → Own lnE w (rs.getD i r0).A (rs.getD i r0).cap (rs.getD i r0).l
  ap : ∀ {i j}, i < rs.length → j < rs.length → i ≠ j → Apart2 (rs.getD i r0).A (rs.getD j r0).A
structure RowsBut (w : World) (F : Nat → Prop) (rs : List Row) (q : Nat) : Prop where
  foot : ∀ k, F k ↔ ∃ i, i < rs.length ∧ i ≠ q ∧ inA (rs.getD i r0).A k
  own : ∀ {i}, i < rs.length → i ≠ q → Own lnE w (rs.getD i r0).A (rs.getD i r0).cap (rs.getD i r0).l
  ap : ∀ {i j}, i < rs.length → j < rs.length → i ≠ q → j ≠ q → i ≠ j → Apart2 (rs.getD i r0).A (rs.getD j r0).A
section
variable {w w' : World} {F S : Nat → Prop} {rs : List Row} {q b D : Nat}
theorem RowsAt.only (h : RowsAt w F rs) (k : Only S w w') (hs : ∀ g, F g → ¬ S g) : RowsAt w' F rs := ⟨h.foot, fun hi => (h.own hi).only k fun g hg => hs g ((h.foot g).2 ⟨_, hi, hg⟩), h.ap⟩
theorem RowsAt.new (h : RowsAt w F rs) (k : New w w') : RowsAt w' F rs := h.only k fun _ _ => id
theorem RowsAt.lt (h : RowsAt w F rs) {g : Nat} (hg : F g) : g < w.heap.size := by obtain ⟨i, hi, hi2⟩ := (h.foot g).1 hg; exact (h.own hi).lt hi2
theorem RowsAt.apart (h : RowsAt w F rs) (hb : w.heap.size ≤ b) : ¬ F b := fun hi => by have := h.lt hi; omega
theorem RowsAt.turn {B : Nat} (h : RowsAt w F rs) (k : Turn B w w') : RowsAt w' F rs := ⟨h.foot, fun hi => (h.own hi).turn k, h.ap⟩
theorem RowsBut.only (h : RowsBut w F rs q) (k : Only S w w') (hs : ∀ g, F g → ¬ S g) : RowsBut w' F rs q := ⟨h.foot, fun hi hq => (h.own hi hq).only k fun g hg => hs g ((h.foot g).2 ⟨_, hi, hq, hg⟩), h.ap⟩
theorem RowsBut.new (h : RowsBut w F rs q) (k : New w w') : RowsBut w' F rs q := h.only k fun _ _ => id
theorem RowsBut.lt (h : RowsBut w F rs q) {g : Nat} (hg : F g) : g < w.heap.size := by obtain ⟨i, hi, hq, hi2⟩ := (h.foot g).1 hg; exact (h.own hi hq).lt hi2
theorem RowsAt.split (h : RowsAt w F rs) (hq : q < rs.length) : ∃ F', RowsBut w F' rs q ∧ (∀ k, inA (rs.getD q r0).A k → F' k → False) ∧ (∀ k, F k ↔ F' k ∨ inA (rs.getD q r0).A k) := by
  refine ⟨fun k => ∃ i, i < rs.length ∧ i ≠ q ∧ inA (rs.getD i r0).A k, ⟨fun k => Iff.rfl, fun hi _ => h.own hi, fun hi hj _ _ hn => h.ap hi hj hn⟩, fun k h1 ⟨i, hi, hn, h2⟩ => h.ap hi hq hn k h2 h1, fun k => ?_⟩
  rw [h.foot]
  constructor
  · rintro ⟨i, hi, h2⟩
    by_cases e : i = q
    · subst e; exact .inr h2
    · exact .inl ⟨i, hi, e, h2⟩
  · rintro (⟨i, hi, _, h2⟩ | h2)
    · exact ⟨i, hi, h2⟩
    · exact ⟨q, hq, h2⟩
theorem getD_setR {rs : List Row} {q i : Nat} {r : Row} (hq : q < rs.length) : (rs.set q r).getD i r0 = if q = i then r else rs.getD i r0 := by
  simp only [List.getD, List.getElem?_set]
  split
  · rename_i h; subst h; simp [hq]
  · rfl
theorem RowsBut.join (h : RowsBut w F rs q) (hq : q < rs.length) {r : Row} (hO : Own lnE w r.A r.cap r.l) (ha : ∀ k, inA r.A k → F k → False) : RowsAt w (fun k => F k ∨ inA r.A k) (rs.set q r) := by
  have hl : (rs.set q r).length = rs.length := List.length_set
  refine ⟨fun k => ?_, fun {i} hi => ?_, fun {i j} hi hj hn => ?_⟩
  · rw [h.foot]
    constructor
    · rintro (⟨i, hi, hn, h2⟩ | h2)
      · exact ⟨i, by rw [hl]; exact hi, by rw [getD_setR hq, if_neg (fun e => hn e.symm)]; exact h2⟩
      · exact ⟨q, by rw [hl]; exact hq, by rw [getD_setR hq, if_pos rfl]; exact h2⟩
    · rintro ⟨i, hi, h2⟩
      rw [getD_setR hq] at h2
      by_cases e : q = i
      · rw [if_pos e] at h2; exact .inr h2
      · rw [if_neg e] at h2; exact .inl ⟨i, by rw [← hl]; exact hi, fun h => e h.symm, h2⟩
  · rw [getD_setR hq]
    by_cases e : q = i
    · rw [if_pos e]; exact hO
    · rw [if_neg e]; exact h.own (by rw [← hl]; exact hi) fun h => e h.symm
  · rw [hl] at hi hj
    rw [getD_setR hq, getD_setR hq]
    by_cases e : q = i
    · rw [if_pos e]
      by_cases e2 : q = j
      · omega
      · rw [if_neg e2]
        exact fun k h1 h2 => ha k h1 ((h.foot k).2 ⟨j, hj, fun h => e2 h.symm, h2⟩)
    · rw [if_neg e]
      by_cases e2 : q = j
      · rw [if_pos e2]
        exact fun k h1 h2 => ha k h2 ((h.foot k).2 ⟨i, hi, fun h => e h.symm, h1⟩)
      · rw [if_neg e2]
        exact h.ap hi hj (fun h => e h.symm) (fun h => e2 h.symm) hn
theorem RowsAt.nil (w : World) (n : Nat) : RowsAt w (fun _ => False) (List.replicate n r0) := by
  have e : ∀ i, (List.replicate n r0).getD i r0 = r0 := fun i => by
    simp only [List.getD, List.getElem?_replicate]
    split <;> rfl
  exact ⟨fun k => ⟨fun h => h.elim, fun ⟨i, _, h⟩ => by rw [e] at h; exact apart_none k h⟩, fun _ => by rw [e]; exact Own.nil, fun _ _ _ => by rw [e]; exact fun k h => absurd h (apart_none k)⟩
end
def fndI (l : List Ln) (number : Int) : Int := if l.findIdx (fun x => decide (x.num = number)) < l.length then (l.findIdx (fun x => decide (x.num = number)) : Nat) else -1
section
variable {l : List Ln} {number : Int} {i : Nat}
theorem fnd_yes (hi : i < l.length) (h : (l.getD i ln0).num = number) (hall : ∀ j, j < i → ¬ (l.getD j ln0).num = number) : fndI l number = i := by
  have e : l.findIdx (fun x => decide (x.num = number)) = i := by
    rw [List.findIdx_eq hi]
    constructor
    · have := h
      simp only [List.getD, List.getElem?_eq_getElem hi, Option.getD_some] at this
      simpa using this
    · intro j hj
      have := hall j hj
      simp only [List.getD, List.getElem?_eq_getElem (show j < l.length by omega), Option.getD_some] at this
      simpa using this
  unfold fndI
  rw [e, if_pos hi]
theorem fnd_no (hall : ∀ j, j < l.length → ¬ (l.getD j ln0).num = number) : fndI l number = -1 := by
  unfold fndI
  rw [if_neg]
  intro hlt
  have h1 := List.findIdx_getElem (w := hlt)
  have := hall _ hlt
  simp only [List.getD, List.getElem?_eq_getElem hlt, Option.getD_some] at this
  simp at h1
  exact this h1
theorem fnd_spec (l : List Ln) (number : Int) : (fndI l number = -1 ∧ ∀ x ∈ l, ¬ x.num = number) ∨ ∃ i : Nat, fndI l number = i ∧ i < l.length ∧ (l.getD i ln0).num = number ∧ ∀ j, j < i → ¬ (l.getD j ln0).num = number := by
  by_cases hlt : l.findIdx (fun x => decide (x.num = number)) < l.length
  · refine .inr ⟨_, by unfold fndI; rw [if_pos hlt], hlt, ?_, fun j hj => ?_⟩
    · have h1 := List.findIdx_getElem (w := hlt)
      simpa [List.getD, hlt] using h1
    · have h1 := List.not_of_lt_findIdx hj
      have hj2 : j < l.length := by omega
      simpa [List.getD, hj2] using h1
  · refine .inl ⟨by unfold fndI; rw [if_neg hlt], fun x hx hn => hlt ?_⟩
    exact List.findIdx_lt_length_of_exists ⟨x, hx, by simpa using hn⟩
end
end Go.Proofs.Ytflnlmibkbojcaa
namespace Go.Proofs.Ytflnlmibkbojcaa
open Go.RowKit
def si (n : Nat) (num : Int) : Nat := (num % (n : Int)).toNat
section
variable {n i : Nat} {num : Int} {L : List Ln} {l : Ln} {ways : Int}
theorem si_lt (hn : 0 < n) : si n num < n := by
  unfold si
  have h1 := Int.emod_nonneg num (show (n : Int) ≠ 0 by omega)
  have h2 := Int.emod_lt_of_pos num (show (0 : Int) < n by omega)
  omega
theorem si_eq (hn : 0 < n) : ((si n num : Nat) : Int) = num % (n : Int) := by
  unfold si
  have h1 := Int.emod_nonneg num (show (n : Int) ≠ 0 by omega)
  omega
theorem tmod_si (h : 0 ≤ num) (hn : 0 < n) : Int.tmod num (n : Int) = ((si n num : Nat) : Int) := by
  rw [si_eq hn, Int.tmod_eq_emod_of_nonneg h]
def inSet (n i : Nat) (x : Ln) : Bool := decide (si n x.num = i)
def ofs (n : Nat) (L : List Ln) (i : Nat) : List Ln := L.filter (inSet n i)
def isNum (num : Int) (x : Ln) : Bool := decide (x.num = num)
def getN (L : List Ln) (num : Int) : Option Ln := L.find? (isNum num)
def Uniq (L : List Ln) : Prop := L.Pairwise fun x y => ¬ x.num = y.num
def okS (l : Ln) : Bool := decide (1 ≤ l.state) && decide (l.state ≤ 3)
def repl (l : Ln) : List Ln → List Ln
  | [] => []
  | x :: r => if x.num = l.num then l :: r else x :: repl l r
def remf (num : Int) : List Ln → List Ln
  | [] => []
  | x :: r => if x.num = num then r else x :: remf num r
def dropL (L : List Ln) (num : Int) : List Ln := L.filter fun x => !isNum num x
def putE (n : Nat) (ways : Int) (L : List Ln) (l : Ln) : Int := if okS l = false then 2 else if getN L l.num = none ∧ ways ≤ ((ofs n L (si n l.num)).length : Int) then 200 else 0
def putL (n : Nat) (ways : Int) (L : List Ln) (l : Ln) : List Ln := if putE n ways L l = 0 then (if getN L l.num = none then L ++ [l] else repl l L) else L
theorem fnd_none (h : fndI L num = -1 ∧ ∀ x ∈ L, ¬ x.num = num) : getN L num = none := by
  unfold getN
  rw [List.find?_eq_none]
  intro x hx
  simp [isNum, h.2 x hx]
theorem get_at : ∀ {L : List Ln} {i : Nat}, i < L.length → (L.getD i ln0).num = num → (∀ j, j < i → ¬ (L.getD j ln0).num = num) → getN L num = some (L.getD i ln0)
  | [], i, hi, _, _ => by simp at hi
  | x :: r, 0, _, h, _ => by
    have h : x.num = num := h
    show (x :: r).find? _ = some x
    simp [List.find?, isNum, h]
  | x :: r, i + 1, hi, h, hall => by
    have h0 : ¬ x.num = num := hall 0 (by omega)
    show (x :: r).find? _ = _
    simp only [List.find?, isNum, decide_eq_false h0]
    have := get_at (L := r) (i := i) (by simpa using hi) h fun j hj => hall (j + 1) (by omega)
    simpa [getN, isNum] using this
theorem set_at : ∀ {L : List Ln} {i : Nat}, i < L.length → (L.getD i ln0).num = l.num → (∀ j, j < i → ¬ (L.getD j ln0).num = l.num) → L.set i l = repl l L
  | [], i, hi, _, _ => by simp at hi
  | x :: r, 0, _, h, _ => by
    have h : x.num = l.num := h
    simp [repl, h]
  | x :: r, i + 1, hi, h, hall => by
    have h0 : ¬ x.num = l.num := hall 0 (by omega)
    simp only [List.set_cons_succ, repl, if_neg h0]
    rw [set_at (L := r) (i := i) (by simpa using hi) h fun j hj => hall (j + 1) (by omega)]
theorem rem_at : ∀ {L : List Ln} {i : Nat}, i < L.length → (L.getD i ln0).num = num → (∀ j, j < i → ¬ (L.getD j ln0).num = num) → L.take i ++ L.drop (i + 1) = remf num L
  | [], i, hi, _, _ => by simp at hi
  | x :: r, 0, _, h, _ => by
    have h : x.num = num := h
    simp [remf, h]
  | x :: r, i + 1, hi, h, hall => by
    have h0 : ¬ x.num = num := hall 0 (by omega)
    simp only [List.take_succ_cons, List.drop_succ_cons, remf, if_neg h0, List.cons_append]
    rw [rem_at (L := r) (i := i) (by simpa using hi) h fun j hj => hall (j + 1) (by omega)]
theorem rem_no (h : ∀ x ∈ L, ¬ x.num = num) : L.filter (fun x => !isNum num x) = L := by
  rw [List.filter_eq_self]
  intro x hx
  simp [isNum, h x hx]
theorem remf_uniq : ∀ {L : List Ln}, Uniq L → remf num L = dropL L num
  | [], _ => rfl
  | x :: r, hu => by
    have hu' := List.pairwise_cons.1 hu
    by_cases h0 : x.num = num
    · simp only [remf, if_pos h0, dropL, List.filter, isNum, decide_eq_true h0, Bool.not_true]
      have := rem_no (num := num) (L := r) fun y hy he => hu'.1 y hy (h0.trans he.symm)
      simpa [isNum] using this.symm
    · simp only [remf, if_neg h0, dropL, List.filter, isNum, decide_eq_false h0, Bool.not_false]
      rw [remf_uniq hu'.2]
      rfl
theorem ofs_get (L : List Ln) (num : Int) : getN (ofs n L (si n num)) num = getN L num := by
  unfold getN ofs
  induction L with
  | nil => rfl
  | cons x r ih =>
    by_cases h0 : x.num = num
    · have : inSet n (si n num) x = true := by simp [inSet, h0]
      rw [List.filter_cons_of_pos this]
      simp [List.find?, isNum, h0]
    · by_cases h1 : inSet n (si n num) x = true
      · rw [List.filter_cons_of_pos h1]
        simp only [List.find?, isNum, decide_eq_false h0]
        simpa [isNum] using ih
      · rw [List.filter_cons_of_neg h1]
        simp only [List.find?, isNum, decide_eq_false h0]
        simpa [isNum] using ih
theorem ofs_repl_same (L : List Ln) (l : Ln) : ofs n (repl l L) (si n l.num) = repl l (ofs n L (si n l.num)) := by
  unfold ofs
  induction L with
  | nil => rfl
  | cons x r ih =>
    by_cases h0 : x.num = l.num
    · have h1 : inSet n (si n l.num) x = true := by simp [inSet, h0]
      have h2 : inSet n (si n l.num) l = true := by simp [inSet]
      rw [List.filter_cons_of_pos h1]
      simp only [repl, if_pos h0]
      rw [List.filter_cons_of_pos h2]
    · simp only [repl, if_neg h0]
      by_cases h1 : inSet n (si n l.num) x = true
      · rw [List.filter_cons_of_pos h1, List.filter_cons_of_pos h1]
        simp only [repl, if_neg h0]
        rw [ih]
      · rw [List.filter_cons_of_neg h1, List.filter_cons_of_neg h1, ih]
theorem ofs_repl_other (L : List Ln) (l : Ln) (h : ¬ i = si n l.num) : ofs n (repl l L) i = ofs n L i := by
  unfold ofs
  induction L with
  | nil => rfl
  | cons x r ih =>
    by_cases h0 : x.num = l.num
    · have h1 : ¬ inSet n i x = true := by simp [inSet, h0]; exact fun e => h e.symm
      have h2 : ¬ inSet n i l = true := by simp [inSet]; exact fun e => h e.symm
      rw [List.filter_cons_of_neg h1]
      simp only [repl, if_pos h0]
      rw [List.filter_cons_of_neg h2]
    · simp only [repl, if_neg h0]
      by_cases h1 : inSet n i x = true
      · rw [List.filter_cons_of_pos h1, List.filter_cons_of_pos h1, ih]
      · rw [List.filter_cons_of_neg h1, List.filter_cons_of_neg h1, ih]
theorem ofs_snoc_same (L : List Ln) (l : Ln) : ofs n (L ++ [l]) (si n l.num) = ofs n L (si n l.num) ++ [l] := by simp [ofs, List.filter_append, List.filter, inSet]
theorem ofs_snoc_other (L : List Ln) (l : Ln) (h : ¬ i = si n l.num) : ofs n (L ++ [l]) i = ofs n L i := by
  have : inSet n i l = false := by simp [inSet]; exact fun e => h e.symm
  simp [ofs, List.filter_append, List.filter, this]
theorem ofs_drop (L : List Ln) (num : Int) : ofs n (dropL L num) i = dropL (ofs n L i) num := by
  unfold ofs dropL
  rw [List.filter_filter, List.filter_filter]
  congr 1
  funext x
  exact Bool.and_comm _ _
theorem ofs_drop_other (L : List Ln) (num : Int) (h : ¬ i = si n num) : ofs n (dropL L num) i = ofs n L i := by
  rw [ofs_drop]
  refine rem_no fun x hx e => h ?_
  have := (List.mem_filter.1 hx).2
  simp [inSet, e] at this
  exact this.symm
theorem Uniq.ofs (h : Uniq L) (i : Nat) : Uniq (ofs n L i) := List.Pairwise.filter _ h
theorem Uniq.drop (h : Uniq L) (num : Int) : Uniq (dropL L num) := List.Pairwise.filter _ h
theorem get_none (h : getN L num = none) : ∀ x ∈ L, ¬ x.num = num := fun x hx e => by
  have := List.find?_eq_none.1 h x hx
  simp [isNum, e] at this
theorem Uniq.snoc (h : Uniq L) (hn : getN L l.num = none) : Uniq (L ++ [l]) := by
  unfold Uniq
  rw [List.pairwise_append]
  refine ⟨h, by simp, fun x hx y hy => ?_⟩
  rw [List.mem_singleton] at hy
  subst hy
  exact get_none hn x hx
theorem mem_repl : ∀ {L : List Ln} {x : Ln}, x ∈ repl l L → (x ∈ L ∨ x = l)
  | [], _, h => by cases h
  | y :: r, x, h => by
    by_cases h0 : y.num = l.num
    · simp only [repl, if_pos h0] at h
      rcases List.mem_cons.1 h with h | h
      · exact .inr h
      · exact .inl (by simp [h])
    · simp only [repl, if_neg h0] at h
      rcases List.mem_cons.1 h with h | h
      · exact .inl (by simp [h])
      · rcases mem_repl h with h | h
        · exact .inl (by simp [h])
        · exact .inr h
theorem Uniq.repl : ∀ {L : List Ln}, Uniq L → Uniq (repl l L)
  | [], _ => List.Pairwise.nil
  | x :: r, hu => by
    have hu' := List.pairwise_cons.1 hu
    by_cases h0 : x.num = l.num
    · simp only [Go.Proofs.Ytflnlmibkbojcaa.repl, if_pos h0]
      exact List.pairwise_cons.2 ⟨fun y hy e => hu'.1 y hy (h0.trans e), hu'.2⟩
    · simp only [Go.Proofs.Ytflnlmibkbojcaa.repl, if_neg h0]
      refine List.pairwise_cons.2 ⟨fun y hy e => ?_, Uniq.repl hu'.2⟩
      rcases mem_repl hy with hy | rfl
      · exact hu'.1 y hy e
      · exact h0 e
theorem repl_len : ∀ (L : List Ln), (repl l L).length = L.length
  | [] => rfl
  | x :: r => by
    unfold repl
    split
    · rfl
    · simp [repl_len r]
theorem dropL_le (L : List Ln) (num : Int) : (dropL L num).length ≤ L.length := List.length_filter_le _ _
theorem Uniq.putL (h : Uniq L) : Uniq (putL n ways L l) := by
  unfold Go.Proofs.Ytflnlmibkbojcaa.putL
  split
  · split
    · exact h.snoc ‹_›
    · exact h.repl
  · exact h
def Fits (n : Nat) (ways : Int) (L : List Ln) : Prop := ∀ i, i < n → ((ofs n L i).length : Int) ≤ ways
theorem Fits.drop (h : Fits n ways L) (num : Int) : Fits n ways (dropL L num) := fun i hi => by
  have := h i hi
  rw [ofs_drop]
  have h2 := dropL_le (ofs n L i) num
  omega
theorem Fits.putL (h : Fits n ways L) (l : Ln) : Fits n ways (putL n ways L l) := fun i hi => by
  have h0 := h i hi
  unfold Go.Proofs.Ytflnlmibkbojcaa.putL
  split
  · rename_i he
    split
    · rename_i hn
      by_cases e : i = si n l.num
      · subst e
        rw [ofs_snoc_same]
        unfold putE at he
        split at he
        · omega
        · split at he
          · omega
          · rename_i h2
            simp only [List.length_append, List.length_cons, List.length_nil]
            have : ¬ ways ≤ ((ofs n L (si n l.num)).length : Int) := fun h => h2 ⟨hn, h⟩
            omega
      · rw [ofs_snoc_other _ _ e]; exact h0
    · by_cases e : i = si n l.num
      · subst e
        rw [ofs_repl_same, repl_len]; exact h0
      · rw [ofs_repl_other _ _ e]; exact h0
  · exact h0
theorem Fits.nil (h : 0 ≤ ways) : Fits n ways [] := fun _ _ => by simpa [ofs] using h
def allL (n : Nat) (L : List Ln) : List Ln := (List.range n).flatMap (ofs n L)
theorem filter_len : ∀ (m : Nat) (L : List Ln), ((List.range m).flatMap fun i => L.filter (inSet n i)).length = (L.filter fun x => decide (si n x.num < m)).length
  | 0, L => by
    have : (L.filter fun x => decide (si n x.num < 0)) = [] := List.filter_eq_nil_iff.2 fun x _ => by simp
    rw [this]
    rfl
  | m + 1, L => by
    rw [List.range_succ, List.flatMap_append, List.length_append, filter_len m L]
    simp only [List.flatMap_cons, List.flatMap_nil, List.append_nil]
    induction L with
    | nil => rfl
    | cons x r ih =>
      by_cases h1 : si n x.num = m
      · rw [List.filter_cons_of_pos (p := inSet n m) (by simpa [inSet] using h1), List.filter_cons_of_neg (by simp; omega), List.filter_cons_of_pos (p := fun x : Ln => decide (si n x.num < m + 1)) (by simp; omega), List.length_cons, List.length_cons]
        omega
      · rw [List.filter_cons_of_neg (p := inSet n m) (by simpa [inSet] using h1)]
        by_cases h2 : si n x.num < m
        · rw [List.filter_cons_of_pos (by simpa using h2), List.filter_cons_of_pos (p := fun x : Ln => decide (si n x.num < m + 1)) (by simp; omega), List.length_cons, List.length_cons]
          omega
        · rw [List.filter_cons_of_neg (by simpa using h2), List.filter_cons_of_neg (p := fun x : Ln => decide (si n x.num < m + 1)) (by simp; omega)]
          exact ih
theorem allL_len (hn : 0 < n) (L : List Ln) : (allL n L).length = L.length := by
  unfold allL
  have e : (ofs n L) = fun i => L.filter (inSet n i) := rfl
  rw [e, filter_len n L, List.filter_eq_self.2]
  intro x _
  simpa using si_lt hn
end
def pickAt (pick : Int) (n : Nat) : Nat := (Int.tmod (Int.tmod pick n + n) n).toNat
theorem tmod_bd (p : Int) (n : Nat) (h : 0 < n) : -(n : Int) < Int.tmod p n ∧ Int.tmod p n < n := by
  have h1 := Int.tmod_lt_of_pos p (show (0 : Int) < n by omega)
  have h2 := Int.lt_tmod_of_pos p (show (0 : Int) < n by omega)
  omega
theorem pickAt_eq (p : Int) (n : Nat) (h : 0 < n) : Int.tmod (Int.tmod p n + n) n = ((pickAt p n : Nat) : Int) := by
  have h1 := tmod_bd p n h
  have h2 : 0 ≤ Int.tmod (Int.tmod p n + n) n := Int.tmod_nonneg _ (by omega)
  unfold pickAt
  omega
theorem pickAt_lt (p : Int) (n : Nat) (h : 0 < n) : pickAt p n < n := by
  have h1 := pickAt_eq p n h
  have h2 := (tmod_bd (Int.tmod p n + n) n h).2
  omega
theorem pick_neg {p : Int} {n : Nat} (h : 0 < n) (hn : Int.tmod p n < 0) : Int.tmod p n + n = ((pickAt p n : Nat) : Int) := by
  have h1 := tmod_bd p n h
  rw [← pickAt_eq p n h]
  generalize Int.tmod p n = q at *
  exact (Int.tmod_eq_of_lt (by omega) (by omega)).symm
theorem pick_pos {p : Int} {n : Nat} (h : 0 < n) (hn : ¬ Int.tmod p n < 0) : Int.tmod p n = ((pickAt p n : Nat) : Int) := by
  have h1 := tmod_bd p n h
  rw [← pickAt_eq p n h]
  generalize Int.tmod p n = q at *
  rw [Int.tmod_eq_emod_of_nonneg (by omega), Int.add_emod_right]
  exact (Int.emod_eq_of_lt (by omega) (by omega)).symm
def vicL (n : Nat) (ways : Int) (L : List Ln) (num pick : Int) : Option Ln :=
  if getN L num = none ∧ ways ≤ ((ofs n L (si n num)).length : Int) then some ((ofs n L (si n num)).getD (pickAt pick (ofs n L (si n num)).length) ln0) else none
def andI (sets : Int) : Int := IntKind.i64.wrap (BitVec.ofInt IntKind.i64.bits sets &&& BitVec.ofInt IntKind.i64.bits (sets - 1)).toNat
def pow2 (sets : Int) : Bool := decide (sets = 1) || decide (sets = 2) || decide (sets = 4) || decide (sets = 8) || decide (sets = 16) || decide (sets = 32) || decide (sets = 64)
def rightB (sets ways : Int) : Bool := pow2 sets && decide (1 ≤ ways) && decide (ways ≤ 8)
theorem andI_all : ∀ k : Fin 65, 1 ≤ k.1 → (decide (andI (k.1 : Int) = 0) = pow2 (k.1 : Int)) := by decide +kernel
theorem andI_iff {sets : Int} (h : 1 ≤ sets ∧ sets ≤ 64) : (andI sets = 0 ↔ pow2 sets = true) := by
  have := andI_all ⟨sets.toNat, by omega⟩ (show 1 ≤ sets.toNat by omega)
  simp only [] at this
  rw [show ((sets.toNat : Nat) : Int) = sets by omega] at this
  rw [← this]
  simp
theorem right_yes {sets ways : Int} (h : rightB sets ways = true) : ¬ sets < 1 ∧ ¬ 64 < sets ∧ ¬ andI sets ≠ 0 ∧ ¬ ways < 1 ∧ ¬ 8 < ways := by
  unfold rightB at h
  simp only [Bool.and_eq_true, decide_eq_true_eq] at h
  obtain ⟨⟨h1, h2⟩, h3⟩ := h
  have h4 : 1 ≤ sets ∧ sets ≤ 64 := by simp [pow2] at h1; omega
  exact ⟨by omega, by omega, fun hn => hn ((andI_iff h4).2 h1), by omega, by omega⟩
def allP (n : Nat) (L : List Ln) (i : Nat) : List Ln := (List.range i).flatMap (ofs n L)
section
variable {n i j : Nat} {L : List Ln}
theorem allP_succ : allP n L (i + 1) = allP n L i ++ ofs n L i := by simp [allP, List.range_succ, List.flatMap_append]
theorem allP_end : allP n L n = allL n L := rfl
theorem take_snoc {l : List Ln} (h : j < l.length) : l.take (j + 1) = l.take j ++ [l.getD j ln0] := by
  rw [List.take_succ_eq_append_getElem h]
  simp [List.getD, h]
theorem allP_prefix (h : i ≤ n) : allP n L i <+: allL n L := by
  obtain ⟨k, rfl⟩ := Nat.le.dest h
  unfold allP allL
  rw [List.range_add, List.flatMap_append]
  exact List.prefix_append _ _
theorem allQ_prefix {rl : List Ln} (hr : rl = ofs n L i) (hi : i < n) (j : Nat) : allP n L i ++ rl.take j <+: allL n L := by
  have h1 := allP_prefix (L := L) (show i + 1 ≤ n by omega)
  rw [allP_succ, ← hr] at h1
  obtain ⟨t, ht⟩ := h1
  rw [← ht]
  exact ⟨rl.drop j ++ t, by rw [List.append_assoc, List.append_assoc, ← List.append_assoc (rl.take j), List.take_append_drop]⟩
theorem allQ_lt {rl : List Ln} (hr : rl = ofs n L i) (hi : i < n) (hj : j < rl.length) : (allP n L i ++ rl.take j).length < (allL n L).length := by
  have h1 := (allQ_prefix hr hi (j + 1)).length_le
  rw [take_snoc hj] at h1
  simp only [List.length_append, List.length_cons, List.length_nil] at h1
  simp only [List.length_append]
  omega
end
theorem right_bd {n : Nat} {ways : Int} (h : rightB ((n : Nat) : Int) ways = true) : 0 < n ∧ n ≤ 64 ∧ 1 ≤ ways ∧ ways ≤ 8 := by
  obtain ⟨h1, h2, _, h4, h5⟩ := right_yes h
  omega
end Go.Proofs.Ytflnlmibkbojcaa
namespace Go.Proofs.Ytflnlmibkbojcaa
open Go.RowKit
theorem sz3 : (Try.prog.info? 3).map (·.size) = some 1 := by kernel_rfl
theorem pl3 : plainT Try.prog 3 = true := by kernel_rfl
theorem sz4 : (Try.prog.info? 4).map (·.size) = some 1 := by kernel_rfl
theorem pl4 : plainT Try.prog 4 = true := by kernel_rfl
theorem sz5 : (Try.prog.info? 5).map (·.size) = some 1 := by kernel_rfl
theorem pl5 : plainT Try.prog 5 = true := by kernel_rfl
theorem sz16 : (Try.prog.info? 16).map (·.size) = some 1 := by kernel_rfl
theorem sz22 : (Try.prog.info? 22).map (·.size) = some 16 := by kernel_rfl
theorem ag22 : aggT Try.prog 22 16 = true := by kernel_rfl
theorem sz25 : (Try.prog.info? 25).map (·.size) = some 1 := by kernel_rfl
theorem pl25 : plainT Try.prog 25 = true := by kernel_rfl
theorem sz26 : (Try.prog.info? 26).map (·.size) = some 1 := by kernel_rfl
theorem pl26 : plainT Try.prog 26 = true := by kernel_rfl
theorem sz29 : (Try.prog.info? 29).map (·.size) = some 1 := by kernel_rfl
theorem pl29 : plainT Try.prog 29 = true := by kernel_rfl
theorem sz32 : (Try.prog.info? 32).map (·.size) = some 1 := by kernel_rfl
theorem pl32 : plainT Try.prog 32 = true := by kernel_rfl
theorem sz33 : (Try.prog.info? 33).map (·.size) = some 1 := by kernel_rfl
theorem pl33 : plainT Try.prog 33 = true := by kernel_rfl
theorem sz35 : (Try.prog.info? 35).map (·.size) = some 20 := by kernel_rfl
theorem ag35 : aggT Try.prog 35 20 = true := by kernel_rfl
theorem fo35_0 : fieldOff Try.prog 35 0 = some 0 := by kernel_rfl
theorem fo35_1 : fieldOff Try.prog 35 1 = some 1 := by kernel_rfl
theorem fo35_2 : fieldOff Try.prog 35 2 = some 2 := by kernel_rfl
theorem fo35_3 : fieldOff Try.prog 35 3 = some 3 := by kernel_rfl
theorem fo35_4 : fieldOff Try.prog 35 4 = some 4 := by kernel_rfl
theorem sz36 : (Try.prog.info? 36).map (·.size) = some 1 := by kernel_rfl
theorem pl36 : plainT Try.prog 36 = true := by kernel_rfl
theorem sz39 : (Try.prog.info? 39).map (·.size) = some 18 := by kernel_rfl
theorem ag39 : aggT Try.prog 39 18 = true := by kernel_rfl
theorem fo39_0 : fieldOff Try.prog 39 0 = some 0 := by kernel_rfl
theorem fo39_1 : fieldOff Try.prog 39 1 = some 1 := by kernel_rfl
theorem fo39_2 : fieldOff Try.prog 39 2 = some 2 := by kernel_rfl
theorem sz40 : (Try.prog.info? 40).map (·.size) = some 1 := by kernel_rfl
theorem pl40 : plainT Try.prog 40 = true := by kernel_rfl
theorem fo55_0 : fieldOff Try.prog 55 0 = some 0 := by kernel_rfl
theorem fo55_1 : fieldOff Try.prog 55 1 = some 1 := by kernel_rfl
theorem sz79 : (Try.prog.info? 79).map (·.size) = some 1 := by kernel_rfl
theorem pl79 : plainT Try.prog 79 = true := by kernel_rfl
theorem sz80 : (Try.prog.info? 80).map (·.size) = some 1 := by kernel_rfl
theorem pl80 : plainT Try.prog 80 = true := by kernel_rfl
theorem sz81 : (Try.prog.info? 81).map (·.size) = some 1 := by kernel_rfl
theorem pl81 : plainT Try.prog 81 = true := by kernel_rfl
theorem fo83_0 : fieldOff Try.prog 83 0 = some 0 := by kernel_rfl
theorem fo83_1 : fieldOff Try.prog 83 1 = some 1 := by kernel_rfl
theorem fo83_2 : fieldOff Try.prog 83 2 = some 2 := by kernel_rfl
theorem fo83_3 : fieldOff Try.prog 83 3 = some 3 := by kernel_rfl
theorem pl87 : plainT Try.prog 87 = true := by kernel_rfl
theorem pl90 : plainT Try.prog 90 = true := by kernel_rfl
theorem sz94 : (Try.prog.info? 94).map (·.size) = some 1 := by kernel_rfl
theorem pl94 : plainT Try.prog 94 = true := by kernel_rfl
theorem fo97_0 : fieldOff Try.prog 97 0 = some 0 := by kernel_rfl
theorem fo97_1 : fieldOff Try.prog 97 1 = some 1 := by kernel_rfl
theorem fo97_2 : fieldOff Try.prog 97 2 = some 2 := by kernel_rfl
theorem fo97_3 : fieldOff Try.prog 97 3 = some 3 := by kernel_rfl
theorem fo97_4 : fieldOff Try.prog 97 4 = some 19 := by kernel_rfl
theorem sz100 : (Try.prog.info? 100).map (·.size) = some 5 := by kernel_rfl
theorem ag100 : aggT Try.prog 100 5 = true := by kernel_rfl
theorem fo100_0 : fieldOff Try.prog 100 0 = some 0 := by kernel_rfl
theorem fo100_1 : fieldOff Try.prog 100 1 = some 1 := by kernel_rfl
theorem fo100_2 : fieldOff Try.prog 100 2 = some 2 := by kernel_rfl
theorem fo100_3 : fieldOff Try.prog 100 3 = some 3 := by kernel_rfl
theorem fo100_4 : fieldOff Try.prog 100 4 = some 4 := by kernel_rfl
theorem fo109_0 : fieldOff Try.prog 109 0 = some 0 := by kernel_rfl
theorem fo109_1 : fieldOff Try.prog 109 1 = some 1 := by kernel_rfl
theorem pl138 : plainT Try.prog 138 = true := by kernel_rfl
theorem fo140_0 : fieldOff Try.prog 140 0 = some 0 := by kernel_rfl
theorem fo140_1 : fieldOff Try.prog 140 1 = some 1 := by kernel_rfl
theorem pl144 : plainT Try.prog 144 = true := by kernel_rfl
theorem sz145 : (Try.prog.info? 145).map (·.size) = some 4 := by kernel_rfl
theorem ag145 : aggT Try.prog 145 4 = true := by kernel_rfl
theorem sz147 : (Try.prog.info? 147).map (·.size) = some 11 := by kernel_rfl
theorem ag147 : aggT Try.prog 147 11 = true := by kernel_rfl
theorem fo147_0 : fieldOff Try.prog 147 0 = some 0 := by kernel_rfl
theorem fo147_1 : fieldOff Try.prog 147 1 = some 1 := by kernel_rfl
theorem fo147_2 : fieldOff Try.prog 147 2 = some 5 := by kernel_rfl
theorem fo147_3 : fieldOff Try.prog 147 3 = some 6 := by kernel_rfl
theorem fo147_4 : fieldOff Try.prog 147 4 = some 7 := by kernel_rfl
theorem fo147_5 : fieldOff Try.prog 147 5 = some 8 := by kernel_rfl
theorem fo147_6 : fieldOff Try.prog 147 6 = some 9 := by kernel_rfl
theorem fo147_7 : fieldOff Try.prog 147 7 = some 10 := by kernel_rfl
theorem pl148 : plainT Try.prog 148 = true := by kernel_rfl
theorem fo150_0 : fieldOff Try.prog 150 0 = some 0 := by kernel_rfl
theorem fo150_1 : fieldOff Try.prog 150 1 = some 1 := by kernel_rfl
theorem sz156 : (Try.prog.info? 156).map (·.size) = some 2 := by kernel_rfl
theorem fo156_0 : fieldOff Try.prog 156 0 = some 0 := by kernel_rfl
theorem fo156_1 : fieldOff Try.prog 156 1 = some 1 := by kernel_rfl
theorem sz161 : (Try.prog.info? 161).map (·.size) = some 1 := by kernel_rfl
theorem fo161_0 : fieldOff Try.prog 161 0 = some 0 := by kernel_rfl
theorem sz170 : (Try.prog.info? 170).map (·.size) = some 1 := by kernel_rfl
theorem fo170_0 : fieldOff Try.prog 170 0 = some 0 := by kernel_rfl
theorem fo174_0 : fieldOff Try.prog 174 0 = some 0 := by kernel_rfl
theorem fo176_0 : fieldOff Try.prog 176 0 = some 0 := by kernel_rfl
theorem fo176_1 : fieldOff Try.prog 176 1 = some 1 := by kernel_rfl
theorem fo176_2 : fieldOff Try.prog 176 2 = some 2 := by kernel_rfl
theorem fo176_3 : fieldOff Try.prog 176 3 = some 3 := by kernel_rfl
theorem nm11 : (Try.f11.name == "runtime.NumGoroutine") = false := by kernel_rfl
theorem nm12 : (Try.f12.name == "runtime.NumGoroutine") = false := by kernel_rfl
theorem nm13 : (Try.f13.name == "runtime.NumGoroutine") = false := by kernel_rfl
theorem nm14 : (Try.f14.name == "runtime.NumGoroutine") = false := by kernel_rfl
theorem nm15 : (Try.f15.name == "runtime.NumGoroutine") = false := by kernel_rfl
theorem nm17 : (Try.f17.name == "runtime.NumGoroutine") = false := by kernel_rfl
theorem nm20 : (Try.f20.name == "runtime.NumGoroutine") = false := by kernel_rfl
theorem nm25 : (Try.f25.name == "runtime.NumGoroutine") = false := by kernel_rfl
theorem nm30 : (Try.f30.name == "runtime.NumGoroutine") = false := by kernel_rfl
theorem nm34 : (Try.f34.name == "runtime.NumGoroutine") = false := by kernel_rfl
theorem nm35 : (Try.f35.name == "runtime.NumGoroutine") = false := by kernel_rfl
theorem nm36 : (Try.f36.name == "runtime.NumGoroutine") = false := by kernel_rfl
theorem nm37 : (Try.f37.name == "runtime.NumGoroutine") = false := by kernel_rfl
theorem nm38 : (Try.f38.name == "runtime.NumGoroutine") = false := by kernel_rfl
theorem nm39 : (Try.f39.name == "runtime.NumGoroutine") = false := by kernel_rfl
theorem nm40 : (Try.f40.name == "runtime.NumGoroutine") = false := by kernel_rfl
theorem nm41 : (Try.f41.name == "runtime.NumGoroutine") = false := by kernel_rfl
theorem nm42 : (Try.f42.name == "runtime.NumGoroutine") = false := by kernel_rfl
theorem nm43 : (Try.f43.name == "runtime.NumGoroutine") = false := by kernel_rfl
theorem nm44 : (Try.f44.name == "runtime.NumGoroutine") = false := by kernel_rfl
theorem nm45 : (Try.f45.name == "runtime.NumGoroutine") = false := by kernel_rfl
theorem nm46 : (Try.f46.name == "runtime.NumGoroutine") = false := by kernel_rfl
theorem nm47 : (Try.f47.name == "runtime.NumGoroutine") = false := by kernel_rfl
theorem nm48 : (Try.f48.name == "runtime.NumGoroutine") = false := by kernel_rfl
theorem nm50 : (Try.f50.name == "runtime.NumGoroutine") = false := by kernel_rfl
theorem nm51 : (Try.f51.name == "runtime.NumGoroutine") = false := by kernel_rfl
theorem nm52 : (Try.f52.name == "runtime.NumGoroutine") = false := by kernel_rfl
theorem nm53 : (Try.f53.name == "runtime.NumGoroutine") = false := by kernel_rfl
theorem nm54 : (Try.f54.name == "runtime.NumGoroutine") = false := by kernel_rfl
theorem nm55 : (Try.f55.name == "runtime.NumGoroutine") = false := by kernel_rfl
theorem nm56 : (Try.f56.name == "runtime.NumGoroutine") = false := by kernel_rfl
theorem nm67 : (Try.f67.name == "runtime.NumGoroutine") = false := by kernel_rfl
theorem nm68 : (Try.f68.name == "runtime.NumGoroutine") = false := by kernel_rfl
theorem nm69 : (Try.f69.name == "runtime.NumGoroutine") = false := by kernel_rfl
theorem nm70 : (Try.f70.name == "runtime.NumGoroutine") = false := by kernel_rfl
theorem nm71 : (Try.f71.name == "runtime.NumGoroutine") = false := by kernel_rfl
theorem nm72 : (Try.f72.name == "runtime.NumGoroutine") = false := by kernel_rfl
theorem nm73 : (Try.f73.name == "runtime.NumGoroutine") = false := by kernel_rfl
theorem nm74 : (Try.f74.name == "runtime.NumGoroutine") = false := by kernel_rfl
theorem nm75 : (Try.f75.name == "runtime.NumGoroutine") = false := by kernel_rfl
theorem nm76 : (Try.f76.name == "runtime.NumGoroutine") = false := by kernel_rfl
theorem nm77 : (Try.f77.name == "runtime.NumGoroutine") = false := by kernel_rfl
theorem nm78 : (Try.f78.name == "runtime.NumGoroutine") = false := by kernel_rfl
theorem nm80 : (Try.f80.name == "runtime.NumGoroutine") = false := by kernel_rfl
theorem nm81 : (Try.f81.name == "runtime.NumGoroutine") = false := by kernel_rfl
theorem nm82 : (Try.f82.name == "runtime.NumGoroutine") = false := by kernel_rfl
theorem nm85 : (Try.f85.name == "runtime.NumGoroutine") = false := by kernel_rfl
theorem nm87 : (Try.f87.name == "runtime.NumGoroutine") = false := by kernel_rfl
theorem nm88 : (Try.f88.name == "runtime.NumGoroutine") = false := by kernel_rfl
theorem nm89 : (Try.f89.name == "runtime.NumGoroutine") = false := by kernel_rfl
theorem nm90 : (Try.f90.name == "runtime.NumGoroutine") = false := by kernel_rfl
theorem nm91 : (Try.f91.name == "runtime.NumGoroutine") = false := by kernel_rfl
theorem nm92 : (Try.f92.name == "runtime.NumGoroutine") = false := by kernel_rfl
theorem nm93 : (Try.f93.name == "runtime.NumGoroutine") = false := by kernel_rfl
theorem nm94 : (Try.f94.name == "runtime.NumGoroutine") = false := by kernel_rfl
theorem nm95 : (Try.f95.name == "runtime.NumGoroutine") = false := by kernel_rfl
theorem nm97 : (Try.f97.name == "runtime.NumGoroutine") = false := by kernel_rfl
theorem nm98 : (Try.f98.name == "runtime.NumGoroutine") = false := by kernel_rfl
theorem nm99 : (Try.f99.name == "runtime.NumGoroutine") = false := by kernel_rfl
theorem nm100 : (Try.f100.name == "runtime.NumGoroutine") = false := by kernel_rfl
theorem nm101 : (Try.f101.name == "runtime.NumGoroutine") = false := by kernel_rfl
theorem nm102 : (Try.f102.name == "runtime.NumGoroutine") = false := by kernel_rfl
theorem nm103 : (Try.f103.name == "runtime.NumGoroutine") = false := by kernel_rfl
theorem nm104 : (Try.f104.name == "runtime.NumGoroutine") = false := by kernel_rfl
theorem nm105 : (Try.f105.name == "runtime.NumGoroutine") = false := by kernel_rfl
theorem nm106 : (Try.f106.name == "runtime.NumGoroutine") = false := by kernel_rfl
theorem nm107 : (Try.f107.name == "runtime.NumGoroutine") = false := by kernel_rfl
theorem nm108 : (Try.f108.name == "runtime.NumGoroutine") = false := by kernel_rfl
theorem nm111 : (Try.f111.name == "runtime.NumGoroutine") = false := by kernel_rfl
theorem nm112 : (Try.f112.name == "runtime.NumGoroutine") = false := by kernel_rfl
theorem nm113 : (Try.f113.name == "runtime.NumGoroutine") = false := by kernel_rfl
theorem nm114 : (Try.f114.name == "runtime.NumGoroutine") = false := by kernel_rfl
theorem cf11 : CF Try.prog 11 := ⟨_, Try.func11, nm11, rfl⟩
theorem cf12 : CF Try.prog 12 := ⟨_, Try.func12, nm12, rfl⟩
theorem cf13 : CF Try.prog 13 := ⟨_, Try.func13, nm13, rfl⟩
theorem cf14 : CF Try.prog 14 := ⟨_, Try.func14, nm14, rfl⟩
theorem cf15 : CF Try.prog 15 := ⟨_, Try.func15, nm15, rfl⟩
theorem cf17 : CF Try.prog 17 := ⟨_, Try.func17, nm17, rfl⟩
theorem cf20 : CF Try.prog 20 := ⟨_, Try.func20, nm20, rfl⟩
theorem cf25 : CF Try.prog 25 := ⟨_, Try.func25, nm25, rfl⟩
theorem cf30 : CF Try.prog 30 := ⟨_, Try.func30, nm30, rfl⟩
theorem cf34 : CF Try.prog 34 := ⟨_, Try.func34, nm34, rfl⟩
theorem cf35 : CF Try.prog 35 := ⟨_, Try.func35, nm35, rfl⟩
theorem cf36 : CF Try.prog 36 := ⟨_, Try.func36, nm36, rfl⟩
theorem cf37 : CF Try.prog 37 := ⟨_, Try.func37, nm37, rfl⟩
theorem cf38 : CF Try.prog 38 := ⟨_, Try.func38, nm38, rfl⟩
theorem cf39 : CF Try.prog 39 := ⟨_, Try.func39, nm39, rfl⟩
theorem cf40 : CF Try.prog 40 := ⟨_, Try.func40, nm40, rfl⟩
theorem cf41 : CF Try.prog 41 := ⟨_, Try.func41, nm41, rfl⟩
theorem cf42 : CF Try.prog 42 := ⟨_, Try.func42, nm42, rfl⟩
theorem cf43 : CF Try.prog 43 := ⟨_, Try.func43, nm43, rfl⟩
theorem cf44 : CF Try.prog 44 := ⟨_, Try.func44, nm44, rfl⟩
theorem cf45 : CF Try.prog 45 := ⟨_, Try.func45, nm45, rfl⟩
theorem cf46 : CF Try.prog 46 := ⟨_, Try.func46, nm46, rfl⟩
theorem cf47 : CF Try.prog 47 := ⟨_, Try.func47, nm47, rfl⟩
theorem cf48 : CF Try.prog 48 := ⟨_, Try.func48, nm48, rfl⟩
theorem cf54 : CF Try.prog 54 := ⟨_, Try.func54, nm54, rfl⟩
theorem cf55 : CF Try.prog 55 := ⟨_, Try.func55, nm55, rfl⟩
theorem cf56 : CF Try.prog 56 := ⟨_, Try.func56, nm56, rfl⟩
theorem cf67 : CF Try.prog 67 := ⟨_, Try.func67, nm67, rfl⟩
theorem cf68 : CF Try.prog 68 := ⟨_, Try.func68, nm68, rfl⟩
theorem cf69 : CF Try.prog 69 := ⟨_, Try.func69, nm69, rfl⟩
theorem cf70 : CF Try.prog 70 := ⟨_, Try.func70, nm70, rfl⟩
theorem cf71 : CF Try.prog 71 := ⟨_, Try.func71, nm71, rfl⟩
theorem cf72 : CF Try.prog 72 := ⟨_, Try.func72, nm72, rfl⟩
theorem cf74 : CF Try.prog 74 := ⟨_, Try.func74, nm74, rfl⟩
theorem cf75 : CF Try.prog 75 := ⟨_, Try.func75, nm75, rfl⟩
theorem cf76 : CF Try.prog 76 := ⟨_, Try.func76, nm76, rfl⟩
theorem cf77 : CF Try.prog 77 := ⟨_, Try.func77, nm77, rfl⟩
theorem cf78 : CF Try.prog 78 := ⟨_, Try.func78, nm78, rfl⟩
theorem cf80 : CF Try.prog 80 := ⟨_, Try.func80, nm80, rfl⟩
theorem cf81 : CF Try.prog 81 := ⟨_, Try.func81, nm81, rfl⟩
theorem cf85 : CF Try.prog 85 := ⟨_, Try.func85, nm85, rfl⟩
theorem cf87 : CF Try.prog 87 := ⟨_, Try.func87, nm87, rfl⟩
theorem cf93 : CF Try.prog 93 := ⟨_, Try.func93, nm93, rfl⟩
theorem cf95 : CF Try.prog 95 := ⟨_, Try.func95, nm95, rfl⟩
theorem cf97 : CF Try.prog 97 := ⟨_, Try.func97, nm97, rfl⟩
theorem cf98 : CF Try.prog 98 := ⟨_, Try.func98, nm98, rfl⟩
theorem cf99 : CF Try.prog 99 := ⟨_, Try.func99, nm99, rfl⟩
theorem cf100 : CF Try.prog 100 := ⟨_, Try.func100, nm100, rfl⟩
theorem cf101 : CF Try.prog 101 := ⟨_, Try.func101, nm101, rfl⟩
theorem cf102 : CF Try.prog 102 := ⟨_, Try.func102, nm102, rfl⟩
theorem cf103 : CF Try.prog 103 := ⟨_, Try.func103, nm103, rfl⟩
theorem cf104 : CF Try.prog 104 := ⟨_, Try.func104, nm104, rfl⟩
theorem cf105 : CF Try.prog 105 := ⟨_, Try.func105, nm105, rfl⟩
theorem cf111 : CF Try.prog 111 := ⟨_, Try.func111, nm111, rfl⟩
theorem cf112 : CF Try.prog 112 := ⟨_, Try.func112, nm112, rfl⟩
theorem cf113 : CF Try.prog 113 := ⟨_, Try.func113, nm113, rfl⟩
theorem cf114 : CF Try.prog 114 := ⟨_, Try.func114, nm114, rfl⟩
theorem none_some {w : World} {b : Nat} {v : Value} {ways : Int} (hB : Blk w b 150 #[v, .int .i64 ways]) (hm : ways ≠ 0) : Calls Try.prog 74 #[.pointer (some ⟨b, 0, none⟩)] w (Ret fun v w' => v = .bool false ∧ w' = w) := by
 refine Zen 12 Try.func74 ?_
 refine Zsr ?_
 refine Zan ?_
 refine Zsm ?_
 refine Zv (.bool false) (fun _ fr => x_peql Try.underlying79 rfl (fr.ev rfl) rfl rfl) ?_
 refine Zmm ?_
 refine Zn ?_
 refine Zf fo150_1 ?_
 refine Zd (v := .int .i64 ways) pl3 (hB.cell 1 rfl) ?_
 refine Zv _ (fun _ fr => x_eql rfl (fr.ev rfl) rfl rfl) ?_
 refine Zpf ?_
 refine Zar ?_
 refine Zre rfl [_] ⟨rfl, trivial⟩ ?_
 exact ⟨_, rfl, congrArg Value.bool (by simp [hm]), rfl⟩
theorem closure_c (x : Ln) {w : World} {bx : Nat} {number : Int} (hX : Blk w bx 32 #[.int .u32 number]) : Calls Try.prog 94 #[.agg (lnE.arr x), .pointer (some ⟨bx, 0, none⟩)] w (Ret fun v w' => v = .bool (decide (x.num = number)) ∧ New w w') := by
 have hF := Only.refl (fun _ => False) w
 refine Zen 8 Try.func94 ?_
 refine Zsr ?_
 refine Znb (cs := lnE.arr x) fun b1 w2 hN3 B4 hb5 => ?_
 refine Zan ?_
 refine Zsr ?_
 refine Zf fo39_0 ?_
 refine Zd (v := .int .u32 x.num) pl32 (B4.cell 0 rfl) ?_
 replace hX := hX.new hN3
 refine Zd (v := .int .u32 number) pl32 (hX.cell 0 rfl) ?_
 refine Zv _ (fun _ fr => x_eql rfl (fr.ev rfl) (fr.ev rfl) rfl) ?_
 refine Zar ?_
 refine Zre rfl [_] ⟨rfl, trivial⟩ ?_
 replace hF := hF.trNew hN3
 exact ⟨_, rfl, rfl, hF⟩
theorem index_c {w : World} {A : Option Addr} {cap : Nat} {l : List Ln} (hV : View lnE w A cap l) {bx : Nat} {number : Int} (hX : Blk w bx 32 #[.int .u32 number]) : Calls Try.prog 93 #[.slice A l.length cap, .func (.func 94) #[] #[.pointer (some ⟨bx, 0, none⟩)]] w (Ret fun v w' => v = .int .i64 (fndI l number) ∧ New w w') := by
 have hVl := hV.len
 unfold maxLen at hVl
 have hF := Only.refl (fun _ => False) w
 refine Zen 19 Try.func93 ?_
 refine Zsr ?_
 refine Zaq ?_
 refine Zsm ?_
 refine Zv _ (fun _ fr => x_len Try.underlying40 rfl (fr.ev rfl)) ?_
 refine Zm ?_
 refine Znn ?_
 refine Zbl ?_
 intro a fr
 refine fx_loop (fun nM a wL => ∃ i : Nat, nM = l.length - i ∧ Fr (19, []) [(0, .slice A l.length cap), (1, .func (.func 94) #[] #[.pointer (some ⟨bx, 0, none⟩)]), (7, .int .i64 ((l.length : Nat) : Int)), (8, .int .i64 ((i : Nat) : Int))] a ∧ Only (fun _ => False) w wL ∧ View lnE wL A cap l ∧ Blk wL bx 32 #[.int .u32 number] ∧ i ≤ l.length ∧ (∀ j, j < i → ¬ (l.getD j ln0).num = number)) (n0 := _) ⟨0, rfl, fr.sub ⟨rfl, rfl, rfl, rfl, trivial⟩, hF, hV, hX, by omega, (fun j hj => absurd hj (by omega))⟩ ?_
 clear fr a
 rintro n2 a w1 ⟨i, rfl, fr, hF, hV, hX, hi, hall⟩
 revert a
 refine Zsr ?_
 refine Zv _ (fun _ fr => x_lss rfl (fr.ev rfl) (fr.ev rfl) rfl) ?_
 refine Znq ?_
 refine Zcd (fun hc3 => ?_) (fun hc3 => ?_)
 ·have hc3 := of_decide_eq_true hc3
  refine Zkn ?_
  refine Zsq ?_
  refine Zbl ?_
  refine Zsm ?_
  refine Zan ?_
  refine Zsm ?_
  refine Zmm ?_
  obtain ⟨g4, o5, hA6⟩ := (hV).some_ (by omega)
  refine Zv (.pointer (some ⟨g4, o5 + i * 18, none⟩)) (fun _ fr => x_indexV Try.underlying40 sz39 rfl (fr.ev rfl) hA6 (fr.ev rfl) (by omega) rfl) ?_
  refine ZE lnE ag39 ((hV).elem hA6 i ln0 (by omega)) ?_
  refine Zkx (fun _ fr => x_callv (all := #[.agg (lnE.arr (l.getD i ln0)), .pointer (some ⟨bx, 0, none⟩)]) (vs := [.agg (lnE.arr (l.getD i ln0))]) rfl (fr.ev rfl) ⟨(fr.ev rfl), trivial⟩ rfl Try.func94 nm94 rfl) (closure_c (l.getD i ln0) hX) ?_
  rintro v w7 ⟨rfl, hN8⟩
  refine Znn ?_
  refine Zcd (fun hc9 => ?_) (fun hc9 => ?_)
  ·have hc9 := of_decide_eq_true hc9
   refine Zsm ?_
   refine Zar ?_
   refine Zr21 ?_
   refine Zr1 ?_
   refine Zr21 ?_
   refine Zre rfl [_] ⟨rfl, trivial⟩ ?_
   replace hF := hF.trNew hN8
   exact ⟨_, rfl, congrArg (Value.int .i64) (fnd_yes (by omega) hc9 hall).symm, hF⟩
  ·have hc9 := of_decide_eq_false hc9
   refine Zsk ?_
   refine Zbn ?_
   refine Zrg ?_
   refine Zv _ (fun _ fr => x_add rfl (fr.ev rfl) rfl (i64w (r := ((i + 1 : Nat) : Int)) (by omega) (by omega))) ?_
   refine Zm ?_
   intro a fr
   refine wpList_nil ?_
   refine fx_next ?_
   replace hV := hV.new hN8
   replace hX := hX.new hN8
   replace hF := hF.trNew hN8
   exact ⟨_, by omega, (i + 1), rfl, fr.sub ⟨rfl, rfl, rfl, rfl, trivial⟩, hF, hV, hX, by omega, fun j hj => by rcases Nat.lt_succ_iff_lt_or_eq.1 hj with h | rfl; exact hall j h; exact hc9⟩
 ·have hc3 := of_decide_eq_false hc3
  refine Zex ?_
  refine Zxt ?_
  refine Zxt ?_
  refine Zxx ?_
  refine Znx ?_
  refine Zsr ?_
  refine Zar ?_
  refine Zre rfl [_] ⟨rfl, trivial⟩ ?_
  exact ⟨_, rfl, congrArg (Value.int .i64) (fnd_no fun j hj => hall j (by omega)).symm, hF⟩
theorem clone_nil (w : World) : Calls Try.prog 80 #[.slice none 0 0] w (Ret fun v w' => v = .slice none 0 0 ∧ w' = w) := by
 refine Zen 8 Try.func80 ?_
 refine Zsr ?_
 refine Zaq ?_
 refine Zsm ?_
 refine Zv (.bool true) (fun _ fr => x_seql Try.underlying40 rfl (fr.ev rfl) rfl rfl) ?_
 refine Znt ?_
 refine Zsr ?_
 refine Zar ?_
 refine Zr1 ?_
 refine Zre rfl [_] ⟨rfl, trivial⟩ ?_
 exact ⟨_, rfl, rfl, rfl⟩
theorem clone_some {w : World} {A : Option Addr} {cap : Nat} {l : List Ln} (hV : View lnE w A cap l) {ad : Addr} (hA : A = some ad) (hl : l.length ≤ 100000) : Calls Try.prog 80 #[.slice A l.length cap] w (Ret fun v w' => ∃ A' cap', v = .slice A' (l).length cap' ∧ Own lnE w' A' cap' (l) ∧ (∀ g, inA A' g → w.heap.size ≤ g) ∧ New w w') := by
 have hVl := hV.len
 unfold maxLen at hVl
 have hF := Only.refl (fun _ => False) w
 refine Zen 8 Try.func80 ?_
 refine Zsr ?_
 refine Zaq ?_
 refine Zsm ?_
 refine Zv (.bool false) (fun _ fr => x_seql Try.underlying40 rfl (fr.ev rfl) rfl (by rw [hA]; rfl)) ?_
 refine Znf ?_
 refine Zkn ?_
 refine Zsr ?_
 intro a fr
 refine fx_build0 (E := lnE) elLn fr rfl rfl (by decide) rfl ?_
 clear fr a
 intro A1 w2 hN3 O4 hA5
 have gA_A1 := gA_new hF hA5
 refine Zm ?_
 intro a fr
 replace hV := hV.new hN3
 refine fx_append (E := lnE) (l := []) (l' := l) elLn fr rfl rfl (by decide) rfl (fr.ev rfl) (fr.ev rfl) (by first | rfl | (simp; done) | (simp; omega)) (by first | rfl | (simp; done) | (simp; omega)) O4 hV (by first | omega | (simp; omega)) (by unfold maxLen; first | omega | (simp; omega)) ?_
 clear fr a
 intro A6 cap7 w8 O9 hO10 mv11
 replace hF := hF.trNew hN3
 have gA_A6 := gA_moved hF mv11 gA_A1
 clear O4
 refine Zar ?_
 refine Zre rfl [_] ⟨rfl, trivial⟩ ?_
 replace hF := hF.locA hO10 gA_A1
 exact ⟨_, rfl, _, _, rfl, O9, fun g hg => (gA_A6 g hg).resolve_left id, hF⟩
theorem clone_c {w : World} {A : Option Addr} {cap : Nat} {l : List Ln} (hV : View lnE w A cap l) (hl : l.length ≤ 100000) : Calls Try.prog 80 #[.slice A l.length cap] w (Ret fun v w' => ∃ A' cap', v = .slice A' (l).length cap' ∧ Own lnE w' A' cap' (l) ∧ (∀ g, inA A' g → w.heap.size ≤ g) ∧ New w w') := by
  cases hA : A with
  | none =>
    subst hA
    obtain ⟨rfl, rfl⟩ := hV.none_
    refine (clone_nil w).mono ?_
    rintro e w' ⟨v, rfl, rfl, rfl⟩
    exact ⟨_, rfl, none, 0, rfl, Own.nil, fun g hg => absurd hg (apart_none g), Only.refl _ _⟩
  | some ad =>
    subst hA
    exact clone_some hV rfl hl
theorem delete_c {w : World} {A : Option Addr} {cap : Nat} {l : List Ln} (O : Own lnE w A cap l) (i : Nat) (hi : i < l.length) : Calls Try.prog 95 #[.slice A l.length cap, .int .i64 ((i : Nat) : Int), .int .i64 ((i + 1 : Nat) : Int)] w (Ret fun v w' => v = .slice A (l.take i ++ l.drop (i + 1)).length cap ∧ Own lnE w' A cap (l.take i ++ l.drop (i + 1)) ∧ Only (inA A) w w') := by
 have hOl := O.len
 unfold maxLen at hOl
 have hA0 := O.view.some_ (by omega)
 have gA_A : ∀ g, inA A g → (inA A) g ∨ w.heap.size ≤ g := fun g hg => .inl hg
 have hF := Only.refl (inA A) w
 refine Zen 33 Try.func95 ?_
 refine Zsr ?_
 refine Zan ?_
 refine Zsm ?_
 refine Zmm ?_
 refine Zm ?_
 refine Zv _ (fun _ fr => x_len Try.underlying40 rfl (fr.ev rfl)) ?_
 refine Zv (.slice (cutA A l.length i 18) ((i + 1) - i) (l.length - i)) (fun _ fr => x_slice_full Try.underlying40 sz39 rfl (fr.ev rfl) (fr.ev rfl) (fr.ev rfl) (fr.ev rfl) (by omega) (by omega) (by omega)) ?_
 refine Znq ?_
 refine Zsm ?_
 refine Zm ?_
 refine Zv _ (fun _ fr => x_eql rfl (fr.ev rfl) (fr.ev rfl) rfl) ?_
 refine Znn ?_
 refine Zcd (fun hc1 => ?_) (fun hc1 => ?_)
 ·have hc1 := of_decide_eq_true hc1
  refine Zsm ?_
  refine Zar ?_
  refine Zr1 ?_
  refine Zre rfl [_] ⟨rfl, trivial⟩ ?_
  exfalso
  omega
 ·have hc1 := of_decide_eq_false hc1
  refine Zkn ?_
  refine Zsm ?_
  refine Zv _ (fun _ fr => x_len Try.underlying40 rfl (fr.ev rfl)) ?_
  refine Zaq ?_
  refine ZhT (n := 7) 7 (fun _ => True) ?_
  intro w2 hN3
  refine Zhm 0 trivial ?_
  refine Zhm 1 trivial ?_
  replace O := O.new hN3
  refine Zht 2 rfl (.slice A i cap) trivial (fun _ fr _ _ => x_slice_to Try.underlying40 sz39 rfl (fr.ev rfl) (fr.ev rfl) (by have := (O.view).len; omega)) ?_
  refine Zhm 3 trivial ?_
  refine Zhm 4 trivial ?_
  refine Zht 5 rfl (.slice (cutA A cap (i + 1) 18) (l.length - (i + 1)) (cap - (i + 1))) trivial (fun _ fr _ _ => x_slice_from Try.underlying40 sz39 rfl (fr.ev rfl) (fr.ev rfl) (by omega)) ?_
  refine Zh1 6 ?_
  intro a fr
  refine fx_appendIn (E := lnE) (l := l.take i) (l' := l.drop (i + 1)) elLn fr rfl rfl (by decide) rfl (fr.ev rfl) (fr.ev rfl) (by simp; omega) (by simp) (O.pre i) ((O.view).drop (i + 1) (by omega)) hA0 (by simp; omega) ?_
  clear fr a
  intro w4 O5 hO6
  clear O
  have hdl : (l.take i ++ l.drop (i + 1)).length + 1 = l.length := by simp; omega
  refine Zhb trivial ?_
  refine Zhn ?_
  refine Ztl ?_
  refine Zan ?_
  refine Zsm ?_
  refine Zm ?_
  refine Zv _ (fun _ fr => x_len Try.underlying40 rfl (fr.ev rfl)) ?_
  refine Zm ?_
  refine Zv (.slice (cutA A cap ((l.take i ++ l.drop (i + 1)).length) 18) (l.length - ((l.take i ++ l.drop (i + 1)).length)) (cap - ((l.take i ++ l.drop (i + 1)).length))) (fun _ fr => x_slice_mid Try.underlying40 sz39 rfl (fr.ev rfl) (fr.ev rfl) (fr.ev rfl) (by omega) (by omega)) ?_
  intro a fr
  refine fx_clearTail (E := lnE) elLn (z := .agg (lnE.arr ln0)) (by kernel_rfl) (lnE.size _) (lnE.all _) rfl rfl rfl (fr.ev rfl) O5 (Nat.le_refl _) (by omega) fun w7 O9 hO8 => ?_
  revert a
  replace O5 := O9
  clear O9
  refine Znn ?_
  refine Zsm ?_
  refine Zar ?_
  refine Zre rfl [_] ⟨rfl, trivial⟩ ?_
  replace hF := ((hF.trNew hN3).locA hO6 gA_A).locA hO8 gA_A
  exact ⟨_, rfl, rfl, O5, hF⟩
end Go.Proofs.Ytflnlmibkbojcaa
namespace Go.Proofs.Ytflnlmibkbojcaa
open Go.RowKit
structure LinPure (Fp : Nat → Prop) (b S : Nat) (FpR : Nat → Prop) (rs : List Row) (n : Nat) (ways : Int) (L : List Ln) : Prop where
  ne : NE b S
  apb : ¬ FpR b
  apS : ¬ FpR S
  foot : ∀ k, Fp k ↔ k = b ∨ k = S ∨ FpR k
  len : rs.length = n
  row : ∀ i, i < n → (rs.getD i r0).l = ofs n L i
  bd : 0 < n ∧ n ≤ 64 ∧ 1 ≤ ways ∧ ways ≤ 8
  uniq : Uniq L
  fits : Fits n ways L
def LinesAt (w : World) (Fp : Nat → Prop) (b n : Nat) (ways : Int) (L : List Ln) : Prop :=
  ∃ S FpR rs, Blk w b 150 #[.slice (some ⟨S, 0, none⟩) n n, .int .i64 ways] ∧ Blk w S 40 (rowsArr rs) ∧ RowsAt w FpR rs ∧ LinPure Fp b S FpR rs n ways L
section
variable {w w' : World} {Fp T : Nat → Prop} {b n D : Nat} {ways : Int} {L : List Ln}
theorem LinesAt.only (h : LinesAt w Fp b n ways L) (k : Only T w w') (hs : ∀ g, Fp g → ¬ T g) : LinesAt w' Fp b n ways L := by
  obtain ⟨S, FpR, rs, hB, hS, hR, hP⟩ := h
  exact ⟨S, FpR, rs, hB.only k (hs _ ((hP.foot _).2 (.inl rfl))), hS.only k (hs _ ((hP.foot _).2 (.inr (.inl rfl)))), hR.only k fun g hg => hs _ ((hP.foot _).2 (.inr (.inr hg))), hP⟩
theorem LinesAt.new (h : LinesAt w Fp b n ways L) (k : New w w') : LinesAt w' Fp b n ways L := h.only k fun _ _ => id
theorem LinesAt.lt (h : LinesAt w Fp b n ways L) {g : Nat} (hg : Fp g) : g < w.heap.size := by
  obtain ⟨S, FpR, rs, hB, hS, hR, hP⟩ := h
  rcases (hP.foot g).1 hg with rfl | rfl | hg
  · exact hB.lt
  · exact hS.lt
  · exact hR.lt hg
theorem LinesAt.apart (h : LinesAt w Fp b n ways L) {c : Nat} (hc : w.heap.size ≤ c) : ¬ Fp c := fun hi => by have := h.lt hi; omega
theorem LinesAt.turn {B : Nat} (h : LinesAt w Fp b n ways L) (k : Turn B w w') : LinesAt w' Fp b n ways L := by
  obtain ⟨S, FpR, rs, hB, hS, hR, hP⟩ := h
  exact ⟨S, FpR, rs, hB.turn k, hS.turn k, hR.turn k, hP⟩
theorem LinesAt.bd (h : LinesAt w Fp b n ways L) : 0 < n ∧ n ≤ 64 ∧ 1 ≤ ways ∧ ways ≤ 8 := by
  obtain ⟨S, FpR, rs, hB, hS, hR, hP⟩ := h
  exact hP.bd
theorem LinesAt.fits (h : LinesAt w Fp b n ways L) : Fits n ways L := by
  obtain ⟨S, FpR, rs, hB, hS, hR, hP⟩ := h
  exact hP.fits
end
section
variable {w : World} {F : Nat → Prop} {rs : List Row} {q : Nat} {A : Option Addr} {c : Nat} {l : List Ln}
theorem RowsAt.at_ (h : RowsAt w F rs) (hq : q < rs.length) (hr : rs.getD q r0 = ⟨A, c, l⟩) : Own lnE w A c l := by
  have := h.own hq
  rw [hr] at this
  exact this
theorem RowsAt.splitAt (h : RowsAt w F rs) (hq : q < rs.length) (hr : rs.getD q r0 = ⟨A, c, l⟩) : ∃ F', RowsBut w F' rs q ∧ Own lnE w A c l ∧ (∀ k, inA A k → F' k → False) ∧ (∀ k, F k ↔ F' k ∨ inA A k) := by
  obtain ⟨F', h1, h2, h3⟩ := h.split hq
  rw [hr] at h2 h3
  exact ⟨F', h1, h.at_ hq hr, h2, h3⟩
theorem rows_cellAt {rs : List Row} (hq : q < rs.length) (hr : rs.getD q r0 = ⟨A, c, l⟩) : (rowsArr rs)[q]? = some (.slice A l.length c) := by
  have := rows_cell rs hq
  rw [hr] at this
  exact this
theorem rows_same {l' : List Ln} (hq : q < rs.length) (hr : rs.getD q r0 = ⟨A, c, l⟩) (hl : l'.length = l.length) : rowsArr (rs.set q ⟨A, c, l'⟩) = rowsArr rs := by
  apply Array.toList_inj.1
  show (rs.set q _).map Row.val = rs.map Row.val
  rw [List.map_set]
  apply List.ext_getElem
  · simp
  · intro i h1 h2
    rw [List.getElem_set]
    split
    · rename_i e
      subst e
      have e2 : rs[q] = ⟨A, c, l⟩ := by
        have := hr
        simpa [List.getD, hq] using this
      simp [Row.val, e2, hl]
    · rfl
theorem lines_put {b S n : Nat} {FpT : Nat → Prop} {ways : Int} {L : List Ln} {r : Row} (hB : Blk w b 150 #[.slice (some ⟨S, 0, none⟩) n n, .int .i64 ways]) (hS : Blk w S 40 (rowsArr (rs.set q r))) (hT : RowsBut w FpT rs q) (hO : Own lnE w r.A r.cap r.l) (hq : q < rs.length)
    (ha : ∀ k, inA r.A k → FpT k → False) (ne : NE b S) (hTb : ¬ FpT b) (hTS : ¬ FpT S) (hAb : Apart r.A b) (hAS : Apart r.A S) (hlen : rs.length = n) (hrow : ∀ i, i < n → i ≠ q → (rs.getD i r0).l = ofs n L i) (hl : r.l = ofs n L q) (bd : 0 < n ∧ n ≤ 64 ∧ 1 ≤ ways ∧ ways ≤ 8) (hu : Uniq L) (hf : Fits n ways L) :
    LinesAt w (fun k => k = b ∨ k = S ∨ FpT k ∨ inA r.A k) b n ways L := by
  refine ⟨S, fun k => FpT k ∨ inA r.A k, rs.set q r, hB, hS, hT.join hq hO ha, ne, fun h => h.elim hTb hAb, fun h => h.elim hTS hAS, fun k => Iff.rfl, by rw [List.length_set]; exact hlen, fun i hi => ?_, bd, hu, hf⟩
  rw [getD_setR hq]
  by_cases e : q = i
  · rw [if_pos e, ← e]; exact hl
  · rw [if_neg e]; exact hrow i hi fun h => e h.symm
end
theorem made_rows (n : Nat) : madeCells (Value.slice none 0 0).cells (n * 1) = rowsArr (List.replicate n r0) := by
  have hc : (Value.slice none 0 0).cells = #[.slice none 0 0] := rfl
  apply Array.ext
  · rw [size_madeCells, rows_size, List.length_replicate, Nat.mul_one]
  · intro i h1 h2
    rw [size_madeCells] at h1
    have hr := rows_cell (List.replicate n r0) (i := i) (by rw [List.length_replicate]; omega)
    have e : (List.replicate n r0).getD i r0 = r0 := by
      simp only [List.getD, List.getElem?_replicate]
      split <;> rfl
    rw [e, Array.getElem?_eq_getElem h2, Option.some.injEq] at hr
    rw [hr]
    simp [madeCells, hc, Nat.mod_one, r0]
section
variable {N : Nat × List Deferred} {T : List (Nat × Value)} {a : Act} {w : World} {Q : Exit → Act → World → Prop} {ops : Array Oper} {rest : List Oper} {o : Oper} {d : Nat}
theorem fx_makeRows (fr : Fr N T a) (hw : Region.wanted o (yielded ops a.tmps) = true) (hd : o.dst = some d) (hN : d < N.1) {x y : Operand} (ho : o.op = .makeSlice 148 x y) {k1 k2 : IntKind} {n : Nat} (hx : a.eval x = .int k1 ((n : Nat) : Int)) (hy : a.eval y = .int k2 ((n : Nat) : Int)) (hn : n ≤ 100000)
    (next : ∀ S w1, New w w1 → Blk w1 S 40 (rowsArr (List.replicate n r0)) → w.heap.size ≤ S → ∀ a, Fr N ((d, .slice (some ⟨S, 0, none⟩) n n) :: T) a → wpList Try.prog ops Q rest a w1) : wpList Try.prog ops Q (o :: rest) a w := by
  obtain ⟨i0, hi, hz0, hz1, hz2⟩ := info_parts (show (Try.prog.info? 40).map (fun i => (i.zero, i.size, i.bytes)) = some (some (.slice none 0 0), 1, 24) by kernel_rfl)
  have hr := run_makeSlice (P := Try.prog) w 148 40 i0 _ Try.underlying148 hi hz0 k1 k2 n n (by omega) (by omega) (by rw [hz1]; simp; omega) (by rw [hz2]; omega) (by omega)
  simp only [Int.toNat_natCast] at hr
  rw [hz1, made_rows] at hr
  refine fx_val (v := .slice (some ⟨w.heap.size, 0, none⟩) n n) (w1 := w.alloc (.cells (rowsArr (List.replicate n r0)) 40)) fr hw hd hN ?_ fun a fr => next w.heap.size _ ((Only.refl _ w).alloc _) (Go.heap_alloc_new w _) (Nat.le_refl _) a fr
  simp [execOp, ho, hx, hy, hr]
end
theorem RowsAt.put {w : World} {F : Nat → Prop} {rs : List Row} {q : Nat} (h : RowsAt w F rs) (hq : q < rs.length) (hn : rs.getD q r0 = r0) {A : Option Addr} {c : Nat} {l : List Ln} (hO : Own lnE w A c l) (ha : ∀ k, inA A k → F k → False) : RowsAt w (fun k => F k ∨ inA A k) (rs.set q ⟨A, c, l⟩) := by
  obtain ⟨F', h1, _, h3⟩ := h.split hq
  have hF : F' = F := by
    funext k
    apply propext
    rw [h3 k, hn]
    exact ⟨.inl, fun h => h.elim id fun h => absurd h (apart_none k)⟩
  subst hF
  exact h1.join hq (r := ⟨A, c, l⟩) hO ha
end Go.Proofs.Ytflnlmibkbojcaa
