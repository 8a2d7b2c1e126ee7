/-
  'for x := range seq { .. }', over tables: whatever the body; it may leave by return or break.
-/
import Derived.Test.YtdjgfkjcpalihaaFXcoll
import Derived.Test.YtdjgfkjcpalihaaFXint
import Derived.OrdersIn
import Derived.Test.YtdjgfkjcpalihaaFXne
namespace Go.Proofs.Ytdjgfkjcpalihaa
open Go.RowKit

/-! ### Regions of a round that draw -/
section
variable {P : Program} {a : Act} {w : World} {Q : Exit → Act → World → Prop} {n l : Nat}
theorem any_in {md : Region.Mode} {ops : Array Oper} (hnd : ∀ o ∈ ops, ∀ c, o.op ≠ .defer c) (hlo : ¬ LetsOut Q) : ∀ (fuel : Nat) (listed : Array Bool) (a : Act) (w : World), wpAny P md ops Q fuel listed a w → wpAnyIn (Fence.wide.inRound l) n P md ops Q fuel listed a w
  | 0, _, _, _, h => h
  | fuel + 1, listed, a, w, h => by
    refine ⟨h.1, fun i hi => ?_⟩
    have := h.2 i hi
    unfold wpOp at this
    unfold wpOpIn
    cases ho : ops[i]? with
    | none =>
      rw [ho] at this
      exact any_in hnd hlo fuel _ a w this
    | some o =>
      rw [ho] at this
      simp only [] at this ⊢
      have hm : o ∈ ops := Array.mem_of_getElem? ho
      split
      · rename_i hw
        rw [if_pos hw] at this
        rcases this with h | ⟨_, h⟩
        · exact oper_in (hnd o hm) (Oper.wp_mono (fun a w h => any_in hnd hlo fuel _ a w h) h) hlo
        · exact absurd h hlo
      · rename_i hw
        rw [if_neg hw] at this
        exact ⟨fun _ _ => trivial, any_in hnd hlo fuel _ _ w this⟩
theorem noDefer_arr {ops : List Oper} (h : noDefer ops = true) : ∀ o ∈ ops.toArray, ∀ c, o.op ≠ .defer c := fun o ho => noDefer_at h o (by simpa using ho)
theorem fxr_held {id k : Nat} {ops : List Oper} (hnd : noDefer ops = true) (hlo : ¬ LetsOut Q) (S : World → Prop) (hm : P.follows .mixedOrders = true) (hn : ops.length = k) (h : ∀ w1, New w w1 → wpAnyH P .any ops.toArray Q S k (Array.replicate k false) a w1) :
    (Code.region id ops.toArray true).wpIn (Fence.wide.inRound l) n P Q a w := by
  subst hn
  refine wpIn_region_any hm (any_in (noDefer_arr hnd) hlo _ _ _ _ ?_)
  have := wpAny_of_held _ _ _ _ (h w.drew ((Only.refl _ w).drew))
  simpa using this
theorem fxr_heldT {id n' k : Nat} {ops : List Oper} (hnd : noDefer ops = true) (hlo : ¬ LetsOut Q) (S : World → Prop) (hm : P.follows .mixedOrders = true) (hB : headOk ops.toArray k = true) (hn : (ops.take k).length = n')
    (h : ∀ w1, New w w1 → wpAnyH P .any (ops.take k).toArray (tailQ P ops.toArray Q k) S n' (Array.replicate n' false) a w1) : (Code.region id ops.toArray true).wpIn (Fence.wide.inRound l) n P Q a w := by
  refine wpIn_region_any hm (any_in (noDefer_arr hnd) hlo _ _ _ _ ?_)
  have hk := headOk_le hB
  have hn' : n' = k := by rw [← hn, List.length_take]; simp at hk; omega
  subst hn'
  have h1 := wpAny_of_held _ _ _ _ (h w.drew ((Only.refl _ w).drew))
  have h2 := wpAny_head (P := P) (Q := Q) hB n' (Array.replicate n' false) (Array.replicate ops.toArray.size false) a w.drew (by simp) (by simp) (fun j hj => ?_) (fun j hj => ?_) h1
  · rw [Nat.add_sub_cancel' hk] at h2
    exact h2
  · rw [Array.getD_eq_getD_getElem?, Array.getD_eq_getD_getElem?, Array.getElem?_replicate, Array.getElem?_replicate]
    split <;> (try split) <;> rfl
  · rw [Array.getD_eq_getD_getElem?, Array.getElem?_replicate]
    split <;> rfl
end
section
variable {P : Program} {N : Nat × List Deferred} {T : List (Nat × Value)} {a : Act} {w : World} {Q : Exit → Act → World → Prop} {n l : Nat}
theorem fxr_cond {x y : Code} {t : Nat} {b : Bool} (fr : Fr N T a) (hc : look T t = some (.bool b)) (ht : b = true → x.wpIn (Fence.wide.inRound l) n P Q a w) (hf : b = false → y.wpIn (Fence.wide.inRound l) n P Q a w) : (Code.cond (.tmp t) x y).wpIn (Fence.wide.inRound l) n P Q a w :=
  wpIn_cond_split (fr.ev hc) ht hf
theorem fxr_cond_t {x y : Code} {t : Nat} (fr : Fr N T a) (hc : look T t = some (.bool true)) (h : x.wpIn (Fence.wide.inRound l) n P Q a w) : (Code.cond (.tmp t) x y).wpIn (Fence.wide.inRound l) n P Q a w := wpIn_cond_true (fr.ev hc) h
theorem fxr_cond_f {x y : Code} {t : Nat} (fr : Fr N T a) (hc : look T t = some (.bool false)) (h : y.wpIn (Fence.wide.inRound l) n P Q a w) : (Code.cond (.tmp t) x y).wpIn (Fence.wide.inRound l) n P Q a w := wpIn_cond_false (fr.ev hc) h
end

/-! ### The loop -/
/-- What turns blocks that hold no cells, from B on, keeps it. -/
def Turns {β : Type} (B : Nat) (I : β → World → Prop) : Prop := ∀ s w w', I s w → Turn B w w' → I s w'
theorem Turns.own {β : Type} {B : Nat} {I : β → World → Prop} (h : Turns B I) : OwnFrom B I := fun s A A' row hs hg hr =>
  h s A A' hs ((only_of_grown hg).mono fun k _ hk => by
    obtain ⟨h1, o, h2, h3⟩ := hr k hk.symm
    exact ⟨h1, o, h2, h3⟩)
/-- A round's steps: only blocks of cells that it may write, and new ones. -/
def Step (SI : Nat → Prop) (W W' : World) : Prop := ∃ S, Only S W W' ∧ ∀ k, k < W.heap.size → S k → SI k ∧ ∃ o : Obj, W.heap[k]? = some o ∧ o.isCells = true
theorem Blk.cells {w : World} {b t : Nat} {cs : Array Value} (h : Blk w b t cs) : ∃ o : Obj, w.heap[b]? = some o ∧ o.isCells = true := ⟨_, h, rfl⟩
theorem Step.new {SI : Nat → Prop} {W W' : World} (h : New W W') : Step SI W W' := ⟨_, h, fun _ _ h => h.elim⟩
def roundQ {α : Type} (SI : Nat → Prop) (I : List α → World → Prop) (Ix : Code → List α → World → Prop) (xs : List α) (W : World) : Exit → Act → World → Prop
  | .normal, _, W' => Step SI W W' ∧ I xs W'
  | .ret, _, W' => Step SI W W' ∧ Ix .ret xs W'
  | .exit id, _, W' => Step SI W W' ∧ Ix (.exit id) xs W'
  | .goto _, _, _ => False
  | .panic _, _, _ => False
  | .outgrown, _, _ => False
theorem Step.only {SI : Nat → Prop} {W W' : World} (h : Step SI W W') : Only SI W W' := by
  obtain ⟨S, h1, h2⟩ := h
  exact h1.mono fun k hk hs => (h2 k hk hs).1
theorem Step.keeps {SI : Nat → Prop} {W W' : World} (h : Step SI W W') (B : Nat) : KeepsFrom B W W' := by
  obtain ⟨S, h1, h2⟩ := h
  exact keepsFrom_of_only h1 fun k hk hs => (h2 k hk hs).2
section
variable {P : Program} {N : Nat × List Deferred} {T : List (Nat × Value)} {a : Act} {w : World} {Q : Exit → Act → World → Prop}
theorem fx_range {α : Type} {xs : List α} {e : α → Value} (fr : Fr N T a) {tg p gf : Nat} {lb : Array Value} (hg : look T tg = some (.func (.func gf) #[] lb)) (hp : p < N.1) (eg : ∀ (args : Array Value) (w : World), (callFunc gf args).run P w = .ok (.enter gf args) w)
    {SI : Nat → Prop} (hSI : ∀ k, w.heap.size ≤ k → SI k) (hseq : SeqStopsK Fence.wide 8 P gf lb (fun x => #[e x]) (Only SI) (fun ys => ys = xs) (fun pre => pre <+: xs) xs.length w)
    (I : List α → World → Prop) (Ix : Code → List α → World → Prop) (Ax : α → Act → World → Prop) (hI : Turns w.heap.size I) (hIx : ∀ c, Turns w.heap.size (Ix c)) (hAx : ∀ x a', Turns w.heap.size fun (_ : Unit) W => Ax x a' W) (hIn : ∀ s w w', I s w → New w w' → I s w') (h0 : I [] w)
    {assign body : Code} (hassign : ∀ (l : Nat) (pre : List α) (x : α) (W : World) (K : Act → World → Prop), I pre W → (∀ a' W', New W W' → Ax x a' W' → K a' W') → ∀ a0, Fr (N.1, []) ((p, e x) :: T) a0 → assign.wpIn (Fence.wide.inRound l) 7 P (Exit.then K (fun _ _ _ => False)) a0 W)
    (hbody : ∀ (l : Nat) (pre : List α) (x : α) (a' : Act) (W : World), I pre W → Ax x a' W → pre.length < xs.length → body.wpIn (Fence.wide.inRound l) 7 P (roundQ SI I Ix (pre ++ [x]) W) a' W)
    (next : ∀ D W, w.heap.size ≤ D → I xs W → MarkAt W D → ∀ a, Fr (N.1, { target := .collected D, args := #[] } :: N.2) T a → Q .normal a W)
    (stop : ∀ D c pre W, w.heap.size ≤ D → pre <+: xs → Ix c pre W → MarkAt W D → ∀ a, Fr (N.1, { target := .collected D, args := #[] } :: N.2) T a → c.wp P Q a W) :
    (Code.rangeFunc (.tmp tg) #[p] assign body).wp P Q a w := by
  have frD : ∀ D, Fr (N.1, { target := .collected D, args := #[] } :: N.2) T { a with defers := { target := .collected D, args := #[] } :: a.defers } := fun D => ⟨by show _ :: a.defers = _ :: N.2; rw [fr.df], fr.sz, fr.get⟩
  refine (wpIn_wide (n := 9)).1 (wpIn_rangeFunc_ownH (F := Fence.wide) (n := 9) rfl (by decide) (gf := gf) (lb := lb) (fr.ev hg) trivial eg hseq (fun h k => h.tr k) ?_ (Below.refl _ _) (fun _ => rfl) I Ix hI.own (fun c => (hIx c).own) h0 Ax (fun x a' => (hAx x a').own) ?_ ?_ ?_ ?_)
  · intro W l o o' hl hh _ _
    exact (only_of_grown (grownBy_putObj' W l o')).mono fun k _ hk => by
      cases hk
      exact hSI _ hl
  · intro l pre x W K hi hK
    have hf0 := fr.put p (e x) hp
    have he : ((#[p] : Array Nat).zip #[e x]).foldl (fun t (p, v) => t.setIfInBounds p v) a.tmps = (a.put (some p) (e x)).tmps := by simp [Act.put]
    refine hassign l pre x W K hi (fun a' W' hn hax => hK a' W' (keepsFrom_of_only hn fun _ _ h => h.elim) (hn.mono fun _ _ h => h.elim) (hIn _ _ _ hi hn) hax) _ ?_
    rw [he]
    exact ⟨rfl, hf0.sz, hf0.get⟩
  · intro l pre x a' W _ _ hi hax hlen
    refine wpIn_mono (hbody l pre x a' W hi hax hlen) ?_
    intro ex a3 W3 h
    cases ex with
    | normal => exact ⟨h.1.keeps _, h.1.only, h.2⟩
    | ret => exact ⟨h.1.keeps _, h.2⟩
    | exit id => exact ⟨h.1.keeps _, h.2⟩
    | goto t => exact h.elim
    | panic c => exact h.elim
    | outgrown => exact h.elim
  · intro D ys W hD hys hi hK
    subst hys
    exact next D W hD hi hK _ (frD D)
  · intro D c pre W hD hsp hi hK
    exact wpIn_wide.2 (stop D c pre W hD hsp hi hK _ (frD D))
end
/-! ### A call in a region with a call of yield -/
section
variable {P : Program} {N : Nat × List Deferred} {T : List (Nat × Value)} {a : Act} {w : World} {Q : Exit → Act → World → Prop} {ops : Array Oper} {rest : List Oper} {o : Oper} {d n : Nat}
theorem fxi_call (fr : Fr N T a) (hw : Region.wanted o (yielded ops a.tmps) = true) (hd : o.dst = some d) (hN : d < N.1) {f : FuncId} {args : Array Value} (hrun : (execOp a.eval o).run P w = .ok (.enter f args) w) {R : Value → World → Prop}
    (hc : Calls P f args w (Ret R)) (next : ∀ v w1, R v w1 → ∀ a, Fr N ((d, v) :: T) a → wpListIn Fence.wide n P ops Q rest a w1) : wpListIn Fence.wide n P ops Q (o :: rest) a w := by
  unfold wpListIn
  rw [if_pos hw]
  refine ⟨fun _ _ => trivial, ?_⟩
  show o.uponIn _ n P a _ Q ((o.semAt none a.eval).run P w)
  rw [Oper.semAt_none, hrun]
  refine ⟨fun hd => (by cases hd), callsIn_wide.2 (hc.mono fun e w' ⟨v, he, hr⟩ => ?_)⟩
  subst he
  refine next v w' hr _ ?_
  rw [hd]
  exact fr.put d v hN
end

/-! ### A whole record is stored into an owned row -/
section
variable {P : Program} {α : Type} [DecidableEq α] {E : Enc P α}
theorem flat_setRec {x' : α} : ∀ (l : List α) (j : Nat), j < l.length → (l.set j x').flatMap E.cells = (l.flatMap E.cells).take (j * E.n) ++ (E.cells x' ++ (l.flatMap E.cells).drop (j * E.n + E.n))
  | [], j, h => by simp at h
  | x :: l, 0, _ => by
    simp only [List.set_cons_zero, List.flatMap_cons, Nat.zero_mul, List.take_zero, List.nil_append, Nat.zero_add]
    rw [List.drop_append, List.drop_eq_nil_of_le (by rw [E.len]; exact Nat.le_refl _), E.len, Nat.sub_self, List.drop_zero, List.nil_append]
  | x :: l, j + 1, h => by
    have ih := flat_setRec (x' := x') l j (by simpa using h)
    have e : (j + 1) * E.n = E.n + j * E.n := by rw [Nat.succ_mul, Nat.add_comm]
    simp only [List.set_cons_succ, List.flatMap_cons, ih, e]
    have hx0 : (E.cells x).drop (E.n + j * E.n + E.n) = [] := List.drop_eq_nil_of_le (by rw [E.len]; omega)
    rw [List.take_append, List.take_of_length_le (l := E.cells x) (by rw [E.len]; omega), E.len, Nat.add_sub_cancel_left, List.drop_append, hx0, E.len, List.nil_append, show E.n + j * E.n + E.n - E.n = j * E.n + E.n by omega, List.append_assoc]
variable {N : Nat × List Deferred} {T : List (Nat × Value)} {a : Act} {w : World} {Q : Exit → Act → World → Prop} {ops : Array Oper} {rest : List Oper} {o : Oper} {t : TypeId}
theorem fx_storeRec {A : Option Addr} {g o' cap j : Nat} {l : List α} {x' : α} {x y : Operand} (hs : (P.info? t).map (·.size) = some E.n) (hw : Region.wanted o (yielded ops a.tmps) = true) (hd : o.dst = none) (ho : o.op = .store t x y) (hA : A = some ⟨g, o', none⟩) (hO : Own E w A cap l) (hj : j < l.length)
    {ad : Nat} (hx : a.eval x = .pointer (some ⟨g, ad, none⟩)) (had : o' + j * E.n = ad) (hy : a.eval y = .agg (E.arr x'))
    (next : ∀ w1, Only (inA A) w w1 → Own E w1 A cap (l.set j x') → wpList P ops Q rest a w1) : wpList P ops Q (o :: rest) a w := by
  subst had
  obtain ⟨h1, h2, ⟨h3, _⟩ | ⟨g', o2, cs, h3, hB, hs', ht⟩⟩ := hO
  · rw [hA] at h3; cases h3
  rw [hA] at h3
  cases h3
  have hjn : j * E.n + E.n ≤ l.length * E.n := by
    rw [← Nat.succ_mul]
    exact Nat.mul_le_mul_right _ (by omega)
  have hle : l.length * E.n ≤ cap * E.n := Nat.mul_le_mul_right _ h1
  have hcl : cs.toList.length = cs.size := Array.length_toList
  refine fx_storeAt (t := t) hs hw hd ho hx hy (E.all _) hB (E.size _) (by omega) rfl fun w1 hO1 hB1 => next w1 (hO1.mono fun k _ hk => ⟨o', by rw [hA, hk]⟩) ⟨by simpa using h1, h2, .inr ⟨g, o', _, hA, hB1, ?_, ?_⟩⟩
  · simp only [List.size_toArray, List.length_append, List.length_take, List.length_drop, Array.length_toList, E.size]
    omega
  · have e1 : (l.set j x').length = l.length := List.length_set
    rw [e1, flat_setRec l j hj, ← ht, E.toList]
    have hm : (cs.toList.take (o' + j * E.n)).length = o' + j * E.n := by rw [List.length_take]; omega
    have hc : (E.cells x').length = E.n := E.len _
    rw [List.append_assoc, List.drop_append, hm, show o' - (o' + j * E.n) = 0 by omega, List.drop_zero, List.drop_take, show o' + j * E.n - o' = j * E.n by omega]
    have h9 : ((cs.toList.drop o').take (j * E.n)).length = j * E.n := by rw [List.length_take, List.length_drop]; omega
    have a1 : l.length * E.n - j * E.n - E.n = l.length * E.n - (j * E.n + E.n) := by omega
    have a2 : o' + j * E.n + E.n = o' + (j * E.n + E.n) := by omega
    rw [List.take_append, h9, List.take_of_length_le (by omega), List.take_append, hc, List.take_of_length_le (l := E.cells x') (by omega), List.take_take, Nat.min_eq_left (by omega), List.drop_take, List.drop_drop, a1, a2]
end
/-! ### Small ones -/
section
variable {P : Program} {w : World} {ev : Operand → Value} {o : Oper} {x y : Operand} {k : IntKind} {m n r : Int}
theorem x_min {ts : Array TypeId} (ho : o.op = .call { callee := .builtin .min, args := #[x, y], argTypes := ts }) (hx : ev x = .int k m) (hy : ev y = .int k n) (hr : min m n = r) : (execOp ev o).run P w = .ok (.value (.int k r)) w := by
  subst hr
  simp [execOp, ho, hx, hy, resolve, invoke, builtin, Builtin.min_, Builtin.min2]
  omega
theorem x_max {ts : Array TypeId} (ho : o.op = .call { callee := .builtin .max, args := #[x, y], argTypes := ts }) (hx : ev x = .int k m) (hy : ev y = .int k n) (hr : max m n = r) : (execOp ev o).run P w = .ok (.value (.int k r)) w := by
  subst hr
  simp [execOp, ho, hx, hy, resolve, invoke, builtin, Builtin.max_, Builtin.max2]
  omega
theorem x_loadV1 {t : TypeId} {ad : Addr} {v : Value} (ht : plainT P t = true) (hc : w.cell? ad = some v) : (loadVar t ad).run P w = .ok v w := by
  have := run_load_one (P := P) ht hc
  simpa [Instr.loadAt, Instr.sureAddr] using this
end
/-! ### Marks lie apart from cells -/
theorem Blk.mark {w : World} {b t D : Nat} {cs : Array Value} (h : Blk w b t cs) (k : MarkAt w D) : NE b D := fun e => by
  subst e
  have h : w.heap[b]? = some (.cells cs t (0, 0)) := h
  rw [show w.heap[b]? = _ from k] at h
  cases h
theorem Own.mark {P : Program} {α : Type} [DecidableEq α] {E : Enc P α} {w : World} {A : Option Addr} {cap D : Nat} {l : List α} (h : Own E w A cap l) (k : MarkAt w D) : Apart A D := fun hi => by
  obtain ⟨o, ho, hc⟩ := h.cells hi
  rw [show w.heap[D]? = _ from k] at ho
  cases ho
  cases hc
theorem ext_getD {α : Type} (d : α) {l l' : List α} (h1 : l.length = l'.length) (h2 : ∀ j, j < l.length → l.getD j d = l'.getD j d) : l = l' := by
  refine List.ext_getElem h1 fun i hi hi' => ?_
  have := h2 i hi
  simpa [List.getD, hi, hi'] using this
theorem Only.locS {S T : Nat → Prop} {a w w' : World} (h : Only S a w) (k : Only T w w') (hT : ∀ i, T i → S i ∨ a.heap.size ≤ i) : Only S a w' :=
  h.trans k fun i hi ht => (hT i ht).elim id fun h => by omega
/-! ### Footprints: predicates on blocks -/
section
variable {w : World} {p p' q : Nat → Prop} {b : Nat} {S : Nat → Prop} {a w' : World}
theorem moved_apartP (h : ∀ g, p' g → p g ∨ w.heap.size ≤ g) (ha : ¬ p b) (hb : b < w.heap.size) : ¬ p' b := fun hi => (h b hi).elim ha fun h => by omega
theorem moved_apart2P (h : ∀ g, p' g → p g ∨ w.heap.size ≤ g) (ha : ∀ k, p k → q k → False) (hb : ∀ g, q g → g < w.heap.size) : ∀ k, p' k → q k → False := fun k h1 h2 => (h k h1).elim (fun h => ha k h h2) fun h => by have := hb k h2; omega
theorem new_apartP (h : ∀ g, p g → w.heap.size ≤ g) (hb : b < w.heap.size) : ¬ p b := fun hi => by have := h b hi; omega
theorem new_apart2P (h : ∀ g, p g → w.heap.size ≤ g) (hb : ∀ g, q g → g < w.heap.size) : ∀ k, p k → q k → False := fun k h1 h2 => by have := h k h1; have := hb k h2; omega
theorem symP (h : ∀ k, p k → q k → False) : ∀ k, q k → p k → False := fun k h1 h2 => h k h2 h1
theorem ne1P (h : ¬ p b) : ∀ g, p g → ¬ g = b := fun _ hg he => h (he ▸ hg)
theorem Only.locP (h : Only S a w) (k : Only p w w') (hA : ∀ g, p g → S g ∨ a.heap.size ≤ g) : Only S a w' := h.locS k hA
theorem gA_newP (hF : Only S a w) (h : ∀ g, p g → w.heap.size ≤ g) : ∀ g, p g → S g ∨ a.heap.size ≤ g := fun g hg => .inr (Nat.le_trans hF.size (h g hg))
theorem gA_movedP (hF : Only S a w) (h : ∀ g, p' g → p g ∨ w.heap.size ≤ g) (hA : ∀ g, p g → S g ∨ a.heap.size ≤ g) : ∀ g, p' g → S g ∨ a.heap.size ≤ g := fun g hg => (h g hg).elim (hA g) fun h => .inr (Nat.le_trans hF.size h)
end
end Go.Proofs.Ytdjgfkjcpalihaa
