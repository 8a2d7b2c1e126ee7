/-
  A walk by tables: a frame is known by a table of slots, a world by facts; each operation by one step. Small laws for printed walks.
-/
import Derived.Test.YtdjgfkjcpalihaaRegionFacts
namespace Go.Proofs.Ytdjgfkjcpalihaa
open Go.RowKit

/-- What a slot holds, by a table. -/
def look : List (Nat × Value) → Nat → Option Value
  | [], _ => none
  | (k, v) :: r, t => bif Nat.beq k t then some v else look r t

theorem look_cons (k : Nat) (v : Value) (r : List (Nat × Value)) (t : Nat) : look ((k, v) :: r) t = if k = t then some v else look r t := by
  show (bif Nat.beq k t then some v else look r t) = _
  by_cases h : k = t
  · subst h; simp
  · rw [if_neg h]
    have : Nat.beq k t = false := by
      cases hq : Nat.beq k t with
      | false => rfl
      | true => exact absurd (Nat.eq_of_beq_eq_true hq) h
    rw [this]; rfl

/-- The frame as far as the table tells. -/
structure Fr (N : Nat × List Deferred) (T : List (Nat × Value)) (a : Act) : Prop where
  df : a.defers = N.2
  sz : a.tmps.size = N.1
  get : ∀ t v, look T t = some v → a.tmps.getD t undef = v

/-- The second table says no more than the first. -/
def Sub (T : List (Nat × Value)) : List (Nat × Value) → Prop
  | [] => True
  | (t, v) :: r => look T t = some v ∧ Sub T r

section
variable {N : Nat × List Deferred} {T T' : List (Nat × Value)} {a : Act}
theorem Sub.look (h : Sub T T') {t : Nat} {v : Value} (hl : Go.Proofs.Ytdjgfkjcpalihaa.look T' t = some v) : Go.Proofs.Ytdjgfkjcpalihaa.look T t = some v := by
  induction T' with
  | nil => simp [Go.Proofs.Ytdjgfkjcpalihaa.look] at hl
  | cons p r ih =>
    obtain ⟨k, u⟩ := p
    rw [look_cons] at hl
    by_cases hk : k = t
    · rw [if_pos hk] at hl
      obtain rfl : u = v := by simpa using hl
      rw [← hk]
      exact h.1
    · rw [if_neg hk] at hl
      exact ih h.2 hl
theorem Fr.sub (fr : Fr N T a) (h : Sub T T') : Fr N T' a := ⟨fr.df, fr.sz, fun t v hl => fr.get t v (h.look hl)⟩
theorem Fr.ev (fr : Fr N T a) {t : Nat} {v : Value} (h : look T t = some v) : a.eval (.tmp t) = v := fr.get t v h
theorem Fr.at_ (fr : Fr N T a) {t : Nat} {v : Value} (h : look T t = some v) : a.tmps[t]?.getD undef = v := by
  rw [← Array.getD_eq_getD_getElem?]; exact fr.get t v h
theorem Fr.put (fr : Fr N T a) (d : Nat) (v : Value) (hd : d < N.1) : Fr N ((d, v) :: T) (a.put (some d) v) := by
  refine ⟨fr.df, by simpa [Act.put] using fr.sz, fun t u hl => ?_⟩
  rw [look_cons] at hl
  by_cases hk : d = t
  · rw [if_pos hk] at hl
    subst hk
    rw [getD_put_same (by rw [fr.sz]; exact hd)]
    simpa using hl
  · rw [if_neg hk] at hl
    rw [getD_put_other hk]
    exact fr.get t u hl

/-- The arguments' table. -/
def Args (args : Array Value) : List (Nat × Value) → Prop
  | [] => True
  | (t, v) :: r => args[t]? = some v ∧ Args args r
theorem Args.look {args : Array Value} (h : Args args T) {t : Nat} {v : Value} (hl : Go.Proofs.Ytdjgfkjcpalihaa.look T t = some v) : args[t]? = some v := by
  induction T with
  | nil => simp [Go.Proofs.Ytdjgfkjcpalihaa.look] at hl
  | cons p r ih =>
    obtain ⟨k, u⟩ := p
    rw [look_cons] at hl
    by_cases hk : k = t
    · rw [if_pos hk] at hl
      obtain rfl : u = v := by simpa using hl
      rw [← hk]
      exact h.1
    · rw [if_neg hk] at hl
      exact ih h.2 hl
end

/-- What a call returns, and what has become of the world. -/
def Ret (R : Value → World → Prop) (e : Ending) (w : World) : Prop := ∃ v, e = .returned v ∧ R v w

section
variable {P : Program} {N : Nat × List Deferred} {T : List (Nat × Value)} {a : Act} {w w1 : World} {Q : Exit → Act → World → Prop} {ops : Array Oper} {rest : List Oper} {o : Oper} {d : Nat} {v : Value}

theorem fx_enter {f : FuncId} {fn : Func} {c : Code} {args : Array Value} {R : Ending → World → Prop} (hf : P.funcs[f]? = some fn) (hb : fn.body = some c) (hN : (fn.ntmps, []) = N) (hle : args.size ≤ N.1) (hT : Args args T)
    (h : ∀ a, Fr N T a → c.wp P (bodyPost P fn R) a w) : Calls P f args w R := by
  subst hN
  refine calls_of_wp hf hb (h _ ⟨rfl, ?_, fun t v hl => ?_⟩)
  · simp at hle ⊢; omega
  · have := hT.look hl
    have hlt : t < args.size := (Array.getElem?_eq_some_iff.1 this).1
    simp [Array.getElem?_append_left hlt, this]

theorem Fr.want (fr : Fr N T a) {j t : Nat} {b : Bool} (hg : o.guard = some (j, b)) (hj : dstAt ops j = some t) (h : look T t = some (.bool b)) : Region.wanted o (yielded ops a.tmps) = true := by
  simp [Region.wanted, hg, yielded_of hj (fr.get t _ h)]
theorem Fr.unwant (fr : Fr N T a) {j t : Nat} {b c : Bool} (hg : o.guard = some (j, b)) (hj : dstAt ops j = some t) (h : look T t = some (.bool c)) (hne : c ≠ b) : Region.wanted o (yielded ops a.tmps) = false := by
  simp [Region.wanted, hg, yielded_of hj (fr.get t _ h), hne]
theorem Fr.unwant_u (fr : Fr N T a) {j t : Nat} {b : Bool} (hg : o.guard = some (j, b)) (hj : dstAt ops j = some t) (h : look T t = some undef) : Region.wanted o (yielded ops a.tmps) = false := by
  have h := fr.get t _ h
  have hy : yielded ops a.tmps j = none := by
    unfold yielded
    unfold dstAt at hj
    rw [hj]
    cases hq : a.tmps[t]? with
    | none => simp [hq]
    | some v => simp [hq] at h; subst h; simp [hq, undef]
  simp [Region.wanted, hg, hy]

theorem fx_val (fr : Fr N T a) (hw : Region.wanted o (yielded ops a.tmps) = true) (hd : o.dst = some d) (hN : d < N.1) (hrun : (execOp a.eval o).run P w = .ok (.value v) w1)
    (next : ∀ a, Fr N ((d, v) :: T) a → wpList P ops Q rest a w1) : wpList P ops Q (o :: rest) a w :=
  wpList_step fun K hK => by
    rw [if_pos hw]
    unfold Oper.wp
    rw [hrun]
    refine hK _ _ (next _ ?_)
    rw [hd]
    exact fr.put d v hN
theorem fx_skip (fr : Fr N T a) (hw : Region.wanted o (yielded ops a.tmps) = false) (hd : o.dst = some d) (hN : d < N.1)
    (next : ∀ a, Fr N ((d, undef) :: T) a → wpList P ops Q rest a w) : wpList P ops Q (o :: rest) a w :=
  wpList_step fun K hK => by
    rw [if_neg (by rw [hw]; exact Bool.false_ne_true)]
    refine hK _ _ (next _ ?_)
    rw [hd]
    exact fr.put d undef hN
theorem fx_skip0 (hw : Region.wanted o (yielded ops a.tmps) = false) (hd : o.dst = none) (next : wpList P ops Q rest a w) : wpList P ops Q (o :: rest) a w :=
  wpList_step fun K hK => by
    rw [if_neg (by rw [hw]; exact Bool.false_ne_true)]
    refine hK _ _ ?_
    rw [hd]
    exact next
theorem fx_eff (hw : Region.wanted o (yielded ops a.tmps) = true) (hd : o.dst = none) (hrun : (execOp a.eval o).run P w = .ok .skip w1) (next : wpList P ops Q rest a w1) : wpList P ops Q (o :: rest) a w :=
  wpList_step fun K hK => by
    rw [if_pos hw]
    unfold Oper.wp
    rw [hrun]
    refine hK _ _ ?_
    rw [hd]
    exact next
theorem fx_call (fr : Fr N T a) (hw : Region.wanted o (yielded ops a.tmps) = true) (hd : o.dst = some d) (hN : d < N.1) {f : FuncId} {args : Array Value} (hrun : (execOp a.eval o).run P w = .ok (.enter f args) w) {R : Value → World → Prop}
    (hc : Calls P f args w (Ret R)) (next : ∀ v w1, R v w1 → ∀ a, Fr N ((d, v) :: T) a → wpList P ops Q rest a w1) : wpList P ops Q (o :: rest) a w :=
  wpList_step fun K hK => by
    rw [if_pos hw]
    unfold Oper.wp
    rw [hrun]
    refine hc.mono fun e w' ⟨v, he, hr⟩ => ?_
    subst he
    refine hK _ _ (next v w' hr _ ?_)
    rw [hd]
    exact fr.put d v hN

theorem fx_cond {x y : Code} {t : Nat} {b : Bool} (fr : Fr N T a) (hc : look T t = some (.bool b)) (ht : b = true → x.wp P Q a w) (hf : b = false → y.wp P Q a w) : (Code.cond (.tmp t) x y).wp P Q a w :=
  wp_cond_split (fr.ev hc) ht hf
theorem fx_cond_t {x y : Code} {t : Nat} (fr : Fr N T a) (hc : look T t = some (.bool true)) (h : x.wp P Q a w) : (Code.cond (.tmp t) x y).wp P Q a w := wp_cond_true (fr.ev hc) h
theorem fx_cond_f {x y : Code} {t : Nat} (fr : Fr N T a) (hc : look T t = some (.bool false)) (h : y.wp P Q a w) : (Code.cond (.tmp t) x y).wp P Q a w := wp_cond_false (fr.ev hc) h
theorem fx_next {K : Act → World → Prop} (h : K a w) : Exit.then K Q .normal a w := h
theorem fx_blk {id : Nat} (h : Q .normal a w) : Exit.inBlock id Q .normal a w := h
theorem fx_xt {id : Nat} {K : Act → World → Prop} (h : Q (.exit id) a w) : Exit.then K Q (.exit id) a w := h
theorem fx_xb {id j : Nat} (hne : id ≠ j) (h : Q (.exit id) a w) : Exit.inBlock j Q (.exit id) a w := by
  show (if id = j then Q .normal a w else Q (.exit id) a w)
  rw [if_neg hne]; exact h
theorem fx_xx {id : Nat} (h : Q .normal a w) : Exit.inBlock id Q (.exit id) a w := by
  show (if id = id then Q .normal a w else Q (.exit id) a w)
  rw [if_pos rfl]; exact h
theorem fx_rt {K : Act → World → Prop} (h : Q .ret a w) : Exit.then K Q .ret a w := h
theorem fx_rb {id : Nat} (h : Q .ret a w) : Exit.inBlock id Q .ret a w := h

theorem exists_min (p : Nat → Prop) : ∀ n, p n → ∃ m, p m ∧ ∀ k, p k → m ≤ k := by
  intro n
  induction n using Nat.strongRecOn with
  | _ n ih =>
    intro hn
    by_cases h : ∃ k, k < n ∧ p k
    · obtain ⟨k, hk, hp⟩ := h
      exact ih k hk hp
    · refine ⟨n, hn, fun k hk => ?_⟩
      rcases Nat.lt_or_ge k n with hlt | hge
      · exact absurd ⟨k, hlt, hk⟩ h
      · exact hge
open Classical in
/-- The least number with the property. -/
noncomputable def leastOf (p : Nat → Prop) : Nat := if h : ∃ m, p m ∧ ∀ k, p k → m ≤ k then h.choose else 0
theorem leastOf_spec {p : Nat → Prop} {n : Nat} (h : p n) : p (leastOf p) ∧ ∀ k, p k → leastOf p ≤ k := by
  have hm := exists_min p n h
  unfold leastOf
  rw [dif_pos hm]
  exact hm.choose_spec

/-- A loop, by a relation with a number that goes down. -/
theorem fx_loop {c : Code} (I : Nat → Act → World → Prop) {n0 : Nat} (h0 : I n0 a w) (round : ∀ n a w, I n a w → c.wp P (Exit.then (fun a' w' => ∃ m, m < n ∧ I m a' w') Q) a w) : (Code.loop c).wp P Q a w := by
  refine wp_loop (fun a w => ∃ n, I n a w) (fun a w => leastOf fun n => I n a w) ⟨n0, h0⟩ fun a w h => ?_
  obtain ⟨n, hn⟩ := h
  have hs := leastOf_spec (p := fun n => I n a w) hn
  refine Code.wp_mono ?_ (round _ a w hs.1)
  intro e a' w' he
  cases e with
  | normal =>
    obtain ⟨m, hm, hI⟩ := he
    exact ⟨⟨m, hI⟩, Nat.lt_of_le_of_lt ((leastOf_spec (p := fun n => I n a' w') hI).2 m hI) hm⟩
  | _ => exact he

/-- Ways that meet again. -/
theorem fx_join {x y : Code} (J : Act → World → Prop) (h1 : x.wp P (Exit.then J Q) a w) (h2 : ∀ a w, J a w → y.wp P Q a w) : (Code.seq x y).wp P Q a w := by
  refine wp_seq (Code.wp_mono ?_ h1)
  intro e a' w' he
  cases e with
  | normal => exact h2 a' w' he
  | _ => exact he

/-! ### The return -/
/-- What the results read as. -/
def Res (P : Program) (w : World) (T : List (Nat × Value)) : List ResultVar → List Value → Prop
  | [], [] => True
  | .tmp t :: r, v :: vs => look T t = some v ∧ Res P w T r vs
  | .cell t ty :: r, v :: vs => (∃ ad, look T t = some (.pointer (some ad)) ∧ (loadVar ty ad).run P w = .ok v w) ∧ Res P w T r vs
  | _, _ => False
theorem run_asAddr' (ad : Addr) : (asAddr (.pointer (some ad))).run P w = .ok ad w := rfl
theorem res_run (fr : Fr N T a) (f : ResultVar → Sem Value) (hf1 : ∀ t, f (.tmp t) = pure (a.tmps.getD t undef)) (hf2 : ∀ t ty, f (.cell t ty) = (do loadVar ty (← asAddr (a.tmps.getD t undef)))) :
    ∀ (rs : List ResultVar) (vs : List Value), Res P w T rs vs → (rs.mapM f).run P w = .ok vs w
  | [], [], _ => by simp
  | .tmp t :: r, v :: vs, h => by
    have h1 := fr.get t v h.1
    have := res_run fr f hf1 hf2 r vs h.2
    simp only [List.mapM_cons, Sem.run_bind, Sem.run_pure, Result.andThen_ok, hf1, h1, this]
  | .cell t ty :: r, v :: vs, h => by
    obtain ⟨⟨ad, h1, h2⟩, h3⟩ := h
    have h1 := fr.get t _ h1
    have := res_run fr f hf1 hf2 r vs h3
    simp only [List.mapM_cons, Sem.run_bind, Sem.run_pure, Result.andThen_ok, hf2, h1, run_asAddr', h2, this]
  | [], _ :: _, h => h.elim
  | .tmp _ :: _, [], h => h.elim
  | .cell _ _ :: _, [], h => h.elim
theorem results_run (fr : Fr N T a) {fn : Func} {rs : List ResultVar} {vs : List Value} (hr : fn.results = rs.toArray) (h : Res P w T rs vs) :
    (results fn a.tmps).run P w = .ok (if h : vs.toArray.size = 1 then vs.toArray[0] else .tuple vs.toArray) w := by
  unfold results
  rw [hr, List.mapM_toArray]
  simp only [Sem.run_bind, Sem.run_map]
  rw [res_run fr _ (fun _ => rfl) (fun _ _ => rfl) rs vs h]
  rfl
/-- The function's end, or a return: one result, or several. -/
theorem fx_ret {n : Nat} {fn : Func} {R : Ending → World → Prop} (fr : Fr (n, []) T a) (rs : List ResultVar) (vs : List Value) (hr : fn.results = rs.toArray) (h : Res P w T rs vs) {v : Value}
    (hv : (if h : vs.toArray.size = 1 then vs.toArray[0] else .tuple vs.toArray) = v) (hR : R (.returned v) w) : bodyPost P fn R .ret a w :=
  ⟨fr.df, v, by rw [results_run fr hr h, hv], hR⟩
theorem fx_end {n : Nat} {fn : Func} {R : Ending → World → Prop} (fr : Fr (n, []) T a) (rs : List ResultVar) (vs : List Value) (hr : fn.results = rs.toArray) (h : Res P w T rs vs) {v : Value}
    (hv : (if h : vs.toArray.size = 1 then vs.toArray[0] else .tuple vs.toArray) = v) (hR : R (.returned v) w) : bodyPost P fn R .normal a w :=
  ⟨fr.df, v, by rw [results_run fr hr h, hv], hR⟩
end
end Go.Proofs.Ytdjgfkjcpalihaa
