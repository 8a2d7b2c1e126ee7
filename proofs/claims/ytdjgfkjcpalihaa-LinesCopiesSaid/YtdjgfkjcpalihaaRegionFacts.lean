/-
  A region that draws its order, by facts: each operation's value is described by a fact that later worlds keep; whatever order the tape picks, all facts hold at the end.
-/
import Derived.Test.YtdjgfkjcpalihaaKit
namespace Go.Proofs.Ytdjgfkjcpalihaa
open Go.RowKit

/-- The slots that an operation reads (its guard's, too). -/
def opNeeds (ops : Array Oper) (o : Oper) : List Tmp :=
  (o.op.operands.toList.filterMap fun | .tmp t => some t | _ => none) ++ (match o.guard with | some (j, _) => ((ops[j]?).bind (·.dst)).toList | none => [])
def dstAt (ops : Array Oper) (j : Nat) : Option Tmp := (ops[j]?).bind (·.dst)
/-- What is asked of the region's text: slots are written once, and read behind the operation that writes them. -/
def regionOk (ops : Array Oper) (L : List Tmp) (N : Nat) : Bool :=
  (List.range ops.size).all fun i => match ops[i]? with
    | none => true
    | some o =>
      (match o.dst with | some d => decide (d < N) | none => false) &&
      o.after.toList.all (fun e => !Region.binds .any e || decide (e.on < i)) &&
      (List.range ops.size).all (fun j => j == i || dstAt ops j != o.dst) &&
      (opNeeds ops o).all fun t =>
        (L.contains t && (List.range ops.size).all (fun j => dstAt ops j != some t)) ||
        ((List.range ops.size).any fun j => dstAt ops j == some t && o.after.toList.any (fun e => e.on == j && Region.binds .any e))

section
variable (P : Program) (ops : Array Oper) (S : World → Prop) (Ext : World → World → Prop) (F : Tmp → Value → World → Prop)
/-- One operation, wherever it comes up: from the facts on what it reads to the fact on what it writes. -/
def FactStep (o : Oper) : Prop :=
  ∀ (a : Act) (w : World), S w → (∀ t ∈ opNeeds ops o, F t (a.tmps.getD t undef) w) →
    (Region.wanted o (yielded ops a.tmps) = true ∧ ∀ (K : Act → World → Prop) (Q : Exit → Act → World → Prop), (∀ v w', F (o.dst.getD 0) v w' → S w' → Ext w w' → K (a.put o.dst v) w') → o.wp P a w K Q) ∨
    (Region.wanted o (yielded ops a.tmps) = false ∧ F (o.dst.getD 0) undef w)
def FactSteps : List Oper → Prop
  | [] => True
  | o :: r => FactStep P ops S Ext F o ∧ FactSteps r
end

theorem FactSteps.get {P : Program} {ops : Array Oper} {S : World → Prop} {Ext : World → World → Prop} {F : Tmp → Value → World → Prop} {l : List Oper} (h : FactSteps P ops S Ext F l) : ∀ o ∈ l, FactStep P ops S Ext F o := by
  induction l with
  | nil => intro o ho; cases ho
  | cons x l ih =>
    intro o ho
    rcases List.mem_cons.1 ho with rfl | hm
    · exact h.1
    · exact ih h.2 o hm

theorem getD_put_same {a : Act} {d : Tmp} {v : Value} (h : d < a.tmps.size) : (a.put (some d) v).tmps.getD d undef = v := by
  simp [Act.put, h]
theorem getD_put_other {a : Act} {d t : Tmp} {v : Value} (h : d ≠ t) : (a.put (some d) v).tmps.getD t undef = a.tmps.getD t undef := by
  simp [Act.put, h]

theorem listed_set {listed : Array Bool} {i j : Nat} (h : (listed.setIfInBounds i true).getD j false = true) : j = i ∨ listed.getD j false = true := by
  by_cases hij : i = j
  · exact .inl hij.symm
  · right
    simpa [Array.getElem?_setIfInBounds, hij] using h

/-- How many are not listed yet. -/
def unlisted (listed : Array Bool) : Nat := listed.toList.countP (fun b => !b)
theorem countP_set : ∀ (l : List Bool) (i : Nat), l[i]? = some false → (l.set i true).countP (fun b => !b) + 1 = l.countP (fun b => !b)
  | b :: l, 0, h => by
    simp at h
    subst h
    simp
  | b :: l, i + 1, h => by
    have := countP_set l i (by simpa using h)
    simp only [List.set_cons_succ, List.countP_cons]
    omega
theorem unlisted_set {listed : Array Bool} {i : Nat} (h : listed.getD i true = false) : unlisted (listed.setIfInBounds i true) + 1 = unlisted listed := by
  unfold unlisted
  rw [Array.toList_setIfInBounds]
  apply countP_set
  have : listed[i]? = some false := by
    cases hq : listed[i]? with
    | none => simp [hq] at h
    | some b => simp [hq] at h; rw [h]
  simpa using this
theorem unlisted_zero {listed : Array Bool} (h : unlisted listed = 0) (i : Nat) : listed.getD i true = true := by
  unfold unlisted at h
  rw [List.countP_eq_zero] at h
  rcases Nat.lt_or_ge i listed.size with hi | hi
  · have := h listed[i] (by simp)
    simpa [hi] using this
  · simp [hi]

section
variable {P : Program} {ops : Array Oper} {S : World → Prop} {Ext : World → World → Prop} {F : Tmp → Value → World → Prop} {L : List Tmp} {N : Nat} {a0 : Act} {w0 : World}

/-- What holds on the way. -/
structure OnWay (ops : Array Oper) (S : World → Prop) (Ext : World → World → Prop) (F : Tmp → Value → World → Prop) (a0 : Act) (w0 : World) (listed : Array Bool) (a : Act) (w : World) : Prop where
  s : S w
  ext : Ext w0 w
  defers : a.defers = a0.defers
  size : a.tmps.size = a0.tmps.size
  frame : ∀ t, (∀ j, j < ops.size → dstAt ops j ≠ some t) → a.tmps.getD t undef = a0.tmps.getD t undef
  facts : ∀ j d, dstAt ops j = some d → listed.getD j false = true → F d (a.tmps.getD d undef) w

theorem regionOk_spec (h : regionOk ops L N = true) {i : Nat} {o : Oper} (ho : ops[i]? = some o) :
    (∃ d, o.dst = some d ∧ d < N) ∧ (∀ e ∈ o.after, Region.binds .any e = true → e.on < i) ∧ (∀ j, j < ops.size → j ≠ i → dstAt ops j ≠ o.dst) ∧
    ∀ t ∈ opNeeds ops o, (t ∈ L ∧ ∀ j, j < ops.size → dstAt ops j ≠ some t) ∨ ∃ j, dstAt ops j = some t ∧ ∃ e ∈ o.after, e.on = j ∧ Region.binds .any e = true := by
  have hi : i < ops.size := (Array.getElem?_eq_some_iff.1 ho).1
  unfold regionOk at h
  rw [List.all_eq_true] at h
  have h1 := h i (List.mem_range.2 hi)
  rw [ho] at h1
  simp only [Bool.and_eq_true] at h1
  obtain ⟨⟨⟨h1, h2⟩, h3⟩, h4⟩ := h1
  refine ⟨?_, fun e he hb => ?_, fun j hj hji => ?_, fun t ht => ?_⟩
  · cases hd : o.dst with
    | none => rw [hd] at h1; simp at h1
    | some d => rw [hd] at h1; exact ⟨d, rfl, by simpa using h1⟩
  · rw [List.all_eq_true] at h2
    have := h2 e (Array.mem_toList_iff.2 he)
    simpa [hb] using this
  · rw [List.all_eq_true] at h3
    have := h3 j (List.mem_range.2 hj)
    simpa [hji] using this
  · rw [List.all_eq_true] at h4
    have := h4 t ht
    rw [Bool.or_eq_true] at this
    rcases this with h5 | h5
    · left
      rw [Bool.and_eq_true] at h5
      refine ⟨by simpa using h5.1, fun j hj => ?_⟩
      have := (List.all_eq_true.1 h5.2) j (List.mem_range.2 hj)
      simpa using this
    · right
      rw [List.any_eq_true] at h5
      obtain ⟨j, _, h6⟩ := h5
      rw [Bool.and_eq_true] at h6
      obtain ⟨h7, h8⟩ := h6
      rw [List.any_eq_true] at h8
      obtain ⟨e, he, h9⟩ := h8
      rw [Bool.and_eq_true] at h9
      exact ⟨j, by simpa using h7, e, Array.mem_toList_iff.1 he, by simpa using h9.1, h9.2⟩

theorem ready_nil_all (h : regionOk ops L N = true) {listed : Array Bool} (hsz : listed.size = ops.size) (hr : Region.ready .any ops listed = []) : ∀ i, i < ops.size → listed.getD i false = true := by
  intro i
  induction i using Nat.strongRecOn with
  | _ i ih =>
    intro hi
    cases hl : listed.getD i false with
    | true => rfl
    | false =>
      exfalso
      have ho : ops[i]? = some ops[i] := Array.getElem?_eq_getElem hi
      obtain ⟨_, h2, _, _⟩ := regionOk_spec h ho
      have : i ∈ Region.ready .any ops listed := by
        refine mem_ready.2 ⟨?_, ops[i], ho, fun e he hb => ih e.on (h2 e he hb) (Nat.lt_trans (h2 e he hb) hi)⟩
        have : i < listed.size := by omega
        simp [this] at hl ⊢
        exact hl
      rw [hr] at this
      cases this

theorem wpAny_facts {Q : Exit → Act → World → Prop} (hB : regionOk ops L N = true) (hN : a0.tmps.size = N) (hre : ∀ a, Ext a a) (htr : ∀ a b c, Ext a b → Ext b c → Ext a c) (hst : ∀ t v w w', F t v w → Ext w w' → F t v w')
    (hL : ∀ t ∈ L, F t (a0.tmps.getD t undef) w0) (steps : FactSteps P ops S Ext F ops.toList)
    (final : ∀ a w, OnWay ops S Ext F a0 w0 (Array.replicate ops.size true) a w → Q .normal a w) :
    ∀ (fuel : Nat) (listed : Array Bool) (a : Act) (w : World), listed.size = ops.size → unlisted listed ≤ fuel → OnWay ops S Ext F a0 w0 listed a w → wpAny P .any ops Q fuel listed a w := by
  have fin : ∀ (listed : Array Bool) (a : Act) (w : World), listed.size = ops.size → OnWay ops S Ext F a0 w0 listed a w → Region.ready .any ops listed = [] → Q .normal a w := by
    intro listed a w hsz hw hr
    have hall := ready_nil_all hB hsz hr
    refine final a w ⟨hw.s, hw.ext, hw.defers, hw.size, hw.frame, fun j d hj _ => hw.facts j d hj (hall j ?_)⟩
    unfold dstAt at hj
    cases ho : ops[j]? with
    | none => simp [ho] at hj
    | some o => exact (Array.getElem?_eq_some_iff.1 ho).1
  intro fuel
  induction fuel with
  | zero =>
    intro listed a w hsz hu hw
    have hr : Region.ready .any ops listed = [] := by
      rw [List.eq_nil_iff_forall_not_mem]
      intro i hi
      have := (mem_ready.1 hi).1
      rw [unlisted_zero (by omega) i] at this
      cases this
    exact ⟨hr, fin listed a w hsz hw hr⟩
  | succ fuel ih =>
    intro listed a w hsz hu hw
    refine ⟨fin listed a w hsz hw, fun i hi => ?_⟩
    obtain ⟨hun, o, ho, hedges⟩ := mem_ready.1 hi
    obtain ⟨⟨d, hd, hdN⟩, _, hdist, hneeds⟩ := regionOk_spec hB ho
    have hdi : dstAt ops i = some d := by simp [dstAt, ho, hd]
    have hF : ∀ t ∈ opNeeds ops o, F t (a.tmps.getD t undef) w := by
      intro t ht
      rcases hneeds t ht with ⟨hl, hno⟩ | ⟨j, hj, e, he, rfl, hb⟩
      · rw [hw.frame t hno]
        exact hst _ _ _ _ (hL t hl) hw.ext
      · exact hw.facts e.on t hj (hedges e he hb)
    have next : ∀ v w', F d v w' → S w' → Ext w w' → OnWay ops S Ext F a0 w0 (listed.setIfInBounds i true) (a.put o.dst v) w' := by
      intro v w' hv hs hx
      rw [hd]
      refine ⟨hs, htr _ _ _ hw.ext hx, hw.defers, by simpa [Act.put] using hw.size, fun t ht => ?_, fun j d' hj hlj => ?_⟩
      · rw [getD_put_other (fun e => ht i (Array.getElem?_eq_some_iff.1 ho).1 (by rw [hdi, e]))]
        exact hw.frame t ht
      · rcases listed_set hlj with rfl | hlj'
        · have : d' = d := by rw [hdi] at hj; simpa using hj.symm
          subst this
          rw [getD_put_same (by rw [hw.size, hN]; exact hdN)]
          exact hv
        · by_cases hji : j = i
          · subst hji
            have : d' = d := by rw [hdi] at hj; simpa using hj.symm
            subst this
            rw [getD_put_same (by rw [hw.size, hN]; exact hdN)]
            exact hv
          · have hjs : j < ops.size := by
              unfold dstAt at hj
              cases hoj : ops[j]? with
              | none => simp [hoj] at hj
              | some o => exact (Array.getElem?_eq_some_iff.1 hoj).1
            have hne : d ≠ d' := fun e => hdist j hjs hji (by rw [hj, hd, e])
            rw [getD_put_other hne]
            exact hst _ _ _ _ (hw.facts j d' hj hlj') hx
    have hu' := unlisted_set hun
    unfold wpOp
    rw [ho]
    simp only []
    rcases steps.get o (by rw [Array.mem_toList_iff]; exact Array.mem_of_getElem? ho) a w hw.s hF with ⟨hwant, hwp⟩ | ⟨hwant, hv⟩
    · rw [if_pos hwant]
      left
      refine hwp _ _ fun v w' h1 h2 h3 => ih _ _ _ (by simpa using hsz) (by omega) (next v w' ?_ h2 h3)
      rw [hd] at h1
      exact h1
    · rw [if_neg (by rw [hwant]; exact Bool.false_ne_true)]
      rw [hd] at hv
      exact ih _ _ _ (by simpa using hsz) (by omega) (next undef w hv hw.s (hre w))

/-- The region's wp, by its facts. -/
theorem wp_region_facts {id : Nat} {Q : Exit → Act → World → Prop} (S : World → Prop) (Ext : World → World → Prop) (F : Tmp → Value → World → Prop) (L : List Tmp) (N : Nat) {ops : List Oper}
    (hm : P.follows .mixedOrders = true) (hB : regionOk ops.toArray L N = true) (hN : a0.tmps.size = N) (hre : ∀ a, Ext a a) (htr : ∀ a b c, Ext a b → Ext b c → Ext a c)
    (hst : ∀ t v w w', F t v w → Ext w w' → F t v w') (hS : S w0.drew) (hL : ∀ t ∈ L, F t (a0.tmps.getD t undef) w0.drew) (steps : FactSteps P ops.toArray S Ext F ops)
    (final : ∀ a w, OnWay ops.toArray S Ext F a0 w0.drew (Array.replicate ops.toArray.size true) a w → Q .normal a w) : (Code.region id ops.toArray true).wp P Q a0 w0 := by
  refine wp_region_any hm ?_
  refine wpAny_facts hB hN hre htr hst hL steps final _ _ _ _ (by simp) ?_ ⟨hS, hre _, rfl, rfl, fun _ _ => rfl, fun j d hj hl => ?_⟩
  · unfold unlisted
    simp
    exact Nat.le_trans List.countP_le_length (by simp)
  · rw [Array.getD_eq_getD_getElem?, Array.getElem?_replicate] at hl
    split at hl <;> simp at hl
end

section
variable {P : Program} {ops : Array Oper} {S : World → Prop} {Ext : World → World → Prop} {F : Tmp → Value → World → Prop}
theorem yielded_of {a : Act} {j : Nat} {t : Tmp} {b : Bool} (hj : dstAt ops j = some t) (h : a.tmps.getD t undef = .bool b) : yielded ops a.tmps j = some b := by
  unfold yielded
  unfold dstAt at hj
  rw [hj]
  have : a.tmps[t]? = some (.bool b) := by
    cases hq : a.tmps[t]? with
    | none => simp [hq, undef] at h
    | some v => simp [hq] at h; rw [h]
  simp [this]
/-- An operation without a guard. -/
theorem step_plain {o : Oper} (hg : o.guard = none)
    (h : ∀ (a : Act) (w : World), S w → (∀ t ∈ opNeeds ops o, F t (a.tmps.getD t undef) w) → ∀ (K : Act → World → Prop) (Q : Exit → Act → World → Prop), (∀ v w', F (o.dst.getD 0) v w' → S w' → Ext w w' → K (a.put o.dst v) w') → o.wp P a w K Q) :
    FactStep P ops S Ext F o :=
  fun a w hs hf => .inl ⟨by simp [Region.wanted, hg], h a w hs hf⟩
theorem mem_needs_guard {o : Oper} {j : Nat} {b : Bool} {t : Tmp} (hg : o.guard = some (j, b)) (hj : dstAt ops j = some t) : t ∈ opNeeds ops o := by
  unfold opNeeds
  rw [hg]
  unfold dstAt at hj
  simp [hj]
/-- An operation whose guard is met. -/
theorem step_guard {o : Oper} {j : Nat} {b : Bool} {t : Tmp} (hg : o.guard = some (j, b)) (hj : dstAt ops j = some t) (hb : ∀ v w, F t v w → v = .bool b)
    (h : ∀ (a : Act) (w : World), S w → (∀ t ∈ opNeeds ops o, F t (a.tmps.getD t undef) w) → ∀ (K : Act → World → Prop) (Q : Exit → Act → World → Prop), (∀ v w', F (o.dst.getD 0) v w' → S w' → Ext w w' → K (a.put o.dst v) w') → o.wp P a w K Q) :
    FactStep P ops S Ext F o :=
  fun a w hs hf => .inl ⟨by simp [Region.wanted, hg, yielded_of hj (hb _ _ (hf t (mem_needs_guard hg hj)))], h a w hs hf⟩
/-- An operation whose guard is not met. -/
theorem step_skip {o : Oper} {j : Nat} {b : Bool} {t : Tmp} (hg : o.guard = some (j, b)) (hj : dstAt ops j = some t) (hb : ∀ v w, F t v w → v = .bool (!b)) (hu : ∀ w, S w → F (o.dst.getD 0) undef w) :
    FactStep P ops S Ext F o :=
  fun a w hs hf => .inr ⟨by simp [Region.wanted, hg, yielded_of hj (hb _ _ (hf t (mem_needs_guard hg hj)))], hu w hs⟩
end

section
variable {P : Program} {ops : Array Oper} {S : World → Prop} {Ext : World → World → Prop} {F : Tmp → Value → World → Prop}
/-- An operation whose guard was passed over itself. -/
theorem step_skip_u {o : Oper} {j : Nat} {b : Bool} {t : Tmp} (hg : o.guard = some (j, b)) (hj : dstAt ops j = some t) (hb : ∀ v w, F t v w → v = undef) (hu : ∀ w, S w → F (o.dst.getD 0) undef w) :
    FactStep P ops S Ext F o := by
  intro a w hs hf
  have h := hb _ _ (hf t (mem_needs_guard hg hj))
  have hy : yielded ops a.tmps j = none := by
    unfold yielded
    unfold dstAt at hj
    rw [hj]
    cases hq : a.tmps[t]? with
    | none => simp [hq]
    | some v =>
      simp [hq] at h
      subst h
      simp [hq, undef]
  exact .inr ⟨by simp [Region.wanted, hg, hy], hu w hs⟩
end
/-! ### The facts as a table; the operations' bodies -/
/-- A table of facts, slot by slot. -/
def FT (l : List (Tmp × (Value → World → Prop))) (t : Tmp) (v : Value) (w : World) : Prop := match l.lookup t with | some f => f v w | none => True
/-- The value is just this one. -/
def is (v0 : Value) (v : Value) (_ : World) : Prop := v = v0
/-- A table whose facts later worlds keep. -/
def Stab (Ext : World → World → Prop) : List (Tmp × (Value → World → Prop)) → Prop
  | [] => True
  | p :: l => (∀ v w w', p.2 v w → Ext w w' → p.2 v w') ∧ Stab Ext l
theorem stab_nil {Ext : World → World → Prop} : Stab Ext [] := trivial
theorem stab_is {Ext : World → World → Prop} {t : Tmp} {v0 : Value} {l : List (Tmp × (Value → World → Prop))} (h : Stab Ext l) : Stab Ext ((t, is v0) :: l) := ⟨fun _ _ _ h _ => h, h⟩
theorem stab_cons {Ext : World → World → Prop} {p : Tmp × (Value → World → Prop)} {l : List (Tmp × (Value → World → Prop))} (hp : ∀ v w w', p.2 v w → Ext w w' → p.2 v w') (h : Stab Ext l) : Stab Ext (p :: l) := ⟨hp, h⟩
theorem Stab.ft {Ext : World → World → Prop} {l : List (Tmp × (Value → World → Prop))} (h : Stab Ext l) : ∀ t v w w', FT l t v w → Ext w w' → FT l t v w' := by
  induction l with
  | nil => intro t v w w' _ _; trivial
  | cons p l ih =>
    intro t v w w' h1 hx
    obtain ⟨u, f⟩ := p
    have e : ∀ v w, FT ((u, f) :: l) t v w = if t == u then f v w else FT l t v w := by
      intro v w
      unfold FT
      rw [List.lookup_cons]
      cases t == u <;> rfl
    rw [e] at h1 ⊢
    cases hq : t == u with
    | true =>
      rw [hq, if_pos rfl] at h1
      exact h.1 v w w' h1 hx
    | false =>
      rw [hq, if_neg Bool.false_ne_true] at h1
      exact ih h.2 t v w w' h1 hx

/-- What an operation's body owes. -/
def Body (P : Program) (ops : Array Oper) (S : World → Prop) (Ext : World → World → Prop) (F : Tmp → Value → World → Prop) (o : Oper) : Prop :=
  ∀ (a : Act) (w : World), S w → (∀ t ∈ opNeeds ops o, F t (a.tmps.getD t undef) w) → ∀ (K : Act → World → Prop) (Q : Exit → Act → World → Prop), (∀ v w', F (o.dst.getD 0) v w' → S w' → Ext w w' → K (a.put o.dst v) w') → o.wp P a w K Q
section
variable {P : Program} {ops : Array Oper} {S : World → Prop} {Ext : World → World → Prop} {F : Tmp → Value → World → Prop} {o : Oper}
theorem body_val (hre : ∀ w, Ext w w) (h : ∀ (a : Act) (w : World), S w → (∀ t ∈ opNeeds ops o, F t (a.tmps[t]?.getD undef) w) → ∃ v, (execOp a.eval o).run P w = .ok (.value v) w ∧ F (o.dst.getD 0) v w) : Body P ops S Ext F o := by
  intro a w hs hf K Q hK
  obtain ⟨v, h1, h2⟩ := h a w hs fun t ht => by rw [← Array.getD_eq_getD_getElem?]; exact hf t ht
  unfold Oper.wp
  rw [h1]
  exact hK v w h2 hs (hre w)
theorem body_step (h : ∀ (a : Act) (w : World), S w → (∀ t ∈ opNeeds ops o, F t (a.tmps[t]?.getD undef) w) → ∃ v w', (execOp a.eval o).run P w = .ok (.value v) w' ∧ F (o.dst.getD 0) v w' ∧ S w' ∧ Ext w w') : Body P ops S Ext F o := by
  intro a w hs hf K Q hK
  obtain ⟨v, w', h1, h2, h3, h4⟩ := h a w hs fun t ht => by rw [← Array.getD_eq_getD_getElem?]; exact hf t ht
  unfold Oper.wp
  rw [h1]
  exact hK v w' h2 h3 h4
theorem body_call (h : ∀ (a : Act) (w : World), S w → (∀ t ∈ opNeeds ops o, F t (a.tmps[t]?.getD undef) w) → ∃ f args, (execOp a.eval o).run P w = .ok (.enter f args) w ∧ Calls P f args w fun e w' => ∃ v, e = .returned v ∧ F (o.dst.getD 0) v w' ∧ S w' ∧ Ext w w') : Body P ops S Ext F o := by
  intro a w hs hf K Q hK
  obtain ⟨f, args, h1, h2⟩ := h a w hs fun t ht => by rw [← Array.getD_eq_getD_getElem?]; exact hf t ht
  unfold Oper.wp
  rw [h1]
  exact h2.mono fun e w' ⟨v, he, h3, h4, h5⟩ => by subst he; exact hK v w' h3 h4 h5
theorem body_move (hre : ∀ w, Ext w w) {t : Tmp} (hop : o.op = .move (.tmp t) ∨ o.op = .assign (.tmp t)) (h : ∀ v w, F t v w → F (o.dst.getD 0) v w) : Body P ops S Ext F o := by
  refine body_val hre fun a w hs hf => ⟨a.tmps[t]?.getD undef, ?_, ?_⟩
  · rcases hop with hop | hop <;> simp [execOp, hop, Act.eval]
  · refine h _ _ (hf t ?_)
    unfold opNeeds
    rcases hop with hop | hop <;> simp [hop, Op.operands]
theorem body_pick (hre : ∀ w, Ext w w) {c x : Tmp} {y : Operand} (hop : o.op = .pick (.tmp c) (.tmp x) y) (hc : ∀ v w, F c v w → v = .bool true) (h : ∀ v w, F x v w → F (o.dst.getD 0) v w) : Body P ops S Ext F o := by
  refine body_val hre fun a w hs hf => ⟨a.tmps[x]?.getD undef, ?_, ?_⟩
  · have h1 := hc _ _ (hf c (by unfold opNeeds; simp [hop, Op.operands]))
    simp [execOp, hop, h1, asBool, Act.eval]
  · exact h _ _ (hf x (by unfold opNeeds; simp [hop, Op.operands]))
/-- A whole row loaded. -/
theorem body_load (hre : ∀ w, Ext w w) (ty : TypeId) (x : Tmp) (g : Nat) (t : TypeId) (cs : Array Value) (fr : Nat × Nat) (d : TypeDesc) (hop : o.op = .load ty (.tmp x)) (hx : ∀ v w, F x v w → v = .pointer (some ⟨g, 0, none⟩))
    (hS : ∀ w, S w → w.heap[g]? = some (.cells cs t fr)) (hu : P.underlying ty = some d) (hd : (match d with | .struct _ | .array _ _ => true | _ => false) = true) (hi : (P.info? ty).map (·.size) = some cs.size)
    (h : ∀ w, F (o.dst.getD 0) (.agg cs) w) : Body P ops S Ext F o := by
  refine body_val hre fun a w hs hf => ⟨.agg cs, ?_, h w⟩
  have h1 := hx _ _ (hf x (by unfold opNeeds; simp [hop, Op.operands]))
  have h2 := run_loadVar_row (P := P) w g t ty cs fr d (hS w hs) hu hd hi
  have h3 : a.eval (.tmp x) = .pointer (some ⟨g, 0, none⟩) := by simp [Act.eval, h1]
  simp only [execOp, hop, h3, Instr.loadAt, Instr.sureAddr, Sem.run_bind, Sem.run_pure, Result.andThen_ok, h2]
theorem fs_plain (hg : o.guard = none) (h : Body P ops S Ext F o) : FactStep P ops S Ext F o := step_plain hg h
theorem fs_guard {j : Nat} {b : Bool} (t : Tmp) (hg : o.guard = some (j, b)) (hj : dstAt ops j = some t) (hb : ∀ v w, F t v w → v = .bool b) (h : Body P ops S Ext F o) : FactStep P ops S Ext F o := step_guard hg hj hb h
end
/-- The frame behind a region, written out. -/
theorem foldl_put (x : Tmp → Value) : ∀ (U : List (Tmp × Value)) (arr : Array Value), (∀ p ∈ U, x p.1 = p.2) → ∀ t, t < arr.size → (U.foldl (fun r p => r.setIfInBounds p.1 p.2) arr).getD t undef = if t ∈ U.map (·.1) then x t else arr.getD t undef
  | [], arr, _, t, _ => by simp
  | p :: U, arr, h, t, ht => by
    have ih := foldl_put x U (arr.setIfInBounds p.1 p.2) (fun q hq => h q (List.mem_cons_of_mem _ hq)) t (by simpa using ht)
    rw [List.foldl_cons, ih]
    have hp := h p (List.mem_cons_self ..)
    by_cases h1 : t ∈ U.map (·.1)
    · rw [if_pos h1, if_pos (by simp only [List.map_cons, List.mem_cons]; exact .inr h1)]
    · rw [if_neg h1]
      by_cases h2 : t = p.1
      · rw [if_pos (by simp only [List.map_cons, List.mem_cons]; exact .inl h2), h2, hp]
        simp [h2 ▸ ht]
      · rw [if_neg (by simp only [List.map_cons, List.mem_cons]; intro h3; exact h3.elim h2 h1)]
        simp [Ne.symm h2]
theorem foldl_put_size : ∀ (U : List (Tmp × Value)) (arr : Array Value), (U.foldl (fun r p => r.setIfInBounds p.1 p.2) arr).size = arr.size
  | [], arr => rfl
  | p :: U, arr => by rw [List.foldl_cons, foldl_put_size]; simp
theorem OnWay.lit {ops : Array Oper} {S : World → Prop} {Ext : World → World → Prop} {F : Tmp → Value → World → Prop} {a0 : Act} {w0 : World} {listed : Array Bool} {a : Act} {w : World} (h : OnWay ops S Ext F a0 w0 listed a w)
    (U : List (Tmp × Value)) (hU : ∀ p ∈ U, a.tmps.getD p.1 undef = p.2) (hd : (List.range ops.size).all (fun j => match dstAt ops j with | some d => (U.map (·.1)).contains d | none => true) = true) :
    a = { tmps := U.foldl (fun r p => r.setIfInBounds p.1 p.2) a0.tmps, defers := a0.defers } := by
  have ht : a.tmps = U.foldl (fun r p => r.setIfInBounds p.1 p.2) a0.tmps := by
    apply Array.ext
    · rw [foldl_put_size, h.size]
    · intro i h1 h2
      have h3 := foldl_put (fun t => a.tmps.getD t undef) U a0.tmps hU i (by rw [← h.size]; exact h1)
      have e1 : a.tmps[i] = a.tmps.getD i undef := by simp [h1]
      have e2 : (U.foldl (fun r p => r.setIfInBounds p.1 p.2) a0.tmps)[i] = (U.foldl (fun r p => r.setIfInBounds p.1 p.2) a0.tmps).getD i undef := by
        rw [Array.getD_eq_getD_getElem?, Array.getElem?_eq_getElem h2]; rfl
      rw [e1, e2, h3]
      by_cases hm : i ∈ U.map (·.1)
      · rw [if_pos hm]
      · rw [if_neg hm]
        refine h.frame i fun j hj hdj => hm ?_
        have := (List.all_eq_true.1 hd) j (List.mem_range.2 hj)
        rw [hdj] at this
        simpa using this
  have hdf := h.defers
  cases a
  simp only at ht hdf
  rw [ht, hdf]
end Go.Proofs.Ytdjgfkjcpalihaa
