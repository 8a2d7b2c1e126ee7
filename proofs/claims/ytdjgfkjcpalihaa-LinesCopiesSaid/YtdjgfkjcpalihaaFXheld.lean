/-
  A region that draws its order, walked in turn: what reads is taken first, what changes the world when nothing else may come. Over tables.
-/
import Derived.Test.YtdjgfkjcpalihaaFXmap
import Derived.OrdersHeld
namespace Go.Proofs.Ytdjgfkjcpalihaa
open Go.RowKit
section
variable {P : Program} {N : Nat × List Deferred} {T : List (Nat × Value)} {a : Act} {w : World} {Q : Exit → Act → World → Prop} {ops : List Oper} {o : Oper} {d : Nat} {v : Value} {S : World → Prop} {fuel i : Nat} {listed : Array Bool}

theorem fx_held {id n : Nat} (S : World → Prop) (hm : P.follows .mixedOrders = true) (hn : ops.length = n) (h : ∀ w1, New w w1 → wpAnyH P .any ops.toArray Q S n (Array.replicate n false) a w1) : (Code.region id ops.toArray true).wp P Q a w := by
  subst hn
  exact wp_region_held hm (by simpa using h w.drew ((Only.refl _ w).drew))
theorem fx_hdone (hr : Region.ready .any ops.toArray listed = []) (h : Q .normal a w) : wpAnyH P .any ops.toArray Q S fuel listed a w := wpAnyH_done hr h fuel
/-- What is asked of the text for number i to be taken first. -/
def takeOk (ops : List Oper) (listed : Array Bool) (i : Nat) : Bool := Region.noSelect ops.toArray && Region.free .any ops.toArray listed i && (Region.ready .any ops.toArray listed).contains i
theorem fx_take (fr : Fr N T a) (hi : ops[i]? = some o) (hok : takeOk ops listed i = true) (hw : Region.wanted o (yielded ops.toArray a.tmps) = true) (hd : o.dst = some d) (hN : d < N.1)
    (hQ : ∀ c a w, Q (.panic c) (a.put o.dst v) w → Q (.panic c) a w) (hrun : ∀ w, S w → (execOp a.eval o).run P w = .ok (.value v) w) (hS : S w)
    (next : ∀ a, Fr N ((d, v) :: T) a → wpAnyH P .any ops.toArray Q S fuel (listed.setIfInBounds i true) a w) : wpAnyH P .any ops.toArray Q S (fuel + 1) listed a w := by
  unfold takeOk at hok
  simp only [Bool.and_eq_true] at hok
  refine wpAnyH_take (oi := o) (v := v) (by simpa using hi) hok.1.1 hok.1.2 hok.2 hQ (.inl ⟨hw, hrun⟩) hS ?_
  rw [hd]
  exact next _ (fr.put d v hN)
theorem fx_takeskip (fr : Fr N T a) (hi : ops[i]? = some o) (hok : takeOk ops listed i = true) (hw : Region.wanted o (yielded ops.toArray a.tmps) = false) (hd : o.dst = some d) (hN : d < N.1)
    (hQ : ∀ c a w, Q (.panic c) (a.put o.dst undef) w → Q (.panic c) a w) (hS : S w)
    (next : ∀ a, Fr N ((d, undef) :: T) a → wpAnyH P .any ops.toArray Q S fuel (listed.setIfInBounds i true) a w) : wpAnyH P .any ops.toArray Q S (fuel + 1) listed a w := by
  unfold takeOk at hok
  simp only [Bool.and_eq_true] at hok
  refine wpAnyH_take (oi := o) (v := undef) (by simpa using hi) hok.1.1 hok.1.2 hok.2 hQ (.inr ⟨hw, rfl⟩) hS ?_
  rw [hd]
  exact next _ (fr.put d undef hN)
theorem fx_takemay {j t : Nat} {b want g : Bool} (fr : Fr N T a) (hi : ops[i]? = some o) (hok : takeOk ops listed i = true) (hg : o.guard = some (j, want)) (hj : dstAt ops.toArray j = some t) (hb : look T t = some (.bool b)) (hgb : (b == want) = g) (hd : o.dst = some d) (hN : d < N.1)
    (hQ : ∀ u c a w, Q (.panic c) (a.put o.dst u) w → Q (.panic c) a w) (hrun : g = true → ∀ w, S w → (execOp a.eval o).run P w = .ok (.value v) w) (hS : S w)
    (next : ∀ a, Fr N ((d, onlyIf g v) :: T) a → wpAnyH P .any ops.toArray Q S fuel (listed.setIfInBounds i true) a w) : wpAnyH P .any ops.toArray Q S (fuel + 1) listed a w := by
  subst hgb
  cases hq : b == want with
  | true =>
    obtain rfl : b = want := by simpa using hq
    rw [hq] at hrun next
    exact fx_take fr hi hok (fr.want hg hj hb) hd hN (hQ v) (hrun rfl) hS next
  | false =>
    rw [hq] at next
    exact fx_takeskip fr hi hok (fr.unwant hg hj hb (by simpa using hq)) hd hN (hQ undef) hS next
theorem fx_takemay2 {j t : Nat} {g1 b want g : Bool} (fr : Fr N T a) (hi : ops[i]? = some o) (hok : takeOk ops listed i = true) (hg : o.guard = some (j, want)) (hj : dstAt ops.toArray j = some t) (hb : look T t = some (onlyIf g1 (.bool b))) (hgb : (g1 && (b == want)) = g) (hd : o.dst = some d) (hN : d < N.1)
    (hQ : ∀ u c a w, Q (.panic c) (a.put o.dst u) w → Q (.panic c) a w) (hrun : g = true → ∀ w, S w → (execOp a.eval o).run P w = .ok (.value v) w) (hS : S w)
    (next : ∀ a, Fr N ((d, onlyIf g v) :: T) a → wpAnyH P .any ops.toArray Q S fuel (listed.setIfInBounds i true) a w) : wpAnyH P .any ops.toArray Q S (fuel + 1) listed a w := by
  subst hgb
  cases g1 with
  | true => exact fx_takemay fr hi hok hg hj hb (by simp) hd hN hQ hrun hS next
  | false => exact fx_takeskip fr hi hok (fr.unwant_u hg hj hb) hd hN (hQ undef) hS next
/-- Whichever may come: one goal each. -/
theorem fx_each {rs : List Nat} (hr : Region.ready .any ops.toArray listed = rs) (hne : rs ≠ []) (h : ∀ i ∈ rs, wpOp P ops.toArray Q i (fun a' w' => S w' ∧ wpAnyH P .any ops.toArray Q S fuel (listed.setIfInBounds i true) a' w') a w) : wpAnyH P .any ops.toArray Q S (fuel + 1) listed a w :=
  wpAnyH_all hr hne h
/-- Only number i may come. -/
theorem fx_one (hr : Region.ready .any ops.toArray listed = [i]) (h : wpOp P ops.toArray Q i (fun a' w' => S w' ∧ wpAnyH P .any ops.toArray Q S fuel (listed.setIfInBounds i true) a' w') a w) : wpAnyH P .any ops.toArray Q S (fuel + 1) listed a w :=
  wpAnyH_all hr (by simp) fun j hj => by
    rw [List.mem_singleton] at hj
    subst hj
    exact h
theorem fx_two {j : Nat} (hr : Region.ready .any ops.toArray listed = [i, j]) (h1 : wpOp P ops.toArray Q i (fun a' w' => S w' ∧ wpAnyH P .any ops.toArray Q S fuel (listed.setIfInBounds i true) a' w') a w)
    (h2 : wpOp P ops.toArray Q j (fun a' w' => S w' ∧ wpAnyH P .any ops.toArray Q S fuel (listed.setIfInBounds j true) a' w') a w) : wpAnyH P .any ops.toArray Q S (fuel + 1) listed a w :=
  wpAnyH_all hr (by simp) fun q hq => by
    rw [List.mem_cons, List.mem_singleton] at hq
    rcases hq with rfl | rfl
    · exact h1
    · exact h2
/-- The operation itself, as a list of one: so that the laws of a plain region serve. -/
theorem fx_op {K : Act → World → Prop} (hi : ops[i]? = some o) (h : wpList P ops.toArray (fun e a w => match e with | .normal => K a w | e => Q e a w) [o] a w) : wpOp P ops.toArray Q i K a w := by
  unfold wpOp
  have hi' : ops.toArray[i]? = some o := by simpa using hi
  rw [hi']
  simp only []
  unfold wpList at h
  split
  · rename_i hw
    rw [if_pos hw] at h
    rcases h with h | ⟨h1, h2⟩
    · refine .inl ?_
      unfold Oper.wp at *
      generalize (execOp a.eval o).run P w = r at *
      cases r with
      | ok n w' =>
        cases n <;> simp only [Oper.upon] at h ⊢ <;> first | exact h | (refine Calls.mono h fun e w'' he => ?_; cases e <;> exact he) | (exact Rows.mono h fun v w'' he => he)
      | halt x w' => cases x <;> simp only [Oper.upon] at h ⊢ <;> exact h
    · exact .inr ⟨h1, h2⟩
  · rename_i hw
    rw [if_neg hw] at h
    exact h
end

theorem getD_true_of_false {listed : Array Bool} {i : Nat} (h : i < listed.size) (hl : listed.getD i true = false) : listed.getD i false = false := by
  simp [h] at hl ⊢
  exact hl

/-! ### A head that draws, a tail in turn -/
/-- What the head's end owes. -/
def tailQ (P : Program) (ops : Array Oper) (Q : Exit → Act → World → Prop) (k : Nat) : Exit → Act → World → Prop
  | .normal, a, w => wpList P ops Q (ops.toList.drop k) a w
  | e, a, w => Q e a w
/-- What is asked of the text. -/
def headOk (ops : Array Oper) (k : Nat) : Bool :=
  decide (k ≤ ops.size) && (List.range ops.size).all fun i => match ops[i]? with
    | none => true
    | some o => o.after.toList.all (fun e => !Region.binds .any e || decide (e.on < i)) && (match o.guard with | some (j, _) => decide (j < i) | none => true) &&
      (decide (i < k) || (List.range i).all fun j => (decide (k ≤ j) && decide (j + 1 ≠ i)) || o.after.toList.any fun e => e.on == j && Region.binds .any e)
section
variable {P : Program} {Q : Exit → Act → World → Prop} {ops : Array Oper} {k : Nat}
theorem headOk_le (h : headOk ops k = true) : k ≤ ops.size := by
  unfold headOk at h
  rw [Bool.and_eq_true] at h
  exact of_decide_eq_true h.1
theorem headOk_at (h : headOk ops k = true) {i : Nat} {o : Oper} (ho : ops[i]? = some o) : (∀ e ∈ o.after, Region.binds .any e = true → e.on < i) ∧ (∀ j b, o.guard = some (j, b) → j < i) ∧ (k ≤ i → ∀ j, j < i → (j < k ∨ j + 1 = i) → ∃ e ∈ o.after, e.on = j ∧ Region.binds .any e = true) := by
  have hi : i < ops.size := (Array.getElem?_eq_some_iff.1 ho).1
  unfold headOk at h
  rw [Bool.and_eq_true, List.all_eq_true] at h
  have h1 := h.2 i (List.mem_range.2 hi)
  rw [ho] at h1
  simp only [Bool.and_eq_true] at h1
  obtain ⟨⟨h1, h2⟩, h3⟩ := h1
  refine ⟨fun e he hb => ?_, fun j b hg => ?_, fun hki j hj hor => ?_⟩
  · have := (List.all_eq_true.1 h1) e (Array.mem_toList_iff.2 he)
    simpa [hb] using this
  · rw [hg] at h2
    exact of_decide_eq_true h2
  · rw [Bool.or_eq_true] at h3
    rcases h3 with h3 | h3
    · have := of_decide_eq_true h3; omega
    · have := (List.all_eq_true.1 h3) j (List.mem_range.2 hj)
      rw [Bool.or_eq_true] at this
      have this := this.resolve_left (by simp; omega)
      rw [List.any_eq_true] at this
      obtain ⟨e, he, h9⟩ := this
      rw [Bool.and_eq_true] at h9
      exact ⟨e, Array.mem_toList_iff.1 he, by simpa using h9.1, h9.2⟩
theorem first_ready' (h : headOk ops k = true) {listed : Array Bool} (hsz : listed.size = ops.size) (hr : Region.ready .any ops listed = []) : ∀ i, i < ops.size → listed.getD i false = true := by
  intro i
  induction i using Nat.strongRecOn with
  | _ i ih =>
    intro hi
    cases hl : listed.getD i false with
    | true => rfl
    | false =>
      exfalso
      have ho : ops[i]? = some ops[i] := Array.getElem?_eq_getElem hi
      have h2 := (headOk_at h ho).1
      have : i ∈ Region.ready .any ops listed := by
        refine mem_ready.2 ⟨?_, ops[i], ho, fun e he hb => ih e.on (h2 e he hb) (Nat.lt_trans (h2 e he hb) hi)⟩
        have : i < listed.size := by omega
        simp [this] at hl ⊢
        exact hl
      rw [hr] at this
      cases this
theorem wpAny_turn' (hB : headOk ops k = true) : ∀ (m i fuel : Nat) (listed : Array Bool) (a : Act) (w : World), i + m = ops.size → k ≤ i → m ≤ fuel → listed.size = ops.size →
    (∀ j, j < ops.size → (listed.getD j false = true ↔ j < i)) → wpList P ops Q (ops.toList.drop i) a w → wpAny P .any ops Q fuel listed a w := by
  intro m
  induction m with
  | zero =>
    intro i fuel listed a w him hki hf hsz hl h
    have hd : ops.toList.drop i = [] := List.drop_eq_nil_of_le (by simp; omega)
    rw [hd] at h
    have hr : Region.ready .any ops listed = [] := by
      rw [List.eq_nil_iff_forall_not_mem]
      intro j hj
      obtain ⟨hun, o, ho, _⟩ := mem_ready.1 hj
      have hjs : j < ops.size := (Array.getElem?_eq_some_iff.1 ho).1
      have h1 := (hl j hjs).2 (by omega)
      have h2 := getD_true_of_false (by omega) hun
      rw [h1] at h2
      cases h2
    cases fuel with
    | zero => exact ⟨hr, h⟩
    | succ f =>
      refine ⟨fun _ => h, fun j hj => ?_⟩
      rw [hr] at hj
      cases hj
  | succ m ih =>
    intro i fuel listed a w him hki hf hsz hl h
    cases fuel with
    | zero => omega
    | succ f =>
      have hi : i < ops.size := by omega
      have ho : ops[i]? = some ops[i] := Array.getElem?_eq_getElem hi
      have hli : listed.getD i false = false := by
        cases hq : listed.getD i false with
        | false => rfl
        | true => have := (hl i hi).1 hq; omega
      refine ⟨fun hr => ?_, fun j hj => ?_⟩
      · have := first_ready' hB hsz hr i hi
        rw [this] at hli
        cases hli
      · obtain ⟨hun, o, hoj, hedges⟩ := mem_ready.1 hj
        have hjs : j < ops.size := (Array.getElem?_eq_some_iff.1 hoj).1
        have hlj := getD_true_of_false (by omega) hun
        have hij : i ≤ j := by
          rcases Nat.lt_or_ge j i with h1 | h1
          · have := (hl j hjs).2 h1
            rw [this] at hlj
            cases hlj
          · exact h1
        have hji : j = i := by
          rcases Nat.lt_or_ge i j with h1 | h1
          · obtain ⟨e, he, he1, he2⟩ := (headOk_at hB hoj).2.2 (by omega) (j - 1) (by omega) (.inr (by omega))
            have := hedges e he he2
            rw [he1, hl (j - 1) (by omega)] at this
            omega
          · omega
        subst hji
        have hd : ops.toList.drop j = ops[j] :: ops.toList.drop (j + 1) := by
          rw [List.drop_eq_getElem_cons (by simpa using hi)]
          simp
        have next : ∀ a w, wpList P ops Q (ops.toList.drop (j + 1)) a w → wpAny P .any ops Q f (listed.setIfInBounds j true) a w := by
          intro a w h
          refine ih (j + 1) f _ a w (by omega) (by omega) (by omega) (by simpa using hsz) (fun q hq => ?_) h
          rw [Array.getD_eq_getD_getElem?, Array.getElem?_setIfInBounds]
          by_cases hjq : j = q
          · subst hjq
            have : j < listed.size := by omega
            simp [this]
          · rw [if_neg hjq, ← Array.getD_eq_getD_getElem?, hl q hq]
            omega
        rw [hd] at h
        unfold wpOp
        rw [ho]
        simp only []
        unfold wpList at h
        split
        · rename_i hw
          rw [if_pos hw] at h
          rcases h with h | h
          · exact .inl (Oper.wp_mono next h)
          · exact .inr h
        · rename_i hw
          rw [if_neg hw] at h
          exact next _ _ h
theorem wp_tailQ {o : Oper} {a : Act} {w : World} {K : Act → World → Prop} (h : o.wp P a w K (tailQ P ops Q k)) : o.wp P a w K Q := by
  unfold Oper.wp at *
  generalize (execOp a.eval o).run P w = r at *
  cases r with
  | ok n w' =>
    cases n <;> simp only [Oper.upon] at h ⊢ <;> first | exact h | (refine Calls.mono h fun e w'' he => ?_; cases e <;> exact he)
  | halt x w' => cases x <;> simp only [Oper.upon] at h ⊢ <;> exact h

theorem wpAny_head (hB : headOk ops k = true) : ∀ (fuel : Nat) (la lf : Array Bool) (a : Act) (w : World), la.size = k → lf.size = ops.size → (∀ j, j < k → lf.getD j false = la.getD j false) → (∀ j, k ≤ j → lf.getD j false = false) →
    wpAny P .any (ops.toList.take k).toArray (tailQ P ops Q k) fuel la a w → wpAny P .any ops Q (fuel + (ops.size - k)) lf a w := by
  have hk := headOk_le hB
  have hget : ∀ i, i < k → (ops.toList.take k).toArray[i]? = ops[i]? := by
    intro i hi
    simp [List.getElem?_take, hi]
  have hsz' : (ops.toList.take k).toArray.size = k := by simp; omega
  -- readiness in the head
  have hready : ∀ (la lf : Array Bool), la.size = k → lf.size = ops.size → (∀ j, j < k → lf.getD j false = la.getD j false) → ∀ i, i < k → (i ∈ Region.ready .any ops lf ↔ i ∈ Region.ready .any (ops.toList.take k).toArray la) := by
    intro la lf h1 h2 h3 i hi
    have hun : lf.getD i true = la.getD i true := by
      have := h3 i hi
      have e1 : i < lf.size := by omega
      have e2 : i < la.size := by omega
      simp [e1, e2] at this ⊢
      exact this
    constructor
    · intro h
      obtain ⟨hu, o, ho, he⟩ := mem_ready.1 h
      refine mem_ready.2 ⟨by rw [← hun]; exact hu, o, by rw [hget i hi]; exact ho, fun e hm hb => ?_⟩
      have hlt := (headOk_at hB ho).1 e hm hb
      rw [← h3 e.on (by omega)]
      exact he e hm hb
    · intro h
      obtain ⟨hu, o, ho, he⟩ := mem_ready.1 h
      rw [hget i hi] at ho
      refine mem_ready.2 ⟨by rw [hun]; exact hu, o, ho, fun e hm hb => ?_⟩
      have hlt := (headOk_at hB ho).1 e hm hb
      rw [h3 e.on (by omega)]
      exact he e hm hb
  -- the head is through
  have turn : ∀ (fuel : Nat) (la lf : Array Bool) (a : Act) (w : World), la.size = k → lf.size = ops.size → (∀ j, j < k → lf.getD j false = la.getD j false) → (∀ j, k ≤ j → lf.getD j false = false) →
      (∀ i, i < k → la.getD i false = true) → wpList P ops Q (ops.toList.drop k) a w → wpAny P .any ops Q (fuel + (ops.size - k)) lf a w := by
    intro fuel la lf a w h1 h2 h3 h4 hall h
    refine wpAny_turn' hB (ops.size - k) k _ lf a w (by omega) (Nat.le_refl _) (by omega) h2 (fun j hj => ⟨fun hj2 => ?_, fun hj2 => by rw [h3 j hj2]; exact hall j hj2⟩) h
    rcases Nat.lt_or_ge j k with h9 | h9
    · exact h9
    · rw [h4 j h9] at hj2
      cases hj2
  have hfr : ∀ (la lf : Array Bool), la.size = k → lf.size = ops.size → (∀ j, j < k → lf.getD j false = la.getD j false) → Region.ready .any (ops.toList.take k).toArray la = [] → ∀ i, i < k → la.getD i false = true := by
    intro la lf h1 h2 h3 hr i
    induction i using Nat.strongRecOn with
    | _ i ih =>
      intro hi
      cases hl : la.getD i false with
      | true => rfl
      | false =>
        exfalso
        have ho : ops[i]? = some (ops[i]'(by omega)) := Array.getElem?_eq_getElem (by omega)
        have h9 := (headOk_at hB ho).1
        have : i ∈ Region.ready .any (ops.toList.take k).toArray la := by
          refine mem_ready.2 ⟨?_, _, by rw [hget i hi]; exact ho, fun e he hb => ih e.on (h9 e he hb) (Nat.lt_trans (h9 e he hb) hi)⟩
          have : i < la.size := by omega
          simp [this] at hl ⊢
          exact hl
        rw [hr] at this
        cases this
  intro fuel
  induction fuel with
  | zero =>
    intro la lf a w h1 h2 h3 h4 h
    exact turn 0 la lf a w h1 h2 h3 h4 (hfr la lf h1 h2 h3 h.1) h.2
  | succ fuel ih =>
    intro la lf a w h1 h2 h3 h4 h
    by_cases hr : Region.ready .any (ops.toList.take k).toArray la = []
    · exact turn (fuel + 1) la lf a w h1 h2 h3 h4 (hfr la lf h1 h2 h3 hr) (h.1 hr)
    · rw [show fuel + 1 + (ops.size - k) = (fuel + (ops.size - k)) + 1 by omega]
      refine ⟨fun hrf => absurd ?_ hr, fun i hi => ?_⟩
      · rw [List.eq_nil_iff_forall_not_mem]
        intro j hj
        obtain ⟨_, o, ho, _⟩ := mem_ready.1 hj
        have hjk : j < k := by have := (Array.getElem?_eq_some_iff.1 ho).1; omega
        have := (hready la lf h1 h2 h3 j hjk).2 hj
        rw [hrf] at this
        cases this
      · obtain ⟨hun, o, ho, hedges⟩ := mem_ready.1 hi
        have his : i < ops.size := (Array.getElem?_eq_some_iff.1 ho).1
        have hik : i < k := by
          rcases Nat.lt_or_ge i k with h9 | h9
          · exact h9
          · exfalso
            refine hr ?_
            rw [List.eq_nil_iff_forall_not_mem]
            intro j hj
            obtain ⟨hunj, oj, hoj, _⟩ := mem_ready.1 hj
            have hjk : j < k := by have := (Array.getElem?_eq_some_iff.1 hoj).1; omega
            obtain ⟨e, he, he1, he2⟩ := (headOk_at hB ho).2.2 h9 j (by omega) (.inl hjk)
            have hl := hedges e he he2
            rw [he1, h3 j hjk] at hl
            have := getD_true_of_false (by omega) hunj
            rw [hl] at this
            cases this
        have hia := (hready la lf h1 h2 h3 i hik).1 hi
        have hop := h.2 i hia
        have next : ∀ a w, wpAny P .any (ops.toList.take k).toArray (tailQ P ops Q k) fuel (la.setIfInBounds i true) a w → wpAny P .any ops Q (fuel + (ops.size - k)) (lf.setIfInBounds i true) a w := by
          intro a w h
          refine ih _ _ a w (by simpa using h1) (by simpa using h2) (fun j hj => ?_) (fun j hj => ?_) h
          · rw [Array.getD_eq_getD_getElem?, Array.getD_eq_getD_getElem?, Array.getElem?_setIfInBounds, Array.getElem?_setIfInBounds]
            by_cases hij : i = j
            · subst hij
              simp [show i < lf.size by omega, show i < la.size by omega]
            · rw [if_neg hij, if_neg hij, ← Array.getD_eq_getD_getElem?, ← Array.getD_eq_getD_getElem?]
              exact h3 j hj
          · rw [Array.getD_eq_getD_getElem?, Array.getElem?_setIfInBounds, if_neg (by omega), ← Array.getD_eq_getD_getElem?]
            exact h4 j hj
        have hy : ∀ tm, Region.wanted o (yielded ops tm) = Region.wanted o (yielded (ops.toList.take k).toArray tm) := by
          intro tm
          unfold Region.wanted
          cases hg : o.guard with
          | none => rfl
          | some p =>
            obtain ⟨j, b⟩ := p
            have hj := (headOk_at hB ho).2.1 j b hg
            simp only []
            unfold yielded
            rw [hget j (by omega)]
        unfold wpOp at hop ⊢
        rw [hget i hik, ho] at hop
        rw [ho]
        simp only [] at hop ⊢
        rw [hy]
        split
        · rename_i hw
          rw [if_pos hw] at hop
          rcases hop with hop | ⟨q1, q2⟩
          · exact .inl (Oper.wp_mono next (wp_tailQ hop))
          · exact .inr ⟨q1, q2⟩
        · rename_i hw
          rw [if_neg hw] at hop
          exact next _ _ hop
theorem fx_tail {a : Act} {w : World} (h : wpList P ops Q (ops.toList.drop k) a w) : tailQ P ops Q k .normal a w := h
/-- A region whose head draws and whose tail comes in turn. -/
theorem fx_heldT {id n k : Nat} {ops : List Oper} {a : Act} {w : World} (S : World → Prop) (hm : P.follows .mixedOrders = true) (hB : headOk ops.toArray k = true) (hn : (ops.take k).length = n)
    (h : ∀ w1, New w w1 → wpAnyH P .any (ops.take k).toArray (tailQ P ops.toArray Q k) S n (Array.replicate n false) a w1) : (Code.region id ops.toArray true).wp P Q a w := by
  refine wp_region_any hm ?_
  have hk := headOk_le hB
  have hn' : n = k := by rw [← hn, List.length_take]; simp at hk; omega
  subst hn'
  have h1 := wpAny_of_held _ _ _ _ (h w.drew ((Only.refl _ w).drew))
  have h2 := wpAny_head (P := P) (Q := Q) hB n (Array.replicate n false) (Array.replicate ops.toArray.size false) a w.drew (by simp) (by simp) (fun j hj => ?_) (fun j hj => ?_) h1
  · rw [Nat.add_sub_cancel' hk] at h2
    exact h2
  · rw [Array.getD_eq_getD_getElem?, Array.getD_eq_getD_getElem?, Array.getElem?_replicate, Array.getElem?_replicate]
    split <;> (try split) <;> rfl
  · rw [Array.getD_eq_getD_getElem?, Array.getElem?_replicate]
    split <;> rfl
end
end Go.Proofs.Ytdjgfkjcpalihaa
