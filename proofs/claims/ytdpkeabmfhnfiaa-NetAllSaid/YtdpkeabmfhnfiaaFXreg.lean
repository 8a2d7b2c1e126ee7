/-
  A region that draws its order, then a tail that is bound behind all of it: by facts, then in turn. Over tables.
-/
import Derived.Test.YtdpkeabmfhnfiaaFXop
namespace Go.Proofs.Ytdpkeabmfhnfiaa
open Go.RowKit

/-- What is asked of the text: the first k operations write slots once and read behind who writes; each later one is bound behind all ahead of it. -/
def regionOkT (ops : Array Oper) (L : List Tmp) (N k : Nat) : Bool :=
  decide (k ≤ ops.size) && (List.range ops.size).all fun i => match ops[i]? with
    | none => true
    | some o =>
      o.after.toList.all (fun e => !Region.binds .any e || decide (e.on < i)) &&
      (if i < k then
        (match o.dst with | some d => decide (d < N) | none => false) &&
        (List.range k).all (fun j => j == i || dstAt ops j != o.dst) &&
        (opNeeds ops o).all fun t =>
          (L.contains t && (List.range k).all (fun j => dstAt ops j != some t)) ||
          ((List.range k).any fun j => dstAt ops j == some t && o.after.toList.any (fun e => e.on == j && Region.binds .any e))
      else (List.range i).all fun j => o.after.toList.any fun e => e.on == j && Region.binds .any e)

/-- What holds on the way. -/
structure OnW (ops : Array Oper) (k : Nat) (S : World → Prop) (Ext : World → World → Prop) (F : Tmp → Value → World → Prop) (a0 : Act) (w0 : World) (listed : Array Bool) (a : Act) (w : World) : Prop where
  s : S w
  ext : Ext w0 w
  defers : a.defers = a0.defers
  size : a.tmps.size = a0.tmps.size
  frame : ∀ t, (∀ j, j < k → dstAt ops j ≠ some t) → a.tmps.getD t undef = a0.tmps.getD t undef
  facts : ∀ j d, j < k → dstAt ops j = some d → listed.getD j false = true → F d (a.tmps.getD d undef) w

section
variable {P : Program} {ops : Array Oper} {S : World → Prop} {Ext : World → World → Prop} {F : Tmp → Value → World → Prop} {L : List Tmp} {N k : Nat} {a0 : Act} {w0 : World}

theorem regionOkT_le (h : regionOkT ops L N k = true) : k ≤ ops.size := by
  unfold regionOkT at h
  rw [Bool.and_eq_true] at h
  exact of_decide_eq_true h.1
theorem regionOkT_after (h : regionOkT ops L N k = true) {i : Nat} {o : Oper} (ho : ops[i]? = some o) : ∀ e ∈ o.after, Region.binds .any e = true → e.on < i := by
  have hi : i < ops.size := (Array.getElem?_eq_some_iff.1 ho).1
  unfold regionOkT at h
  rw [Bool.and_eq_true, List.all_eq_true] at h
  have h1 := h.2 i (List.mem_range.2 hi)
  rw [ho] at h1
  simp only [Bool.and_eq_true] at h1
  intro e he hb
  have := (List.all_eq_true.1 h1.1) e (Array.mem_toList_iff.2 he)
  simpa [hb] using this
theorem regionOkT_head (h : regionOkT ops L N k = true) {i : Nat} {o : Oper} (hik : i < k) (ho : ops[i]? = some o) :
    (∃ d, o.dst = some d ∧ d < N) ∧ (∀ j, j < k → j ≠ i → dstAt ops j ≠ o.dst) ∧
    ∀ t ∈ opNeeds ops o, (t ∈ L ∧ ∀ j, j < k → dstAt ops j ≠ some t) ∨ ∃ j, j < k ∧ dstAt ops j = some t ∧ ∃ e ∈ o.after, e.on = j ∧ Region.binds .any e = true := by
  have hi : i < ops.size := (Array.getElem?_eq_some_iff.1 ho).1
  unfold regionOkT at h
  rw [Bool.and_eq_true, List.all_eq_true] at h
  have h1 := h.2 i (List.mem_range.2 hi)
  rw [ho] at h1
  simp only [if_pos hik, Bool.and_eq_true] at h1
  obtain ⟨_, ⟨h1, h3⟩, h4⟩ := h1
  refine ⟨?_, fun j hj hji => ?_, fun t ht => ?_⟩
  · cases hd : o.dst with
    | none => rw [hd] at h1; simp at h1
    | some d => rw [hd] at h1; exact ⟨d, rfl, by simpa using h1⟩
  · rw [List.all_eq_true] at h3
    have := h3 j (List.mem_range.2 hj)
    simpa [hji] using this
  · rw [List.all_eq_true] at h4
    have := h4 t ht
    rw [Bool.or_eq_true] at this
    rcases this with h5 | h5
    · left
      rw [Bool.and_eq_true] at h5
      refine ⟨by simpa using h5.1, fun j hj => ?_⟩
      have := (List.all_eq_true.1 h5.2) j (List.mem_range.2 hj)
      simpa using this
    · right
      rw [List.any_eq_true] at h5
      obtain ⟨j, hj, h6⟩ := h5
      rw [Bool.and_eq_true] at h6
      obtain ⟨h7, h8⟩ := h6
      rw [List.any_eq_true] at h8
      obtain ⟨e, he, h9⟩ := h8
      rw [Bool.and_eq_true] at h9
      exact ⟨j, List.mem_range.1 hj, by simpa using h7, e, Array.mem_toList_iff.1 he, by simpa using h9.1, h9.2⟩
theorem regionOkT_tail (h : regionOkT ops L N k = true) {i : Nat} {o : Oper} (hik : k ≤ i) (ho : ops[i]? = some o) : ∀ j, j < i → ∃ e ∈ o.after, e.on = j ∧ Region.binds .any e = true := by
  have hi : i < ops.size := (Array.getElem?_eq_some_iff.1 ho).1
  unfold regionOkT at h
  rw [Bool.and_eq_true, List.all_eq_true] at h
  have h1 := h.2 i (List.mem_range.2 hi)
  rw [ho] at h1
  simp only [if_neg (Nat.not_lt.2 hik), Bool.and_eq_true] at h1
  intro j hj
  have := (List.all_eq_true.1 h1.2) j (List.mem_range.2 hj)
  rw [List.any_eq_true] at this
  obtain ⟨e, he, h9⟩ := this
  rw [Bool.and_eq_true] at h9
  exact ⟨e, Array.mem_toList_iff.1 he, by simpa using h9.1, h9.2⟩

/-- Who is the first that is not listed is ready. -/
theorem first_ready (h : regionOkT ops L N k = true) {listed : Array Bool} (hsz : listed.size = ops.size) (hr : Region.ready .any ops listed = []) : ∀ i, i < ops.size → listed.getD i false = true := by
  intro i
  induction i using Nat.strongRecOn with
  | _ i ih =>
    intro hi
    cases hl : listed.getD i false with
    | true => rfl
    | false =>
      exfalso
      have ho : ops[i]? = some ops[i] := Array.getElem?_eq_getElem hi
      have h2 := regionOkT_after h ho
      have : i ∈ Region.ready .any ops listed := by
        refine mem_ready.2 ⟨?_, ops[i], ho, fun e he hb => ih e.on (h2 e he hb) (Nat.lt_trans (h2 e he hb) hi)⟩
        have : i < listed.size := by omega
        simp [this] at hl ⊢
        exact hl
      rw [hr] at this
      cases this

theorem getD_true_of_false {listed : Array Bool} {i : Nat} (h : i < listed.size) (hl : listed.getD i true = false) : listed.getD i false = false := by
  simp [h] at hl ⊢
  exact hl

/-- The tail, in turn. -/
theorem wpAny_turn {Q : Exit → Act → World → Prop} (hB : regionOkT ops L N k = true) : ∀ (m i fuel : Nat) (listed : Array Bool) (a : Act) (w : World), i + m = ops.size → k ≤ i → m ≤ fuel → listed.size = ops.size →
    (∀ j, j < ops.size → (listed.getD j false = true ↔ j < i)) → wpList P ops Q (ops.toList.drop i) a w → wpAny P .any ops Q fuel listed a w := by
  intro m
  induction m with
  | zero =>
    intro i fuel listed a w him hki hf hsz hl h
    have hd : ops.toList.drop i = [] := List.drop_eq_nil_of_le (by simp; omega)
    rw [hd] at h
    have hr : Region.ready .any ops listed = [] := by
      rw [List.eq_nil_iff_forall_not_mem]
      intro j hj
      obtain ⟨hun, o, ho, _⟩ := mem_ready.1 hj
      have hjs : j < ops.size := (Array.getElem?_eq_some_iff.1 ho).1
      have h1 := (hl j hjs).2 (by omega)
      have h2 := getD_true_of_false (by omega) hun
      rw [h1] at h2
      cases h2
    cases fuel with
    | zero => exact ⟨hr, h⟩
    | succ f =>
      refine ⟨fun _ => h, fun j hj => ?_⟩
      rw [hr] at hj
      cases hj
  | succ m ih =>
    intro i fuel listed a w him hki hf hsz hl h
    cases fuel with
    | zero => omega
    | succ f =>
      have hi : i < ops.size := by omega
      have ho : ops[i]? = some ops[i] := Array.getElem?_eq_getElem hi
      have hli : listed.getD i false = false := by
        cases hq : listed.getD i false with
        | false => rfl
        | true => have := (hl i hi).1 hq; omega
      refine ⟨fun hr => ?_, fun j hj => ?_⟩
      · have := first_ready hB hsz hr i hi
        rw [this] at hli
        cases hli
      · obtain ⟨hun, o, hoj, hedges⟩ := mem_ready.1 hj
        have hjs : j < ops.size := (Array.getElem?_eq_some_iff.1 hoj).1
        have hlj := getD_true_of_false (by omega) hun
        have hij : i ≤ j := by
          rcases Nat.lt_or_ge j i with h1 | h1
          · have := (hl j hjs).2 h1
            rw [this] at hlj
            cases hlj
          · exact h1
        have hji : j = i := by
          rcases Nat.lt_or_ge i j with h1 | h1
          · obtain ⟨e, he, he1, he2⟩ := regionOkT_tail hB (by omega) hoj i h1
            have := hedges e he he2
            rw [he1, hli] at this
            cases this
          · omega
        subst hji
        have hd : ops.toList.drop j = ops[j] :: ops.toList.drop (j + 1) := by
          rw [List.drop_eq_getElem_cons (by simpa using hi)]
          simp
        have next : ∀ a w, wpList P ops Q (ops.toList.drop (j + 1)) a w → wpAny P .any ops Q f (listed.setIfInBounds j true) a w := by
          intro a w h
          refine ih (j + 1) f _ a w (by omega) (by omega) (by omega) (by simpa using hsz) (fun q hq => ?_) h
          rw [Array.getD_eq_getD_getElem?, Array.getElem?_setIfInBounds]
          by_cases hjq : j = q
          · subst hjq
            have : j < listed.size := by omega
            simp [this]
          · rw [if_neg hjq, ← Array.getD_eq_getD_getElem?, hl q hq]
            omega
        rw [hd] at h
        unfold wpOp
        rw [ho]
        simp only []
        unfold wpList at h
        split
        · rename_i hw
          rw [if_pos hw] at h
          rcases h with h | h
          · exact .inl (Oper.wp_mono next h)
          · exact .inr h
        · rename_i hw
          rw [if_neg hw] at h
          exact next _ _ h

theorem wpAny_facts_tail {Q : Exit → Act → World → Prop} (hB : regionOkT ops L N k = true) (hN : a0.tmps.size = N) (hre : ∀ a, Ext a a) (htr : ∀ a b c, Ext a b → Ext b c → Ext a c) (hst : ∀ t v w w', F t v w → Ext w w' → F t v w')
    (hL : ∀ t ∈ L, F t (a0.tmps.getD t undef) w0) (steps : FactSteps P ops S Ext F (ops.toList.take k))
    (final : ∀ a w, OnW ops k S Ext F a0 w0 (Array.replicate ops.size true) a w → wpList P ops Q (ops.toList.drop k) a w) :
    ∀ (fuel : Nat) (listed : Array Bool) (a : Act) (w : World), listed.size = ops.size → unlisted listed ≤ fuel → (∀ j, k ≤ j → listed.getD j false = false) → OnW ops k S Ext F a0 w0 listed a w → wpAny P .any ops Q fuel listed a w := by
  have hk := regionOkT_le hB
  -- all of the head are listed: the tail
  have turn : ∀ (fuel : Nat) (listed : Array Bool) (a : Act) (w : World), listed.size = ops.size → unlisted listed ≤ fuel → (∀ j, k ≤ j → listed.getD j false = false) → (∀ j, j < k → listed.getD j false = true) → OnW ops k S Ext F a0 w0 listed a w → wpAny P .any ops Q fuel listed a w := by
    intro fuel listed a w hsz hu ht hall hw
    refine wpAny_turn hB (ops.size - k) k fuel listed a w (by omega) (Nat.le_refl _) ?_ hsz (fun j hj => ⟨fun h => ?_, hall j⟩) (final a w ⟨hw.s, hw.ext, hw.defers, hw.size, hw.frame, fun j d hjk hj _ => hw.facts j d hjk hj (hall j hjk)⟩)
    · refine Nat.le_trans ?_ hu
      have hlen : listed.toList.drop k = List.replicate (ops.size - k) false := by
        apply List.ext_getElem
        · simp; omega
        · intro i h1 h2
          have h3 := ht (k + i) (by omega)
          have h4 : k + i < listed.size := by simp at h1; omega
          simp [h4] at h3
          simp [h3]
      unfold unlisted
      have hsplit := List.take_append_drop k listed.toList
      rw [← hsplit, List.countP_append, hlen, List.countP_replicate]
      simp
    · rcases Nat.lt_or_ge j k with h1 | h1
      · exact h1
      · rw [ht j h1] at h
        cases h
  intro fuel
  induction fuel with
  | zero =>
    intro listed a w hsz hu ht hw
    refine turn 0 listed a w hsz hu ht (fun j hj => ?_) hw
    have := unlisted_zero (by omega : unlisted listed = 0) j
    have hjs : j < listed.size := by omega
    simp [hjs] at this ⊢
    exact this
  | succ fuel ih =>
    intro listed a w hsz hu ht hw
    by_cases hall : ∀ j, j < k → listed.getD j false = true
    · exact turn (fuel + 1) listed a w hsz hu ht hall hw
    · have hno : ¬ Region.ready .any ops listed = [] := fun hr => hall fun j hj => first_ready hB hsz hr j (by omega)
      refine ⟨fun hr => absurd hr hno, fun i hi => ?_⟩
      obtain ⟨hun, o, ho, hedges⟩ := mem_ready.1 hi
      have his : i < ops.size := (Array.getElem?_eq_some_iff.1 ho).1
      have hik : i < k := by
        rcases Nat.lt_or_ge i k with h1 | h1
        · exact h1
        · exfalso
          refine hall fun j hj => ?_
          obtain ⟨e, he, he1, he2⟩ := regionOkT_tail hB h1 ho j (by omega)
          rw [← he1]
          exact hedges e he he2
      obtain ⟨⟨d, hd, hdN⟩, hdist, hneeds⟩ := regionOkT_head hB hik ho
      have hdi : dstAt ops i = some d := by simp [dstAt, ho, hd]
      have hF : ∀ t ∈ opNeeds ops o, F t (a.tmps.getD t undef) w := by
        intro t ht
        rcases hneeds t ht with ⟨hl, hno⟩ | ⟨j, hjk, hj, e, he, rfl, hb⟩
        · rw [hw.frame t hno]
          exact hst _ _ _ _ (hL t hl) hw.ext
        · exact hw.facts e.on t hjk hj (hedges e he hb)
      have next : ∀ v w', F d v w' → S w' → Ext w w' → OnW ops k S Ext F a0 w0 (listed.setIfInBounds i true) (a.put o.dst v) w' := by
        intro v w' hv hs hx
        rw [hd]
        refine ⟨hs, htr _ _ _ hw.ext hx, hw.defers, by simpa [Act.put] using hw.size, fun t ht => ?_, fun j d' hjk hj hlj => ?_⟩
        · rw [getD_put_other (fun e => ht i hik (by rw [hdi, e]))]
          exact hw.frame t ht
        · rcases listed_set hlj with rfl | hlj'
          · have : d' = d := by rw [hdi] at hj; simpa using hj.symm
            subst this
            rw [getD_put_same (by rw [hw.size, hN]; exact hdN)]
            exact hv
          · by_cases hji : j = i
            · subst hji
              have : d' = d := by rw [hdi] at hj; simpa using hj.symm
              subst this
              rw [getD_put_same (by rw [hw.size, hN]; exact hdN)]
              exact hv
            · have hne : d ≠ d' := fun e => hdist j hjk hji (by rw [hj, hd, e])
              rw [getD_put_other hne]
              exact hst _ _ _ _ (hw.facts j d' hjk hj hlj') hx
      have hu' := unlisted_set hun
      have ht' : ∀ j, k ≤ j → (listed.setIfInBounds i true).getD j false = false := by
        intro j hj
        rw [Array.getD_eq_getD_getElem?, Array.getElem?_setIfInBounds, if_neg (by omega), ← Array.getD_eq_getD_getElem?]
        exact ht j hj
      have hmem : o ∈ ops.toList.take k := by
        rw [List.mem_take_iff_getElem]
        refine ⟨i, by simp; omega, ?_⟩
        have := (Array.getElem?_eq_some_iff.1 ho).2
        simpa using this
      unfold wpOp
      rw [ho]
      simp only []
      rcases steps.get o hmem a w hw.s hF with ⟨hwant, hwp⟩ | ⟨hwant, hv⟩
      · rw [if_pos hwant]
        left
        refine hwp _ _ fun v w' h1 h2 h3 => ih _ _ _ (by simpa using hsz) (by omega) ht' (next v w' ?_ h2 h3)
        rw [hd] at h1
        exact h1
      · rw [if_neg (by rw [hwant]; exact Bool.false_ne_true)]
        rw [hd] at hv
        exact ih _ _ _ (by simpa using hsz) (by omega) ht' (next undef w hv hw.s (hre w))

/-- The region's wp, by its facts; then its tail. -/
theorem fx_region {id : Nat} {T : List (Nat × Value)} {Q : Exit → Act → World → Prop} (S : World → Prop) (Ext : World → World → Prop) (F : Tmp → Value → World → Prop) (L : List Tmp) (k : Nat) {ops : List Oper}
    (hm : P.follows .mixedOrders = true) (fr : Fr N T a0) (hB : regionOkT ops.toArray L N k = true) (hre : ∀ a, Ext a a) (htr : ∀ a b c, Ext a b → Ext b c → Ext a c)
    (hst : ∀ t v w w', F t v w → Ext w w' → F t v w') (hS : S w0.drew) (hL : ∀ t ∈ L, F t (a0.tmps.getD t undef) w0.drew) (steps : FactSteps P ops.toArray S Ext F (ops.take k))
    (final : ∀ a w, OnW ops.toArray k S Ext F a0 w0.drew (Array.replicate ops.toArray.size true) a w → wpList P ops.toArray Q (ops.drop k) a w) : (Code.region id ops.toArray true).wp P Q a0 w0 := by
  refine wp_region_any hm ?_
  refine wpAny_facts_tail hB fr.sz hre htr hst hL steps final _ _ _ _ (by simp) ?_ (fun j hj => ?_) ⟨hS, hre _, rfl, rfl, fun _ _ => rfl, fun j d hjk hj hl => ?_⟩
  · unfold unlisted
    simp
    exact Nat.le_trans List.countP_le_length (by simp)
  · rw [Array.getD_eq_getD_getElem?, Array.getElem?_replicate]
    split <;> rfl
  · rw [Array.getD_eq_getD_getElem?, Array.getElem?_replicate] at hl
    split at hl <;> simp at hl

/-- What the slots hold. -/
def Hold (a : Act) : List (Nat × Value) → Prop
  | [] => True
  | (t, v) :: r => a.tmps.getD t undef = v ∧ Hold a r
theorem Hold.look {a : Act} {U : List (Nat × Value)} (h : Hold a U) {t : Nat} {v : Value} (hl : Go.Proofs.Ytdpkeabmfhnfiaa.look U t = some v) : a.tmps.getD t undef = v := by
  induction U with
  | nil => simp [Go.Proofs.Ytdpkeabmfhnfiaa.look] at hl
  | cons p r ih =>
    obtain ⟨q, u⟩ := p
    rw [look_cons] at hl
    by_cases hq : q = t
    · rw [if_pos hq] at hl
      obtain rfl : u = v := by simpa using hl
      rw [← hq]
      exact h.1
    · rw [if_neg hq] at hl
      exact ih h.2 hl
theorem look_append (U T : List (Nat × Value)) (t : Nat) : look (U ++ T) t = (look U t).or (look T t) := by
  induction U with
  | nil => simp [look]
  | cons p r ih =>
    obtain ⟨q, u⟩ := p
    rw [List.cons_append, look_cons, look_cons, ih]
    split <;> simp
theorem look_mem {U : List (Nat × Value)} {t : Nat} (h : t ∈ U.map (·.1)) : ∃ v, look U t = some v := by
  induction U with
  | nil => cases h
  | cons p r ih =>
    obtain ⟨q, u⟩ := p
    rw [look_cons]
    by_cases hq : q = t
    · exact ⟨u, if_pos hq⟩
    · rw [if_neg hq]
      refine ih ?_
      simp only [List.map_cons, List.mem_cons] at h
      rcases h with h | h
      · exact absurd h.symm hq
      · exact h
/-- The table behind a region. -/
theorem OnW.fr {listed : Array Bool} {a : Act} {w : World} {T : List (Nat × Value)} (h : OnW ops k S Ext F a0 w0 listed a w) (fr : Fr N T a0) (U : List (Nat × Value)) (hU : Hold a U)
    (hd : (List.range k).all (fun j => match dstAt ops j with | some d => (U.map (·.1)).contains d | none => true) = true) : Fr N (U ++ T) a := by
  refine ⟨h.defers.trans fr.df, h.size.trans fr.sz, fun t v hl => ?_⟩
  rw [look_append] at hl
  cases hq : look U t with
  | some u =>
    rw [hq] at hl
    obtain rfl : u = v := by simpa using hl
    exact hU.look hq
  | none =>
    rw [hq] at hl
    rw [h.frame t fun j hj hdj => ?_]
    · exact fr.get t v (by simpa using hl)
    · have := (List.all_eq_true.1 hd) j (List.mem_range.2 hj)
      rw [hdj] at this
      obtain ⟨v, hv⟩ := look_mem (U := U) (t := t) (by simpa using this)
      rw [hq] at hv
      cases hv
theorem OnW.fact {listed : Array Bool} {a : Act} {w : World} (h : OnW ops k S Ext F a0 w0 listed a w) (hl : listed = Array.replicate ops.size true) (j d : Nat) (hjk : j < k) (hk : k ≤ ops.size) (hj : dstAt ops j = some d) : F d (a.tmps.getD d undef) w := by
  subst hl
  refine h.facts j d hjk hj ?_
  rw [Array.getD_eq_getD_getElem?, Array.getElem?_replicate, if_pos (by omega)]
  rfl
end

section
variable {P : Program} {ops : Array Oper} {S : World → Prop} {Ext : World → World → Prop} {F : Tmp → Value → World → Prop} {o : Oper}
/-- A value, whatever world it comes up in. -/
theorem fb_val (hre : ∀ w, Ext w w) (h : ∀ (a : Act) (w : World), S w → (∀ t ∈ opNeeds ops o, F t (a.eval (.tmp t)) w) → ∃ v, (execOp a.eval o).run P w = .ok (.value v) w ∧ F (o.dst.getD 0) v w) : Body P ops S Ext F o := by
  intro a w hs hf K Q hK
  obtain ⟨v, h1, h2⟩ := h a w hs hf
  unfold Oper.wp
  rw [h1]
  exact hK v w h2 hs (hre w)
theorem fb_step (h : ∀ (a : Act) (w : World), S w → (∀ t ∈ opNeeds ops o, F t (a.eval (.tmp t)) w) → ∃ v w', (execOp a.eval o).run P w = .ok (.value v) w' ∧ F (o.dst.getD 0) v w' ∧ S w' ∧ Ext w w') : Body P ops S Ext F o := by
  intro a w hs hf K Q hK
  obtain ⟨v, w', h1, h2, h3, h4⟩ := h a w hs hf
  unfold Oper.wp
  rw [h1]
  exact hK v w' h2 h3 h4
theorem fb_call (h : ∀ (a : Act) (w : World), S w → (∀ t ∈ opNeeds ops o, F t (a.eval (.tmp t)) w) → ∃ fn args, (execOp a.eval o).run P w = .ok (.enter fn args) w ∧ Calls P fn args w (Ret fun v w' => F (o.dst.getD 0) v w' ∧ S w' ∧ Ext w w')) : Body P ops S Ext F o := by
  intro a w hs hf K Q hK
  obtain ⟨f, args, h1, h2⟩ := h a w hs hf
  unfold Oper.wp
  rw [h1]
  exact h2.mono fun e w' ⟨v, he, h3, h4, h5⟩ => by subst he; exact hK v w' h3 h4 h5
end
end Go.Proofs.Ytdpkeabmfhnfiaa
