/-
  Slices of records: what is read (View), what is owned (Own), and 'append' on them. Over tables.
-/
import Derived.Test.YtdjgfkjcpalihaaFXheld
import Derived.Great.BuildSlice
namespace Go.Proofs.Ytdjgfkjcpalihaa
open Go.RowKit

/-- The block of an address that may be none. -/
def inA (A : Option Addr) (k : Nat) : Prop := ∃ o, A = some ⟨k, o, none⟩
def Apart (A : Option Addr) (b : Nat) : Prop := ¬ inA A b
def Apart2 (A B : Option Addr) : Prop := ∀ k, inA A k → inA B k → False

section
variable {P : Program} {α : Type} [DecidableEq α] (E : Enc P α)
/-- The slice value owns these records: nil, or somewhere in a block of its own. -/
def Own (w : World) (A : Option Addr) (cap : Nat) (l : List α) : Prop :=
  l.length ≤ cap ∧ cap ≤ maxLen ∧ ((A = none ∧ cap = 0) ∨ ∃ g o cs, A = some ⟨g, o, none⟩ ∧ Blk w g E.T cs ∧ o + cap * E.n ≤ cs.size ∧ (cs.toList.drop o).take (l.length * E.n) = l.flatMap E.cells)
/-- The slice value reads as these records. -/
def View (w : World) (A : Option Addr) (cap : Nat) (l : List α) : Prop :=
  l.length ≤ cap ∧ cap ≤ maxLen ∧ ((A = none ∧ cap = 0) ∨ ∃ g o, A = some ⟨g, o, none⟩ ∧ g < w.heap.size ∧ w.rangeAt g o (l.flatMap E.cells))
variable {E}
variable {S : Nat → Prop} {w w' : World} {A : Option Addr} {cap : Nat} {l : List α}

theorem flat_len (l : List α) : (l.flatMap E.cells).length = l.length * E.n := by
  induction l with
  | nil => simp
  | cons x l ih => simp [List.flatMap_cons, ih, E.len, Nat.succ_mul, Nat.add_comm]
theorem flat_drop (l : List α) (k : Nat) (h : k < l.length) : ((l.flatMap E.cells).drop (k * E.n)).take E.n = E.cells l[k] := by
  induction l generalizing k with
  | nil => simp at h
  | cons x l ih =>
    cases k with
    | zero =>
      simp only [List.flatMap_cons, Nat.zero_mul, List.drop_zero, List.getElem_cons_zero]
      rw [List.take_append_of_le_length (by rw [E.len]; exact Nat.le_refl _), List.take_of_length_le (by rw [E.len]; exact Nat.le_refl _)]
    | succ k =>
      simp only [List.flatMap_cons, List.getElem_cons_succ]
      have hl : (E.cells x).length = E.n := E.len x
      rw [List.drop_append, List.drop_eq_nil_of_le (by rw [hl, Nat.succ_mul]; omega), List.nil_append, hl, show (k + 1) * E.n - E.n = k * E.n by rw [Nat.succ_mul]; omega]
      exact ih k (by simpa using h)
theorem range_part {g o : Nat} {cs : List Value} (h : w.rangeAt g o cs) (q n : Nat) : w.rangeAt g (o + q) ((cs.drop q).take n) := by
  intro j v hj
  rw [List.getElem?_take] at hj
  split at hj
  · rw [List.getElem?_drop] at hj
    have := h (q + j) v hj
    rwa [Nat.add_assoc]
  · cases hj
theorem range_only {g o : Nat} {cs : List Value} (h : w.rangeAt g o cs) (k : Only S w w') (hs : ¬ S g) : w'.rangeAt g o cs := fun j v hj => k.cell (h j v hj) hs

theorem View.at_ (h : View E w A cap l) (k : Nat) (hk : k < l.length) : ∃ g o, A = some ⟨g, o, none⟩ ∧ g < w.heap.size ∧ w.rangeAt g (o + k * E.n) (E.cells l[k]) := by
  obtain ⟨h1, _, ⟨_, h2⟩ | ⟨g, o, rfl, hg, hr⟩⟩ := h
  · omega
  · refine ⟨g, o, rfl, hg, ?_⟩
    have := range_part hr (k * E.n) E.n
    rwa [flat_drop l k hk] at this
theorem View.only (h : View E w A cap l) (k : Only S w w') (hs : ∀ g, inA A g → ¬ S g) : View E w' A cap l := by
  obtain ⟨h1, h2, h3 | ⟨g, o, rfl, hg, hr⟩⟩ := h
  · exact ⟨h1, h2, .inl h3⟩
  · exact ⟨h1, h2, .inr ⟨g, o, rfl, k.lt hg, range_only hr k (hs g ⟨o, rfl⟩)⟩⟩
theorem View.new (h : View E w A cap l) (k : New w w') : View E w' A cap l := h.only k fun _ _ => id
theorem View.len (h : View E w A cap l) : l.length ≤ cap ∧ cap ≤ maxLen := ⟨h.1, h.2.1⟩
theorem View.apart (h : View E w A cap l) {b : Nat} (hb : w.heap.size ≤ b) : Apart A b := by
  rintro ⟨o, rfl⟩
  obtain ⟨_, _, ⟨h3, _⟩ | ⟨g, o', h3, hg, _⟩⟩ := h
  · cases h3
  · simp only [Option.some.injEq, Addr.mk.injEq] at h3
    omega
theorem Own.view (h : Own E w A cap l) : View E w A cap l := by
  obtain ⟨h1, h2, h3 | ⟨g, o, cs, rfl, hB, hs, ht⟩⟩ := h
  · exact ⟨h1, h2, .inl h3⟩
  · refine ⟨h1, h2, .inr ⟨g, o, rfl, hB.lt, ?_⟩⟩
    exact hB.part ht
theorem Own.only (h : Own E w A cap l) (k : Only S w w') (hs : ∀ g, inA A g → ¬ S g) : Own E w' A cap l := by
  obtain ⟨h1, h2, h3 | ⟨g, o, cs, rfl, hB, h3⟩⟩ := h
  · exact ⟨h1, h2, .inl h3⟩
  · exact ⟨h1, h2, .inr ⟨g, o, cs, rfl, hB.only k (hs g ⟨o, rfl⟩), h3⟩⟩
theorem Own.new (h : Own E w A cap l) (k : New w w') : Own E w' A cap l := h.only k fun _ _ => id
theorem Own.len (h : Own E w A cap l) : l.length ≤ cap ∧ cap ≤ maxLen := ⟨h.1, h.2.1⟩
theorem Own.apart (h : Own E w A cap l) {b : Nat} (hb : w.heap.size ≤ b) : Apart A b := h.view.apart hb
theorem Own.nil : Own E w none 0 [] := ⟨Nat.le_refl _, Nat.zero_le _, .inl ⟨rfl, rfl⟩⟩
theorem View.nil : View E w none 0 [] := ⟨Nat.le_refl _, Nat.zero_le _, .inl ⟨rfl, rfl⟩⟩
theorem View.none_ (h : View E w none cap l) : cap = 0 ∧ l = [] := by
  obtain ⟨h1, _, ⟨_, h3⟩ | ⟨g', o', h3, _⟩⟩ := h
  · subst h3
    exact ⟨rfl, List.length_eq_zero_iff.1 (by omega)⟩
  · cases h3
theorem View.lt (h : View E w A cap l) {g : Nat} (hg : inA A g) : g < w.heap.size := by
  obtain ⟨o, rfl⟩ := hg
  obtain ⟨_, _, ⟨h3, _⟩ | ⟨g', o', h3, hg, _⟩⟩ := h
  · cases h3
  · simp only [Option.some.injEq, Addr.mk.injEq] at h3
    omega
theorem Own.lt (h : Own E w A cap l) {g : Nat} (hg : inA A g) : g < w.heap.size := h.view.lt hg
theorem Apart.ne1 {A : Option Addr} {b : Nat} (h : Apart A b) : ∀ g, inA A g → ¬ g = b := fun _ hg he => h (he ▸ hg)

/-! ### append -/
variable {t ty : TypeId} {z : Value} {bytes : Nat}
/-- What the table of types says of the elements. -/
structure ElemI (E : Enc P α) (t : TypeId) (bytes : Nat) : Prop where
  ty : P.underlying t = some (.slice E.T)
  info : ∃ i z, P.info? E.T = some i ∧ i.zero = some z ∧ i.size = E.n ∧ i.bytes = bytes ∧ z.cells.size = E.n
/-- What 'append' leaves. -/
def Appended (E : Enc P α) (w : World) (A : Option Addr) (l : List α) (w1 : World) (A' : Option Addr) (cap' : Nat) : Prop :=
  Own E w1 A' cap' l ∧ Only (inA A) w w1 ∧ ∀ g, inA A' g → inA A g ∨ w.heap.size ≤ g

theorem run_append_in {i : TypeInfo} (ht : P.underlying t = some (.slice E.T)) (hi : P.info? E.T = some i) (hs : i.size = E.n) {g o n c : Nat} {cs : Array Value} (hB : Blk w g E.T cs) {u : Value} {m : Nat} {news : List Value} (hl : news.length = m * E.n)
    (hlen : (Builtin.lenOf u).run P w = .ok m w) (hf : (Builtin.firstCells E.n m u).run P w = .ok news.toArray w) (h1 : ∀ u ∈ news, u.oneCell' = true) (hroom : n + m ≤ c) (hfit : o + c * E.n ≤ cs.size) :
    (Builtin.append_ #[t, t] ty #[.slice (some ⟨g, o, none⟩) n c, u]).run P w = .ok (.slice (some ⟨g, o, none⟩) (n + m) c) (w.setRow g (cs.toList.take (o + n * E.n) ++ news ++ cs.toList.drop (o + n * E.n + news.length)).toArray) := by
  have hle : n * E.n + m * E.n ≤ c * E.n := by rw [← Nat.add_mul]; exact Nat.mul_le_mul_right _ hroom
  have hst := run_storeCells_at P g (o + n * E.n) E.T news 0 cs w hB (by rw [hl]; omega) h1
  simp only [Nat.add_zero] at hst
  simp [Builtin.append_, run_underlying ht, sizeOf, typeInfo, hi, hs, hlen, hroom, hf, Addr.add_mid, hst]

theorem run_append_E (hE : ElemI E t bytes) (h : Own E w A cap l) {B : Option Addr} {c : Nat} {l' : List α} (hv : View E w B c l') (hb : (l.length + l'.length) * bytes ≤ 140737488355328) (hm : l.length + l'.length ≤ maxLen) :
    ∃ A' cap' w1, (Builtin.append_ #[t, t] ty #[.slice A l.length cap, .slice B l'.length c]).run P w = .ok (.slice A' (l ++ l').length cap') w1 ∧ Appended E w A (l ++ l') w1 A' cap' := by
  obtain ⟨i, z, hi, hz, hs, hby, hzc⟩ := hE.info
  have hlen : (Builtin.lenOf (.slice B l'.length c)).run P w = .ok l'.length w := by simp [Builtin.lenOf]
  have hn : (l'.flatMap E.cells).length = l'.length * E.n := flat_len l'
  have h1 : ∀ u ∈ l'.flatMap E.cells, u.oneCell' = true := by
    intro u hu
    obtain ⟨x, _, hx⟩ := List.mem_flatMap.1 hu
    exact E.one x u hx
  have hsrc : (∃ ad, B = some ad ∧ ∀ j v, (l'.flatMap E.cells)[j]? = some v → w.cell? (ad.add j) = some v) ∨ (B = none ∧ l' = []) := by
    obtain ⟨q1, _, ⟨q2, q3⟩ | ⟨g, o, rfl, _, hr⟩⟩ := hv
    · exact .inr ⟨q2, List.eq_nil_of_length_eq_zero (by omega)⟩
    · exact .inl ⟨_, rfl, fun j v hj => by rw [Addr.add_mid]; exact hr j v hj⟩
  have hfirst : (Builtin.firstCells E.n l'.length (.slice B l'.length c)).run P w = .ok (l'.flatMap E.cells).toArray w := by
    rcases hsrc with ⟨ad, rfl, hc⟩ | ⟨rfl, rfl⟩
    · exact run_firstCells_some (P := P) w E.n l'.length ad l'.length c _ hn hc
    · exact run_firstCells_none (P := P) w E.n _ _ _
  have hlt : l.length + l'.length ≤ 9223372036854775807 := by unfold maxLen at hm; omega
  rw [List.length_append]
  have fresh : ∀ (cells : Array Value) (cap' : Nat), cap' ≤ maxLen → l.length + l'.length ≤ cap' → cells.size = cap' * E.n → (cells.toList.take ((l.length + l'.length) * E.n)) = (l ++ l').flatMap E.cells →
      Appended E w A (l ++ l') (w.drew.alloc (.cells cells E.T)) (some ⟨w.heap.size, 0, none⟩) cap' := by
    intro cells cap' hc1 hc2 hc3 hc4
    refine ⟨⟨by rw [List.length_append]; exact hc2, hc1, .inr ⟨w.heap.size, 0, cells, rfl, Go.heap_alloc_new w.drew _, by omega, ?_⟩⟩, ((Only.refl _ w).drew).alloc _, ?_⟩
    · rw [List.drop_zero, List.length_append]
      exact hc4
    · rintro g ⟨o, ho⟩
      simp only [Option.some.injEq, Addr.mk.injEq] at ho
      omega
  obtain ⟨k1, k2, ⟨rfl, rfl⟩ | ⟨g, o, cs, rfl, hB, hfit, htake⟩⟩ := h
  · have hl0 : l = [] := List.eq_nil_of_length_eq_zero (by omega)
    subst hl0
    rcases hsrc with ⟨ad, rfl, hc⟩ | ⟨rfl, rfl⟩
    · by_cases h0 : l'.length = 0
      · have : l' = [] := List.eq_nil_of_length_eq_zero h0
        subst this
        refine ⟨none, 0, w, ?_, Own.nil, Only.refl _ _, fun g hg => .inl hg⟩
        simp at hfirst
        simp [Builtin.append_, run_underlying hE.ty, sizeOf, typeInfo, hi, Builtin.lenOf, hs, hfirst]
      · have hr := run_append_nil (P := P) w t ty E.T i z hE.ty hi hz ad l'.length c (l'.flatMap E.cells) (by rw [hn, hs]) hc (by omega) (by have h9 := hlt; simp at h9; omega) (by rw [hby]; simp at hb; omega)
        refine ⟨_, _, _, by simpa using hr, ?_⟩
        have hge := grownCap_ge w l'.length 0 E.T
        refine fresh _ _ (grownCap_le_maxLen w _ _ _ (by simpa using hm)) (by simpa using hge) ?_ ?_
        · simp only [Array.size_append, List.size_toArray, size_zeroCells, hzc, hn, ← Nat.add_mul]
          congr 1
          omega
        · simp only [Array.toList_append, List.length_nil, Nat.zero_add, List.nil_append]
          rw [List.take_append_of_le_length (by simp [hn]), List.take_of_length_le (by simp [hn])]
    · refine ⟨none, 0, w, ?_, Own.nil, Only.refl _ _, fun g hg => .inl hg⟩
      simp [Builtin.append_, run_underlying hE.ty, sizeOf, typeInfo, hi, Builtin.lenOf, Builtin.firstCells]
  · by_cases hroom : l.length + l'.length ≤ cap
    · have hr := run_append_in (ty := ty) (n := l.length) hE.ty hi hs hB hn hlen hfirst h1 hroom hfit
      have hle : l.length * E.n + l'.length * E.n ≤ cap * E.n := by rw [← Nat.add_mul]; exact Nat.mul_le_mul_right _ hroom
      refine ⟨_, _, _, hr, ⟨by rw [List.length_append]; exact hroom, k2, .inr ⟨g, o, _, rfl, setRow_self' hB, ?_, ?_⟩⟩, (Only.refl (inA (some ⟨g, o, none⟩)) w).setRow (fun _ => ⟨o, rfl⟩) _, fun g' hg' => .inl hg'⟩
      · simp only [List.size_toArray, List.length_append, List.length_take, List.length_drop, Array.length_toList, hn]
        omega
      · have hlt2 : l.flatMap E.cells = (cs.toList.take (o + l.length * E.n)).drop o := by rw [← htake, List.drop_take]; congr 1; omega
        have hll := flat_len (E := E) l
        have e0 : o + l.length * E.n ≤ cs.toList.length := by
          have : cs.toList.length = cs.size := Array.length_toList
          omega
        rw [List.length_append, Nat.add_mul, List.flatMap_append, List.append_assoc, List.drop_append, List.length_take, Nat.min_eq_left e0, show o - (o + l.length * E.n) = 0 by omega, List.drop_zero, ← hlt2,
          List.take_append, hll, List.take_of_length_le (by omega), show l.length * E.n + l'.length * E.n - l.length * E.n = l'.length * E.n by omega, List.take_append_of_le_length (by omega), List.take_of_length_le (by omega)]
    · rcases hsrc with ⟨ad, rfl, hc⟩ | ⟨rfl, rfl⟩
      · have holds : ∀ j v, (l.flatMap E.cells)[j]? = some v → w.cell? ((⟨g, o, none⟩ : Addr).add j) = some v := by
          intro j v hj
          rw [Addr.add_mid]
          exact hB.part htake j v hj
        have hr := run_append_grow (P := P) w t ty E.T i z hE.ty hi hz ⟨g, o, none⟩ l.length cap (l.flatMap E.cells) (by rw [flat_len, hs]) holds ad l'.length c (l'.flatMap E.cells) (by rw [hn, hs]) hc (by omega) (by omega) (growslice_fits (by omega) (by rw [hby]; exact hb))
        refine ⟨_, _, _, hr, ?_⟩
        have hge := grownCap_ge w (l.length + l'.length) cap E.T
        refine fresh _ _ (grownCap_le_maxLen w _ _ _ hm) hge ?_ ?_
        · simp only [Array.size_append, List.size_toArray, size_zeroCells, hzc, flat_len, ← Nat.add_mul]
          congr 1
          omega
        · have e1 : ((l ++ l').flatMap E.cells).length = (l.length + l'.length) * E.n := by rw [flat_len, List.length_append]
          simp only [Array.toList_append]
          rw [← e1, ← List.flatMap_append]
          exact List.take_left
      · simp only [List.length_nil, Nat.add_zero] at hroom
        omega
end
section
variable {P : Program} {α : Type} [DecidableEq α] {E : Enc P α} {N : Nat × List Deferred} {T : List (Nat × Value)} {a : Act} {w : World} {Q : Exit → Act → World → Prop} {ops : Array Oper} {rest : List Oper} {o : Oper} {d : Nat} {t : TypeId} {bytes : Nat}
/-- 'append', at the walk. -/
theorem fx_append (hE : ElemI E t bytes) (fr : Fr N T a) (hw : Region.wanted o (yielded ops a.tmps) = true) (hd : o.dst = some d) (hN : d < N.1) {x y : Operand} (ho : o.op = .call { callee := .builtin .append, args := #[x, y], argTypes := #[t, t] })
    {A B : Option Addr} {cap c n m : Nat} {l l' : List α} (hx : a.eval x = .slice A n cap) (hy : a.eval y = .slice B m c) (hn : n = l.length) (hm' : m = l'.length) (h : Own E w A cap l) (hv : View E w B c l') (hb : (l.length + l'.length) * bytes ≤ 140737488355328) (hm : l.length + l'.length ≤ maxLen)
    (next : ∀ A' cap' w1, Own E w1 A' cap' (l ++ l') → Only (inA A) w w1 → (∀ g, inA A' g → inA A g ∨ w.heap.size ≤ g) → ∀ a, Fr N ((d, .slice A' (l ++ l').length cap') :: T) a → wpList P ops Q rest a w1) : wpList P ops Q (o :: rest) a w := by
  subst hn hm'
  obtain ⟨A', cap', w1, hr, h1, h2, h3⟩ := run_append_E (ty := o.type) hE h hv hb hm
  refine fx_val (v := .slice A' (l ++ l').length cap') (w1 := w1) fr hw hd hN ?_ fun a fr => next A' cap' w1 h1 h2 h3 a fr
  simp [execOp, ho, resolve, invoke, builtin, hx, hy, hr, Result.andThen]
end

section
variable {P : Program} {α : Type} [DecidableEq α] {E : Enc P α} {w : World} {A : Option Addr} {cap : Nat} {l : List α}
/-! ### Elements -/
theorem View.some_ (h : View E w A cap l) (hk : 0 < l.length) : ∃ g o, A = some ⟨g, o, none⟩ := by
  obtain ⟨g, o, h1, _⟩ := h.at_ 0 hk
  exact ⟨g, o, h1⟩
theorem View.elem (h : View E w A cap l) {g o : Nat} (hA : A = some ⟨g, o, none⟩) (k : Nat) (d : α) (hk : k < l.length) : w.rangeAt g (o + k * E.n) (E.cells (l.getD k d)) := by
  obtain ⟨g', o', h1, _, h2⟩ := h.at_ k hk
  rw [hA] at h1
  simp only [Option.some.injEq, Addr.mk.injEq, and_true] at h1
  obtain ⟨rfl, rfl⟩ := h1
  rwa [List.getD_eq_getElem?_getD, List.getElem?_eq_getElem hk]
theorem range_cell {g o : Nat} {cs : List Value} (h : w.rangeAt g o cs) (q : Nat) {v : Value} (hv : cs[q]? = some v) {q' : Nat} (hq : o + q = q') : w.cell? ⟨g, q', none⟩ = some v := by
  subst hq; exact h q v hv
theorem range_sub {g o : Nat} {cs l : List Value} (h : w.rangeAt g o cs) (q n : Nat) (hl : (cs.drop q).take n = l) {q' : Nat} (hq : o + q = q') : w.rangeAt g q' l := by
  subst hq; subst hl; exact range_part h q n
theorem View.take (h : View E w A cap l) (k : Nat) (hk : k ≤ l.length) : View E w A k (l.take k) := by
  obtain ⟨h1, h2, ⟨rfl, h3⟩ | ⟨g, o, rfl, hg, hr⟩⟩ := h
  · exact ⟨by rw [List.length_take]; omega, by omega, .inl ⟨rfl, by omega⟩⟩
  · refine ⟨by rw [List.length_take]; omega, by omega, .inr ⟨g, o, rfl, hg, fun j v hj => hr j v ?_⟩⟩
    conv => lhs; rw [← List.take_append_drop k l, List.flatMap_append]
    rw [List.getElem?_append_left (List.getElem?_eq_some_iff.1 hj).1]
    exact hj
theorem Own.take (h : Own E w A cap l) (k : Nat) (hk : k ≤ l.length) : Own E w A k (l.take k) := by
  obtain ⟨h1, h2, ⟨rfl, h3⟩ | ⟨g, o, cs, rfl, hB, hs, ht⟩⟩ := h
  · exact ⟨by rw [List.length_take]; omega, by omega, .inl ⟨rfl, by omega⟩⟩
  · refine ⟨by rw [List.length_take]; omega, by omega, .inr ⟨g, o, cs, rfl, hB, ?_, ?_⟩⟩
    · have : k * E.n ≤ cap * E.n := Nat.mul_le_mul_right _ (by omega)
      omega
    · have e : (l.flatMap E.cells).take (k * E.n) = (l.take k).flatMap E.cells := by
        conv => lhs; rw [← List.take_append_drop k l, List.flatMap_append]
        rw [List.take_append_of_le_length (by rw [flat_len, List.length_take, Nat.min_eq_left hk]; exact Nat.le_refl _), List.take_of_length_le (by rw [flat_len, List.length_take, Nat.min_eq_left hk]; exact Nat.le_refl _)]
      rw [List.length_take, Nat.min_eq_left hk, ← e, ← ht, List.take_take, Nat.min_eq_left (Nat.mul_le_mul_right _ hk)]
/-- What a cut from k on has for its address. -/
theorem View.pre (h : View E w A cap l) (k : Nat) : View E w A cap (l.take k) := by
  obtain ⟨h1, h2, h3⟩ := h
  refine ⟨Nat.le_trans (by simp; omega) h1, h2, h3.imp id fun ⟨g, o, e1, e2, e3⟩ => ⟨g, o, e1, e2, fun j v hj => e3 j v ?_⟩⟩
  have e : l.flatMap E.cells = (l.take k).flatMap E.cells ++ (l.drop k).flatMap E.cells := by rw [← List.flatMap_append, List.take_append_drop]
  rw [e, List.getElem?_append_left (List.getElem?_eq_some_iff.1 hj).1]
  exact hj
def cutA (A : Option Addr) (cap k n : Nat) : Option Addr := if cap = k then A else A.map (·.add (k * n))
theorem View.drop (h : View E w A cap l) (k : Nat) (hk : k ≤ l.length) : View E w (cutA A cap k E.n) (cap - k) (l.drop k) := by
  obtain ⟨h1, h2, ⟨rfl, h3⟩ | ⟨g, o, rfl, hg, hr⟩⟩ := h
  · refine ⟨by rw [List.length_drop]; omega, by omega, .inl ⟨?_, by omega⟩⟩
    unfold cutA; split <;> rfl
  · refine ⟨by rw [List.length_drop]; omega, by omega, .inr ?_⟩
    unfold cutA
    split
    · rename_i hc
      have : l.drop k = [] := List.drop_eq_nil_of_le (by omega)
      exact ⟨g, o, rfl, hg, by rw [this]; intro j v hj; simp at hj⟩
    · refine ⟨g, o + k * E.n, by simp [Addr.add_mid], hg, fun j v hj => ?_⟩
      rw [Nat.add_assoc]
      refine hr _ v ?_
      conv => lhs; rw [← List.take_append_drop k l, List.flatMap_append]
      have e : ((l.take k).flatMap E.cells).length = k * E.n := by rw [flat_len, List.length_take, Nat.min_eq_left hk]
      rw [List.getElem?_append_right (by rw [e]; omega), e, Nat.add_sub_cancel_left]
      exact hj
end
section
variable {P : Program} {w : World} {ev : Operand → Value} {o : Oper} {x y z : Operand} {k : IntKind} {t e s n c j : Nat} {A : Option Addr}
theorem x_indexV {g q : Nat} (hu : P.underlying t = some (.slice e)) (hs : (P.info? e).map (·.size) = some s) (ho : o.op = .indexAddr t x y) (hx : ev x = .slice A n c) (hA : A = some ⟨g, q, none⟩) (hy : ev y = .int k ((j : Nat) : Int)) (hj : j < n) {q' : Nat} (hq : q + j * s = q') :
    (execOp ev o).run P w = .ok (.value (.pointer (some ⟨g, q', none⟩))) w := by
  subst hA
  exact x_indexAddr hu hs ho hx hy hj hq
theorem run_bound {y : Nat} (hj : j ≤ y) (code : BoundsCode) : (Instr.sliceBound (.int k ((j : Nat) : Int)) y code).run P w = .ok j w := by
  simp [Instr.sliceBound, asIntOf, hj]
theorem x_slice_pre (hu : P.underlying t = some (.slice e)) (hs : (P.info? e).map (·.size) = some s) (ho : o.op = .slice t x none (some y) (some z)) (hx : ev x = .slice A n c) (hy : ev y = .int k ((j : Nat) : Int)) (hz : ev z = .int k ((j : Nat) : Int)) (hj : j ≤ c) :
    (execOp ev o).run P w = .ok (.value (.slice A j j)) w := by
  cases h3 : P.info? e with
  | none => simp [h3] at hs
  | some i =>
    simp only [h3, Option.map_some, Option.some.injEq] at hs
    cases A <;> simp [execOp, ho, hx, hy, hz, Instr.sliceAt, Instr.slice, Instr.sliceBounds, run_underlying hu, run_bound hj, run_bound (Nat.le_refl j), sizeOf, typeInfo, h3, Addr.add]
theorem x_slice_to (hu : P.underlying t = some (.slice e)) (hs : (P.info? e).map (·.size) = some s) (ho : o.op = .slice t x none (some y) none) (hx : ev x = .slice A n c) (hy : ev y = .int k ((j : Nat) : Int)) (hj : j ≤ c) :
    (execOp ev o).run P w = .ok (.value (.slice A j c)) w := by
  cases h3 : P.info? e with
  | none => simp [h3] at hs
  | some i =>
    simp only [h3, Option.map_some, Option.some.injEq] at hs
    cases A <;> simp [execOp, ho, hx, hy, Instr.sliceAt, Instr.slice, Instr.sliceBounds, run_underlying hu, run_bound hj, sizeOf, typeInfo, h3, Addr.add]
theorem x_slice_from (hu : P.underlying t = some (.slice e)) (hs : (P.info? e).map (·.size) = some s) (ho : o.op = .slice t x (some y) none none) (hx : ev x = .slice A n c) (hy : ev y = .int k ((j : Nat) : Int)) (hj : j ≤ n) :
    (execOp ev o).run P w = .ok (.value (.slice (cutA A c j s) (n - j) (c - j))) w := by
  cases h3 : P.info? e with
  | none => simp [h3] at hs
  | some i =>
    simp only [h3, Option.map_some, Option.some.injEq] at hs
    simp [execOp, ho, hx, hy, Instr.sliceAt, Instr.slice, Instr.sliceBounds, run_underlying hu, run_bound hj, sizeOf, typeInfo, h3, hs, cutA]
end
theorem inA_new {b : Nat} : ∀ g, inA (some ⟨b, 0, none⟩) g → b ≤ g := by
  rintro g ⟨o, ho⟩
  simp only [Option.some.injEq, Addr.mk.injEq] at ho
  omega
theorem apart_none (b : Nat) : Apart none b := by rintro ⟨o, ho⟩; cases ho
theorem only_none {w w' : World} (h : Only (inA none) w w') : New w w' := h.mono fun i _ hi => absurd hi (apart_none i)
theorem moved_apart {w : World} {A A' : Option Addr} {b : Nat} (h : ∀ g, inA A' g → inA A g ∨ w.heap.size ≤ g) (ha : Apart A b) (hb : b < w.heap.size) : Apart A' b := fun hi => by
  rcases h b hi with h1 | h1
  · exact ha h1
  · omega
theorem moved_apart2 {w : World} {A A' B : Option Addr} (h : ∀ g, inA A' g → inA A g ∨ w.heap.size ≤ g) (ha : Apart2 A B) (hb : ∀ g, inA B g → g < w.heap.size) : Apart2 A' B := fun k h1 h2 => by
  rcases h k h1 with h3 | h3
  · exact ha k h3 h2
  · have := hb k h2; omega
theorem new_apart {w : World} {A : Option Addr} {b : Nat} (h : ∀ g, inA A g → w.heap.size ≤ g) (hb : b < w.heap.size) : Apart A b := fun hi => by
  have := h b hi; omega
theorem new_apart2 {w : World} {A B : Option Addr} (h : ∀ g, inA A g → w.heap.size ≤ g) (hb : ∀ g, inA B g → g < w.heap.size) : Apart2 A B := fun k h1 h2 => by
  have := h k h1; have := hb k h2; omega
theorem Apart2.symm {A B : Option Addr} (h : Apart2 A B) : Apart2 B A := fun k h1 h2 => h k h2 h1
theorem Only.locA {S : Nat → Prop} {a w w' : World} {A : Option Addr} (h : Only S a w) (k : Only (inA A) w w') (hA : ∀ g, inA A g → S g ∨ a.heap.size ≤ g) : Only S a w' :=
  h.trans k fun i hi he => (hA i he).elim id fun h => by omega
theorem Only.loc2 {S : Nat → Prop} {a w w' : World} {b : Nat} {A : Option Addr} (h : Only S a w) (k : Only (fun j => j = b ∨ inA A j) w w') (hb : S b ∨ a.heap.size ≤ b) (hA : ∀ g, inA A g → S g ∨ a.heap.size ≤ g) : Only S a w' :=
  h.trans k fun i hi he => he.elim (fun e => by subst e; exact hb.elim id fun h => by omega) fun he => (hA i he).elim id fun h => by omega
theorem gA_new {S : Nat → Prop} {a w : World} {A : Option Addr} (hF : Only S a w) (h : ∀ g, inA A g → w.heap.size ≤ g) : ∀ g, inA A g → S g ∨ a.heap.size ≤ g := fun g hg => .inr (Nat.le_trans hF.size (h g hg))
theorem gA_moved {S : Nat → Prop} {a w : World} {A A' : Option Addr} (hF : Only S a w) (h : ∀ g, inA A' g → inA A g ∨ w.heap.size ≤ g) (hA : ∀ g, inA A g → S g ∨ a.heap.size ≤ g) : ∀ g, inA A' g → S g ∨ a.heap.size ≤ g :=
  fun g hg => (h g hg).elim (hA g) fun h => .inr (Nat.le_trans hF.size h)
theorem gA_none {S : Nat → Prop} {a : World} : ∀ g, inA none g → S g ∨ a.heap.size ≤ g := fun g hg => absurd hg (apart_none g)

/-! ### Slice literals -/
theorem fold_set (l : List Value) : ∀ (k : Nat) (z : Array Value), k + l.length ≤ z.size → (l.zipIdx k).foldl (fun cs x => cs.setIfInBounds x.2 x.1) z = (z.toList.take k ++ (l ++ z.toList.drop (k + l.length))).toArray := by
  induction l with
  | nil => intro k z h; simp
  | cons v l ih =>
    intro k z h
    simp only [List.length_cons] at h
    rw [List.zipIdx_cons, List.foldl_cons, ih (k + 1) _ (by simp; omega)]
    obtain ⟨z⟩ := z
    simp only [List.size_toArray] at h
    congr 1
    simp only [List.setIfInBounds_toArray]
    rw [List.take_set, List.drop_set_of_lt (by omega), List.take_succ_eq_append_getElem (by omega), List.set_append_right _ _ (by rw [List.length_take]; omega)]
    simp [List.length_take, Nat.min_eq_left (show k ≤ z.length by omega), Nat.add_assoc, Nat.add_comm 1 l.length]
theorem fill_one {n : Nat} (z cs : Array Value) (h0 : z.size = n) (hc : cs.size = n) : Instr.fill (fun q => some (q * n, n)) z [(0, .agg cs)] = some cs := by
  have hcells : (Value.agg cs).cells = cs := rfl
  unfold Instr.fill
  simp only [Nat.zero_mul, hcells, hc, h0, ne_eq, not_true_eq_false, decide_false, Bool.false_or, Nat.zero_add, gt_iff_lt, Nat.lt_irrefl, Bool.false_eq_true, if_false]
  unfold Instr.fill
  congr 1
  rw [← Array.foldl_toList, Array.toList_zipIdx]
  have hfs := fold_set cs.toList 0 z (by simp [hc, h0])
  rw [hfs]
  apply Array.ext'
  simp [hc, h0]
section
variable {P : Program} {α : Type} [DecidableEq α] {E : Enc P α} {N : Nat × List Deferred} {T : List (Nat × Value)} {a : Act} {w : World} {Q : Exit → Act → World → Prop} {ops : Array Oper} {rest : List Oper} {o : Oper} {d : Nat} {t : TypeId} {bytes : Nat}
/-- A slice literal of one record. -/
theorem fx_build1 (hE : ElemI E t bytes) (hs : E.n ≤ 1000) (fr : Fr N T a) (hw : Region.wanted o (yielded ops a.tmps) = true) (hd : o.dst = some d) (hN : d < N.1) {x : Operand} (ho : o.op = .buildSlice t 1 #[(0, x)]) {p : α} (hx : a.eval x = .agg (E.arr p))
    (next : ∀ A w1, New w w1 → Own E w1 A 1 [p] → (∀ g, inA A g → w.heap.size ≤ g) → ∀ a, Fr N ((d, .slice A 1 1) :: T) a → wpList P ops Q rest a w1) : wpList P ops Q (o :: rest) a w := by
  obtain ⟨i, z, hi, hz, hsz, hby, hzc⟩ := hE.info
  have hpos := E.pos
  refine fx_val (v := .slice (some ⟨w.heap.size, 0, none⟩) 1 1) (w1 := w.alloc (.cells (E.arr p) E.T)) fr hw hd hN ?_ fun a fr => next _ _ ((Only.refl _ w).alloc _) ⟨by simp, by unfold maxLen; omega, .inr ⟨_, 0, _, rfl, Go.heap_alloc_new w _, by rw [E.size]; omega, ?_⟩⟩ inA_new a fr
  · have hfill : Instr.fill (fun q => some (q * i.size, i.size)) ((Array.range (1 * i.size)).map (z.cells[· % z.cells.size]!)) [(0, .agg (E.arr p))] = some (E.arr p) := fill_one _ _ (by simp) (by rw [E.size, hsz])
    have := run_buildSlice (P := P) w t E.T 1 #[(0, .agg (E.arr p))] (E.arr p) i z hE.ty hi hz (by rw [hsz]; omega) (by rw [hsz]; omega) hfill
    simp [execOp, ho, hx, this]
  · rw [List.drop_zero, E.toList, List.take_of_length_le (by rw [E.len]; simp)]
    simp
/-- The empty slice literal. -/
theorem fx_build0 (hE : ElemI E t bytes) (fr : Fr N T a) (hw : Region.wanted o (yielded ops a.tmps) = true) (hd : o.dst = some d) (hN : d < N.1) (ho : o.op = .buildSlice t 0 #[])
    (next : ∀ A w1, New w w1 → Own E w1 A 0 [] → (∀ g, inA A g → w.heap.size ≤ g) → ∀ a, Fr N ((d, .slice A 0 0) :: T) a → wpList P ops Q rest a w1) : wpList P ops Q (o :: rest) a w := by
  obtain ⟨i, z, hi, hz, hsz, hby, hzc⟩ := hE.info
  refine fx_val (v := .slice (some ⟨w.heap.size, 0, none⟩) 0 0) (w1 := w.alloc (.cells #[] E.T)) fr hw hd hN ?_ fun a fr => next _ _ ((Only.refl _ w).alloc _) ⟨by simp, by unfold maxLen; omega, .inr ⟨_, 0, _, rfl, Go.heap_alloc_new w _, by simp, by simp⟩⟩ inA_new a fr
  simp [execOp, ho, Instr.buildSlice, run_underlying hE.ty, sizeOf, typeInfo, hi, Instr.fill, newRow]
  congr 2
  apply Array.ext
  · simp
  · intro j h1 h2
    simp at h2
end

/-! ### A cell of an element is written -/
section
variable {P : Program} {α : Type} [DecidableEq α] {E : Enc P α} {N : Nat × List Deferred} {T : List (Nat × Value)} {a : Act} {w : World} {Q : Exit → Act → World → Prop} {ops : Array Oper} {rest : List Oper} {o : Oper} {t : TypeId}
theorem flat_set {x' : α} {q : Nat} {v : Value} (hq : q < E.n) : ∀ (l : List α) (i : Nat) (h : i < l.length), (E.cells l[i]).set q v = E.cells x' → (l.flatMap E.cells).set (i * E.n + q) v = (l.set i x').flatMap E.cells
  | [], i, h, _ => absurd h (Nat.not_lt_zero _)
  | b :: r, 0, _, hx => by
    simp only [List.flatMap_cons, List.set_cons_zero, Nat.zero_mul, Nat.zero_add]
    rw [List.set_append_left _ _ (by rw [E.len]; exact hq)]
    rw [List.getElem_cons_zero] at hx
    rw [hx]
  | b :: r, i + 1, h, hx => by
    have ih := flat_set hq r i (by simpa using h) (by simpa using hx)
    simp only [List.flatMap_cons, List.set_cons_succ]
    rw [List.set_append_right _ _ (by rw [E.len, Nat.succ_mul]; omega), ← ih]
    congr 2
    rw [E.len, Nat.succ_mul]
    omega
theorem fx_storeEl {A : Option Addr} {g o' cap j q : Nat} {l : List α} {x' d : α} {v : Value} {x y : Operand} (hs : (P.info? t).map (·.size) = some 1) (hw : Region.wanted o (yielded ops a.tmps) = true) (hd : o.dst = none) (ho : o.op = .store t x y) (hA : A = some ⟨g, o', none⟩) (hO : Own E w A cap l) (hj : j < l.length) (hq : q < E.n)
    {ad : Nat} (hx : a.eval x = .pointer (some ⟨g, ad, none⟩)) (had : o' + j * E.n + q = ad) (hy : a.eval y = v) (hv : v.oneCell' = true) (hx' : (E.cells (l.getD j d)).set q v = E.cells x')
    (next : ∀ w1, Only (inA A) w w1 → Own E w1 A cap (l.set j x') → wpList P ops Q rest a w1) : wpList P ops Q (o :: rest) a w := by
  subst had
  obtain ⟨h1, h2, ⟨h3, _⟩ | ⟨g', o2, cs, h3, hB, hs', ht⟩⟩ := hO
  · rw [hA] at h3; cases h3
  rw [hA] at h3
  cases h3
  have hjn : j * E.n + E.n ≤ cap * E.n := by
    rw [← Nat.succ_mul]
    exact Nat.mul_le_mul_right _ (by omega)
  have hin : o' + j * E.n + q < cs.size := by omega
  have hg : l.getD j d = l[j] := by simp [List.getD, hj]
  refine fx_store1 hs hw hd ho hx hy hv hB hin rfl fun w1 hO1 hB1 => next w1 (hO1.mono fun k _ hk => ⟨o', by rw [hA, hk]⟩) ⟨by simpa using h1, h2, .inr ⟨g, o', _, hA, hB1, by simpa using hs', ?_⟩⟩
  rw [← flat_set hq l j hj (by rw [← hg]; exact hx'), ← ht, List.length_set, Array.toList_setIfInBounds, List.drop_set, if_neg (by omega), List.take_set]
  congr 1
  omega
end
end Go.Proofs.Ytdjgfkjcpalihaa
