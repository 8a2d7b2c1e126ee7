/-
  Arguments of the statements opened: arrays, structs and slices of records, as data.
-/
import Derived.Test.YtdjgfkjcpalihaaFXrow
import Derived.ProofKit
import Derived.OpenShut
import Derived.Deep.Slices
namespace Go.Proofs.Ytdjgfkjcpalihaa
open Go.RowKit Go.ChangeShapes Go.WideShapes Go.ChangeAt Go.Deep
section
variable {H : Type} {enc : TypeId × Value → H} {P : Program} {w : World} {base : Nat} {spare : Nat → Bool} {held : Bool} {fuel : Nat} {cs : List Value} {x : DataW H × List MemPlace}

/-- Cells in turn. -/
theorem piece {q n : Nat} {a b : List Value} (h1 : (cs.drop q).take n = a) (h2 : cs.drop (q + n) = b) : cs.drop q = a ++ b := by
  rw [← h1, ← h2, ← List.drop_drop, List.take_append_drop]
theorem trod_ints {t e n : Nat} {k : IntKind} (ht : P.underlying t = some (.array n e)) (he : P.underlying e = some (.int k)) (hC : P.cellsOf e = 1) (hCt : P.cellsOf t = n) (h : DataW.trod enc P w base spare held fuel t cs = some x) :
    ∃ l : List Int, l.length = n ∧ cs = l.map (Value.int k) ∧ ∀ a ∈ l, (Lit.int k a).wf = true := by
  obtain ⟨xs, m, _, _, hl, hxl, hi⟩ := DataW.trod_array ht h
  rw [hC] at hi
  rw [hCt] at hl
  have hb : ∀ i, (h : i < cs.length) → ∃ a : Int, cs[i] = .int k a ∧ (Lit.int k a).wf = true := by
    intro i h
    have h2 := hi i (by omega)
    have e1 : (cs.drop (i * 1)).take 1 = [cs[i]] := by
      rw [Nat.mul_one, List.drop_eq_getElem_cons h]
      rfl
    rw [e1, List.getElem?_eq_getElem (show i < xs.length by omega)] at h2
    obtain ⟨a, e0, _, wa⟩ := DataW.trod_int he h2
    exact ⟨a, by simpa using e0, wa⟩
  obtain ⟨f, hf⟩ : ∃ f : (i : Fin cs.length) → Int, ∀ i : Fin cs.length, cs[i.1] = .int k (f i) ∧ (Lit.int k (f i)).wf = true := ⟨fun i => (hb i i.2).choose, fun i => (hb i i.2).choose_spec⟩
  refine ⟨List.ofFn f, by simp [hl], ?_, ?_⟩
  · apply List.ext_getElem
    · simp
    · intro i h1 h2
      rw [(hf ⟨i, h1⟩).1]
      simp
  · intro a ha
    obtain ⟨i, rfl⟩ := List.mem_ofFn.1 ha
    exact (hf i).2
theorem has_addr {r : Reach} {a : Addr} {e n : Nat} (h : w.has P r base a e n) : ∃ g o, a = ⟨g, o, none⟩ ∧ g < w.heap.size := by
  obtain ⟨_, h1, row, cells, h2, _⟩ := h
  obtain ⟨g, o, s⟩ := a
  subst h1
  refine ⟨g, o, rfl, ?_⟩
  unfold World.shape? at h2
  rcases Nat.lt_or_ge g w.heap.size with h | h
  · exact h
  · have : w.heap[g]? = none := Array.getElem?_eq_none h
    simp [this] at h2
theorem add_none (g o i : Nat) : (⟨g, o, none⟩ : Addr).add i = ⟨g, o + i, none⟩ := by
  unfold Addr.add
  by_cases h : i = 0 <;> simp [h]
/-- A slice of records, as a list. -/
theorem open_recs {α : Type} [DecidableEq α] {E : Enc P α} {OK : α → Prop} {t : TypeId} {r : Reach} {b0 : Nat} {v : Value} {d : DataW H} {p : List MemPlace} (ht : P.underlying t = some (.slice E.T)) (hC : P.cellsOf E.T = E.n)
    (hel : ∀ fuel cs x, DataW.trod enc P w base (fun _ => true) held fuel E.T cs = some x → ∃ m, OK m ∧ cs = E.cells m) (hv : Value.okWide P w r b0 t v) (h : DataW.Trod enc P w base (fun _ => true) held t v d p) :
    ∃ A cap l, v = .slice A l.length cap ∧ View E w A cap l ∧ ∀ m ∈ l, OK m := by
  obtain ⟨a0, len, cap, rfl⟩ := okWide_slice ht hv
  obtain ⟨fuel, hf⟩ := h
  rcases open_slice ht hf with ⟨hcs, _⟩ | ⟨a, l, c, m, n, D, Pl, hcs, _, hl, hm, hz, _, hcell⟩
  · simp [Value.cells] at hcs
    obtain ⟨rfl, rfl, rfl⟩ := hcs
    exact ⟨none, 0, [], rfl, View.nil, by simp⟩
  · simp [Value.cells] at hcs
    obtain ⟨rfl, rfl, rfl⟩ := hcs
    rw [if_pos rfl] at hz
    subst hz
    have hh : w.has P r b0 a E.T m := by
      unfold Value.okWide at hv
      rw [ht] at hv
      simp only [Cell.okWide, ht, Cell.ok] at hv
      exact hv.2.2
    obtain ⟨g, o, rfl, hg⟩ := has_addr hh
    rw [hC] at hcell
    have hb : ∀ i : Fin len, ∃ q : α, OK q ∧ w.rangeAt g (o + i.1 * E.n) (E.cells q) := by
      intro i
      obtain ⟨cs', h1, h2⟩ := hcell i.1 (by omega)
      obtain ⟨q, hq, rfl⟩ := hel _ _ _ h2
      obtain ⟨_, hcl, hat⟩ := World.cells?_some h1
      refine ⟨q, hq, fun j v hj => ?_⟩
      have hjl := (List.getElem?_eq_some_iff.1 hj).1
      have := hat j (by omega)
      rw [add_none, add_none] at this
      rw [this, hj]
    obtain ⟨f, hf⟩ : ∃ f : Fin len → α, ∀ i, OK (f i) ∧ w.rangeAt g (o + i.1 * E.n) (E.cells (f i)) := ⟨fun i => (hb i).choose, fun i => (hb i).choose_spec⟩
    refine ⟨some ⟨g, o, none⟩, m, List.ofFn f, by simp, ⟨by simp; omega, hm, .inr ⟨g, o, rfl, hg, fun j v hj => ?_⟩⟩, ?_⟩
    · have hjl := (List.getElem?_eq_some_iff.1 hj).1
      rw [flat_len, List.length_ofFn] at hjl
      have hn := E.pos
      have hq : j / E.n < len := (Nat.div_lt_iff_lt_mul hn).2 hjl
      have hr : j % E.n < E.n := Nat.mod_lt _ hn
      have hj2 : j / E.n * E.n + j % E.n = j := by rw [Nat.mul_comm]; exact Nat.div_add_mod j E.n
      have e1 := flat_drop (E := E) (List.ofFn f) (j / E.n) (by simpa using hq)
      have e2 : (E.cells (f ⟨j / E.n, hq⟩))[j % E.n]? = some v := by
        rw [List.getElem_ofFn] at e1
        rw [← e1, List.getElem?_take, if_pos hr, List.getElem?_drop, hj2]
        exact hj
      have := (hf ⟨j / E.n, hq⟩).2 (j % E.n) v e2
      rw [← this]
      show _ = w.cell? ⟨g, o + j / E.n * E.n + j % E.n, none⟩
      rw [Nat.add_assoc, hj2]
    · intro q hq
      obtain ⟨i, rfl⟩ := List.mem_ofFn.1 hq
      exact (hf i).1
/-- A record by value. -/
theorem open_rec {α : Type} [DecidableEq α] {E : Enc P α} {OK : α → Prop} {fs : Array Field} {r : Reach} {b0 : Nat} {v : Value} {d : DataW H} {p : List MemPlace} (ht : P.underlying E.T = some (.struct fs))
    (hel : ∀ fuel cs x, DataW.trod enc P w base (fun _ => true) held fuel E.T cs = some x → ∃ m, OK m ∧ cs = E.cells m) (hv : Value.okWide P w r b0 E.T v) (h : DataW.Trod enc P w base (fun _ => true) held E.T v d p) :
    ∃ m, OK m ∧ v = .agg (E.arr m) := by
  obtain ⟨cs, rfl, hsz⟩ := okWide_struct ht hv
  obtain ⟨fuel, hf⟩ := h
  obtain ⟨m, hm, hc⟩ := hel _ _ _ hf
  refine ⟨m, hm, congrArg Value.agg ?_⟩
  have : cs.toList = E.cells m := hc
  apply Array.toList_inj.1
  rw [this, E.toList]
end
end Go.Proofs.Ytdjgfkjcpalihaa
