/-
  Plain facts for the statements on copies, on room, on nothing.
-/
import Derived.Test.YtdjgfkjcpalihaaLinH
namespace Go.Proofs.Ytdjgfkjcpalihaa
open Go.RowKit
theorem same_l {n : Nat} {w : Int} {A B : List Ln} : (decide (w = w) && decide (n = n ∧ allL n A = allL n B)) = decide (allL n A = allL n B) := by simp
theorem same_r {n : Nat} {w : Int} {A B : List Ln} : (decide (w = w) && decide (n = n ∧ allL n A = allL n B)) = decide (allL n B = allL n A) := by
  rw [same_l]
  exact decide_eq_decide.2 eq_comm
theorem same_t {n : Nat} {w : Int} {A : List Ln} : (decide (w = w) && decide (n = n ∧ allL n A = allL n A)) = true := by simp
theorem same_w {n : Nat} {w v : Int} {A : List Ln} : (decide (w = v) && decide (n = n ∧ allL n A = allL n A)) = decide (w = v) := by simp
theorem allL_nil {n : Nat} (hn : 0 < n) : (allL n []).length = 0 := by
  rw [allL_len hn]
  rfl
theorem right_wider {n : Nat} {ways : Int} (h : rightB ((n : Nat) : Int) ways = true) : rightB ((n : Nat) : Int) (Int.tmod ways 8 + 1) = true := by
  obtain ⟨h1, h2, h3, h4⟩ := right_bd h
  have hb : (0 : Int) ≤ Int.tmod ways 8 ∧ Int.tmod ways 8 < 8 := by
    rw [Int.tmod_eq_emod_of_nonneg (by omega)]
    omega
  unfold rightB at h ⊢
  simp only [Bool.and_eq_true, decide_eq_true_eq] at h ⊢
  exact ⟨⟨h.1.1, by omega⟩, by omega⟩
theorem wider_bd {ways : Int} (h : 1 ≤ ways ∧ ways ≤ 8) : (0 : Int) ≤ Int.tmod ways 8 ∧ Int.tmod ways 8 < 8 := by
  rw [Int.tmod_eq_emod_of_nonneg (by omega)]
  omega
theorem get_drop_none (L : List Ln) (num : Int) : getN (dropL L num) num = none := by
  unfold getN dropL
  rw [List.find?_eq_none]
  intro x hx
  have := (List.mem_filter.1 hx).2
  simpa using this
theorem drop_drop (L : List Ln) (num : Int) : dropL (dropL L num) num = dropL L num := by
  unfold dropL
  rw [List.filter_filter]
  simp
theorem drop_twice (L : List Ln) (num : Int) : (getN (dropL L num) num).isSome = false ∧ dropL (dropL L num) num = dropL L num := ⟨by rw [get_drop_none]; rfl, drop_drop L num⟩
theorem get_drop_other (L : List Ln) {num m : Int} (h : ¬ num = m) : getN (dropL L m) num = getN L num := by
  unfold getN dropL
  induction L with
  | nil => rfl
  | cons y l ih =>
    simp only [List.filter_cons]
    by_cases hy : y.num = m
    · have h1 : isNum num y = false := by unfold isNum; exact decide_eq_false fun e => h (by rw [← e, hy])
      have h2 : isNum m y = true := decide_eq_true hy
      rw [h2, List.find?_cons, h1]
      exact ih
    · have h2 : isNum m y = false := decide_eq_false hy
      rw [h2]
      simp only [Bool.not_false, if_true, List.find?_cons]
      rw [ih]
theorem mem_get {L : List Ln} (hu : Uniq L) {x : Ln} (h : x ∈ L) : getN L x.num = some x := by
  obtain ⟨i, hi, rfl⟩ := List.getElem_of_mem h
  have := uniq_get hu hi
  rw [show L.getD i ln0 = L[i] by simp [List.getD, hi]] at this
  exact this
theorem mem_allL {n : Nat} {L : List Ln} {x : Ln} (h : x ∈ allL n L) : x ∈ L := by
  unfold allL at h
  obtain ⟨i, _, hx⟩ := List.mem_flatMap.1 h
  exact (List.mem_filter.1 hx).1
theorem getD_mem {l : List Ln} {i : Nat} (h : i < l.length) : l.getD i ln0 ∈ l := by
  rw [show l.getD i ln0 = l[i] by simp [List.getD, h]]
  exact List.getElem_mem h
theorem get_snoc_same {L : List Ln} {l : Ln} (h : getN L l.num = none) : getN (L ++ [l]) l.num = some l := by
  unfold getN at *
  rw [List.find?_append, h]
  simp [isNum]
theorem get_snoc_other {L : List Ln} {l : Ln} {num : Int} (h : ¬ num = l.num) : getN (L ++ [l]) num = getN L num := by
  unfold getN
  rw [List.find?_append]
  have : [l].find? (isNum num) = none := by
    simp only [List.find?_cons, List.find?_nil]
    rw [show isNum num l = false from decide_eq_false fun e => h e.symm]
  rw [this]
  simp
theorem get_repl_same : ∀ {L : List Ln} {l : Ln}, ¬ getN L l.num = none → getN (repl l L) l.num = some l
  | [], l, h => absurd rfl h
  | y :: L, l, h => by
    unfold repl
    by_cases hy : y.num = l.num
    · rw [if_pos hy]
      unfold getN
      rw [List.find?_cons, show isNum l.num l = true from decide_eq_true rfl]
    · rw [if_neg hy]
      have h2 : isNum l.num y = false := decide_eq_false hy
      unfold getN at h ⊢
      rw [List.find?_cons, h2] at h ⊢
      exact get_repl_same h
theorem get_repl_other : ∀ {L : List Ln} {l : Ln} {num : Int}, ¬ num = l.num → getN (repl l L) num = getN L num
  | [], l, num, h => rfl
  | y :: L, l, num, h => by
    unfold repl
    by_cases hy : y.num = l.num
    · rw [if_pos hy]
      have h1 : isNum num l = false := decide_eq_false fun e => h e.symm
      have h2 : isNum num y = false := decide_eq_false fun e => h (by rw [← e]; exact hy)
      unfold getN
      rw [List.find?_cons, List.find?_cons, h1, h2]
    · rw [if_neg hy]
      have := get_repl_other (L := L) h
      unfold getN at *
      rw [List.find?_cons, List.find?_cons, this]
theorem get_put_same {n : Nat} {ways : Int} {L : List Ln} {l : Ln} (h : putE n ways L l = 0) : getN (putL n ways L l) l.num = some l := by
  unfold putL
  rw [if_pos h]
  split
  · exact get_snoc_same (by assumption)
  · exact get_repl_same (by assumption)
theorem get_put_other {n : Nat} {ways : Int} {L : List Ln} {l : Ln} {num : Int} (h : ¬ num = l.num) : getN (putL n ways L l) num = getN L num := by
  unfold putL
  split
  · split
    · exact get_snoc_other h
    · exact get_repl_other h
  · rfl
/-- A put, with or without room: what the statement looks for. -/
def Kept (L L4 : List Ln) (num : Int) (gone : Ln) : Prop := ∀ y ∈ L, ¬ y.num = num → ¬ y = gone → getN L4 y.num = some y
theorem put_ways (n : Nat) (ways : Int) (L : List Ln) (l : Ln) (ho : 1 ≤ l.state ∧ l.state ≤ 3) : putE n ways L l = 0 ∨ (putE n ways L l = 200 ∧ putL n ways L l = L ∧ getN L l.num = none ∧ ways ≤ ((ofs n L (si n l.num)).length : Int)) := by
  have hk : ¬ okS l = false := by
    unfold okS
    simp only [Bool.and_eq_false_iff, decide_eq_false_iff_not]
    omega
  by_cases hc : getN L l.num = none ∧ ways ≤ ((ofs n L (si n l.num)).length : Int)
  · refine .inr ?_
    have he : putE n ways L l = 200 := by
      unfold putE
      rw [if_neg hk, if_pos hc]
    refine ⟨he, ?_, hc.1, hc.2⟩
    unfold putL
    rw [he]
    rfl
  · refine .inl ?_
    unfold putE
    rw [if_neg hk, if_neg hc]
theorem kept_put {n : Nat} {ways : Int} {L : List Ln} {l : Ln} (hu : Uniq L) (g : Ln) : Kept L (putL n ways L l) l.num g := fun y hy hn _ => by
  rw [get_put_other hn]
  exact mem_get hu hy
theorem vic_yes {n : Nat} {ways : Int} {L : List Ln} {num pick : Int} (hn : getN L num = none) (hw : ways ≤ ((ofs n L (si n num)).length : Int)) (h1 : 1 ≤ ways) : ∃ g : Ln, vicL n ways L num pick = some g ∧ g ∈ L ∧ si n g.num = si n num := by
  have hlt := pickAt_lt pick (ofs n L (si n num)).length (by omega)
  have hm := getD_mem hlt
  refine ⟨_, by unfold vicL; rw [if_pos ⟨hn, hw⟩], (List.mem_filter.1 hm).1, ?_⟩
  have := (List.mem_filter.1 hm).2
  exact of_decide_eq_true this
theorem drop_len {L : List Ln} {g : Ln} (h : g ∈ L) : (dropL L g.num).length + 1 ≤ L.length := by
  have : (dropL L g.num).length < L.length := by
    unfold dropL
    refine List.length_filter_lt_length_iff_exists.2 ⟨g, h, ?_⟩
    simp [isNum]
  omega
/-- Room made: the line then goes in. -/
theorem room_put {n : Nat} {ways : Int} {L : List Ln} {l g : Ln} (hu : Uniq L) (hf : Fits n ways L) (ho : 1 ≤ l.state ∧ l.state ≤ 3) (hnn : 0 < n) (hn : getN L l.num = none) (hg : g ∈ L) (hs : si n g.num = si n l.num) : putE n ways (dropL L g.num) l = 0 := by
  have hne : ¬ l.num = g.num := fun e => by
    rw [e, mem_get hu hg] at hn
    cases hn
  rcases put_ways n ways (dropL L g.num) l ho with h | ⟨_, _, _, h⟩
  · exact h
  · exfalso
    rw [ofs_drop] at h
    have hm : g ∈ ofs n L (si n l.num) := List.mem_filter.2 ⟨hg, decide_eq_true hs⟩
    have := drop_len hm
    have := hf (si n l.num) (si_lt hnn)
    omega
theorem kept_room {n : Nat} {ways : Int} {L : List Ln} {l g : Ln} (hu : Uniq L) (hg : g ∈ L) : Kept L (putL n ways (dropL L g.num) l) l.num g := fun y hy hn hne => by
  rw [get_put_other hn, get_drop_other L fun e => ?_]
  · exact mem_get hu hy
  · have h1 := mem_get hu hy
    rw [e, mem_get hu hg] at h1
    cases h1
    exact hne rfl
theorem tmod_same {n : Nat} {a b : Int} (ha : 0 ≤ a) (hb : 0 ≤ b) (hn : 0 < n) (h : si n a = si n b) : Int.tmod a (n : Int) = Int.tmod b (n : Int) := by
  rw [tmod_si ha hn, tmod_si hb hn, h]
theorem min_none {l : List Ln} (h : l = []) : (0 : Int) = ((min 1 l.length : Nat) : Int) := by
  subst h
  rfl
theorem min_some {l pre : List Ln} (h : pre <+: l) (hp : pre ≠ []) : (1 : Int) = ((min 1 l.length : Nat) : Int) := by
  have h1 := h.length_le
  have h2 : 0 < pre.length := List.length_pos_iff.2 hp
  omega
end Go.Proofs.Ytdjgfkjcpalihaa
