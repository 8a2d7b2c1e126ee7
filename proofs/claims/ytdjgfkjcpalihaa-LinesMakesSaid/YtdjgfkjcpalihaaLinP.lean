/-
  Plain laws on lists of lines, in sets.
-/
import Derived.Test.YtdjgfkjcpalihaaLinA
namespace Go.Proofs.Ytdjgfkjcpalihaa
open Go.RowKit
/-- The set of a number. -/
def si (n : Nat) (num : Int) : Nat := (num % (n : Int)).toNat
section
variable {n i : Nat} {num : Int} {L : List Ln} {l : Ln} {ways : Int}
theorem si_lt (hn : 0 < n) : si n num < n := by
  unfold si
  have h1 := Int.emod_nonneg num (show (n : Int) ≠ 0 by omega)
  have h2 := Int.emod_lt_of_pos num (show (0 : Int) < n by omega)
  omega
theorem si_eq (hn : 0 < n) : ((si n num : Nat) : Int) = num % (n : Int) := by
  unfold si
  have h1 := Int.emod_nonneg num (show (n : Int) ≠ 0 by omega)
  omega
theorem tmod_si (h : 0 ≤ num) (hn : 0 < n) : Int.tmod num (n : Int) = ((si n num : Nat) : Int) := by
  rw [si_eq hn, Int.tmod_eq_emod_of_nonneg h]
def inSet (n i : Nat) (x : Ln) : Bool := decide (si n x.num = i)
/-- The lines of a set. -/
def ofs (n : Nat) (L : List Ln) (i : Nat) : List Ln := L.filter (inSet n i)
def isNum (num : Int) (x : Ln) : Bool := decide (x.num = num)
/-- The line of a number. -/
def getN (L : List Ln) (num : Int) : Option Ln := L.find? (isNum num)
def Uniq (L : List Ln) : Prop := L.Pairwise fun x y => ¬ x.num = y.num
def okS (l : Ln) : Bool := decide (1 ≤ l.state) && decide (l.state ≤ 3)
/-- The first one of the number is another one. -/
def repl (l : Ln) : List Ln → List Ln
  | [] => []
  | x :: r => if x.num = l.num then l :: r else x :: repl l r
/-- The first one of the number is taken out. -/
def remf (num : Int) : List Ln → List Ln
  | [] => []
  | x :: r => if x.num = num then r else x :: remf num r
def dropL (L : List Ln) (num : Int) : List Ln := L.filter fun x => !isNum num x
def putE (n : Nat) (ways : Int) (L : List Ln) (l : Ln) : Int := if okS l = false then 2 else if getN L l.num = none ∧ ways ≤ ((ofs n L (si n l.num)).length : Int) then 200 else 0
def putL (n : Nat) (ways : Int) (L : List Ln) (l : Ln) : List Ln := if putE n ways L l = 0 then (if getN L l.num = none then L ++ [l] else repl l L) else L
theorem fnd_none (h : fndI L num = -1 ∧ ∀ x ∈ L, ¬ x.num = num) : getN L num = none := by
  unfold getN
  rw [List.find?_eq_none]
  intro x hx
  simp [isNum, h.2 x hx]
theorem get_at : ∀ {L : List Ln} {i : Nat}, i < L.length → (L.getD i ln0).num = num → (∀ j, j < i → ¬ (L.getD j ln0).num = num) → getN L num = some (L.getD i ln0)
  | [], i, hi, _, _ => by simp at hi
  | x :: r, 0, _, h, _ => by
    have h : x.num = num := h
    show (x :: r).find? _ = some x
    simp [List.find?, isNum, h]
  | x :: r, i + 1, hi, h, hall => by
    have h0 : ¬ x.num = num := hall 0 (by omega)
    show (x :: r).find? _ = _
    simp only [List.find?, isNum, decide_eq_false h0]
    have := get_at (L := r) (i := i) (by simpa using hi) h fun j hj => hall (j + 1) (by omega)
    simpa [getN, isNum] using this
theorem set_at : ∀ {L : List Ln} {i : Nat}, i < L.length → (L.getD i ln0).num = l.num → (∀ j, j < i → ¬ (L.getD j ln0).num = l.num) → L.set i l = repl l L
  | [], i, hi, _, _ => by simp at hi
  | x :: r, 0, _, h, _ => by
    have h : x.num = l.num := h
    simp [repl, h]
  | x :: r, i + 1, hi, h, hall => by
    have h0 : ¬ x.num = l.num := hall 0 (by omega)
    simp only [List.set_cons_succ, repl, if_neg h0]
    rw [set_at (L := r) (i := i) (by simpa using hi) h fun j hj => hall (j + 1) (by omega)]
theorem rem_at : ∀ {L : List Ln} {i : Nat}, i < L.length → (L.getD i ln0).num = num → (∀ j, j < i → ¬ (L.getD j ln0).num = num) → L.take i ++ L.drop (i + 1) = remf num L
  | [], i, hi, _, _ => by simp at hi
  | x :: r, 0, _, h, _ => by
    have h : x.num = num := h
    simp [remf, h]
  | x :: r, i + 1, hi, h, hall => by
    have h0 : ¬ x.num = num := hall 0 (by omega)
    simp only [List.take_succ_cons, List.drop_succ_cons, remf, if_neg h0, List.cons_append]
    rw [rem_at (L := r) (i := i) (by simpa using hi) h fun j hj => hall (j + 1) (by omega)]
theorem rem_no (h : ∀ x ∈ L, ¬ x.num = num) : L.filter (fun x => !isNum num x) = L := by
  rw [List.filter_eq_self]
  intro x hx
  simp [isNum, h x hx]
theorem remf_uniq : ∀ {L : List Ln}, Uniq L → remf num L = dropL L num
  | [], _ => rfl
  | x :: r, hu => by
    have hu' := List.pairwise_cons.1 hu
    by_cases h0 : x.num = num
    · simp only [remf, if_pos h0, dropL, List.filter, isNum, decide_eq_true h0, Bool.not_true]
      have := rem_no (num := num) (L := r) fun y hy he => hu'.1 y hy (h0.trans he.symm)
      simpa [isNum] using this.symm
    · simp only [remf, if_neg h0, dropL, List.filter, isNum, decide_eq_false h0, Bool.not_false]
      rw [remf_uniq hu'.2]
      rfl
/-! ### Sets -/
theorem ofs_get (L : List Ln) (num : Int) : getN (ofs n L (si n num)) num = getN L num := by
  unfold getN ofs
  induction L with
  | nil => rfl
  | cons x r ih =>
    by_cases h0 : x.num = num
    · have : inSet n (si n num) x = true := by simp [inSet, h0]
      rw [List.filter_cons_of_pos this]
      simp [List.find?, isNum, h0]
    · by_cases h1 : inSet n (si n num) x = true
      · rw [List.filter_cons_of_pos h1]
        simp only [List.find?, isNum, decide_eq_false h0]
        simpa [isNum] using ih
      · rw [List.filter_cons_of_neg h1]
        simp only [List.find?, isNum, decide_eq_false h0]
        simpa [isNum] using ih
theorem ofs_repl_same (L : List Ln) (l : Ln) : ofs n (repl l L) (si n l.num) = repl l (ofs n L (si n l.num)) := by
  unfold ofs
  induction L with
  | nil => rfl
  | cons x r ih =>
    by_cases h0 : x.num = l.num
    · have h1 : inSet n (si n l.num) x = true := by simp [inSet, h0]
      have h2 : inSet n (si n l.num) l = true := by simp [inSet]
      rw [List.filter_cons_of_pos h1]
      simp only [repl, if_pos h0]
      rw [List.filter_cons_of_pos h2]
    · simp only [repl, if_neg h0]
      by_cases h1 : inSet n (si n l.num) x = true
      · rw [List.filter_cons_of_pos h1, List.filter_cons_of_pos h1]
        simp only [repl, if_neg h0]
        rw [ih]
      · rw [List.filter_cons_of_neg h1, List.filter_cons_of_neg h1, ih]
theorem ofs_repl_other (L : List Ln) (l : Ln) (h : ¬ i = si n l.num) : ofs n (repl l L) i = ofs n L i := by
  unfold ofs
  induction L with
  | nil => rfl
  | cons x r ih =>
    by_cases h0 : x.num = l.num
    · have h1 : ¬ inSet n i x = true := by simp [inSet, h0]; exact fun e => h e.symm
      have h2 : ¬ inSet n i l = true := by simp [inSet]; exact fun e => h e.symm
      rw [List.filter_cons_of_neg h1]
      simp only [repl, if_pos h0]
      rw [List.filter_cons_of_neg h2]
    · simp only [repl, if_neg h0]
      by_cases h1 : inSet n i x = true
      · rw [List.filter_cons_of_pos h1, List.filter_cons_of_pos h1, ih]
      · rw [List.filter_cons_of_neg h1, List.filter_cons_of_neg h1, ih]
theorem ofs_snoc_same (L : List Ln) (l : Ln) : ofs n (L ++ [l]) (si n l.num) = ofs n L (si n l.num) ++ [l] := by simp [ofs, List.filter_append, List.filter, inSet]
theorem ofs_snoc_other (L : List Ln) (l : Ln) (h : ¬ i = si n l.num) : ofs n (L ++ [l]) i = ofs n L i := by
  have : inSet n i l = false := by simp [inSet]; exact fun e => h e.symm
  simp [ofs, List.filter_append, List.filter, this]
theorem ofs_drop (L : List Ln) (num : Int) : ofs n (dropL L num) i = dropL (ofs n L i) num := by
  unfold ofs dropL
  rw [List.filter_filter, List.filter_filter]
  congr 1
  funext x
  exact Bool.and_comm _ _
theorem ofs_drop_other (L : List Ln) (num : Int) (h : ¬ i = si n num) : ofs n (dropL L num) i = ofs n L i := by
  rw [ofs_drop]
  refine rem_no fun x hx e => h ?_
  have := (List.mem_filter.1 hx).2
  simp [inSet, e] at this
  exact this.symm
theorem Uniq.ofs (h : Uniq L) (i : Nat) : Uniq (ofs n L i) := List.Pairwise.filter _ h
theorem Uniq.drop (h : Uniq L) (num : Int) : Uniq (dropL L num) := List.Pairwise.filter _ h
theorem get_none (h : getN L num = none) : ∀ x ∈ L, ¬ x.num = num := fun x hx e => by
  have := List.find?_eq_none.1 h x hx
  simp [isNum, e] at this
theorem Uniq.snoc (h : Uniq L) (hn : getN L l.num = none) : Uniq (L ++ [l]) := by
  unfold Uniq
  rw [List.pairwise_append]
  refine ⟨h, by simp, fun x hx y hy => ?_⟩
  rw [List.mem_singleton] at hy
  subst hy
  exact get_none hn x hx
theorem mem_repl : ∀ {L : List Ln} {x : Ln}, x ∈ repl l L → (x ∈ L ∨ x = l)
  | [], _, h => by cases h
  | y :: r, x, h => by
    by_cases h0 : y.num = l.num
    · simp only [repl, if_pos h0] at h
      rcases List.mem_cons.1 h with h | h
      · exact .inr h
      · exact .inl (by simp [h])
    · simp only [repl, if_neg h0] at h
      rcases List.mem_cons.1 h with h | h
      · exact .inl (by simp [h])
      · rcases mem_repl h with h | h
        · exact .inl (by simp [h])
        · exact .inr h
theorem Uniq.repl : ∀ {L : List Ln}, Uniq L → Uniq (repl l L)
  | [], _ => List.Pairwise.nil
  | x :: r, hu => by
    have hu' := List.pairwise_cons.1 hu
    by_cases h0 : x.num = l.num
    · simp only [Go.Proofs.Ytdjgfkjcpalihaa.repl, if_pos h0]
      exact List.pairwise_cons.2 ⟨fun y hy e => hu'.1 y hy (h0.trans e), hu'.2⟩
    · simp only [Go.Proofs.Ytdjgfkjcpalihaa.repl, if_neg h0]
      refine List.pairwise_cons.2 ⟨fun y hy e => ?_, Uniq.repl hu'.2⟩
      rcases mem_repl hy with hy | rfl
      · exact hu'.1 y hy e
      · exact h0 e
theorem repl_len : ∀ (L : List Ln), (repl l L).length = L.length
  | [] => rfl
  | x :: r => by
    unfold repl
    split
    · rfl
    · simp [repl_len r]
theorem putL_le (n : Nat) (ways : Int) (L : List Ln) (l : Ln) : (putL n ways L l).length ≤ L.length + 1 := by
  unfold putL
  split
  · split
    · simp
    · rw [repl_len]; omega
  · omega
theorem dropL_le (L : List Ln) (num : Int) : (dropL L num).length ≤ L.length := List.length_filter_le _ _
theorem Uniq.putL (h : Uniq L) : Uniq (putL n ways L l) := by
  unfold Go.Proofs.Ytdjgfkjcpalihaa.putL
  split
  · split
    · exact h.snoc ‹_›
    · exact h.repl
  · exact h
/-- No set has more than its ways. -/
def Fits (n : Nat) (ways : Int) (L : List Ln) : Prop := ∀ i, i < n → ((ofs n L i).length : Int) ≤ ways
theorem Fits.drop (h : Fits n ways L) (num : Int) : Fits n ways (dropL L num) := fun i hi => by
  have := h i hi
  rw [ofs_drop]
  have h2 := dropL_le (ofs n L i) num
  omega
theorem Fits.putL (h : Fits n ways L) (l : Ln) : Fits n ways (putL n ways L l) := fun i hi => by
  have h0 := h i hi
  unfold Go.Proofs.Ytdjgfkjcpalihaa.putL
  split
  · rename_i he
    split
    · rename_i hn
      by_cases e : i = si n l.num
      · subst e
        rw [ofs_snoc_same]
        unfold putE at he
        split at he
        · omega
        · split at he
          · omega
          · rename_i h2
            simp only [List.length_append, List.length_cons, List.length_nil]
            have : ¬ ways ≤ ((ofs n L (si n l.num)).length : Int) := fun h => h2 ⟨hn, h⟩
            omega
      · rw [ofs_snoc_other _ _ e]; exact h0
    · by_cases e : i = si n l.num
      · subst e
        rw [ofs_repl_same, repl_len]; exact h0
      · rw [ofs_repl_other _ _ e]; exact h0
  · exact h0
theorem Fits.nil (h : 0 ≤ ways) : Fits n ways [] := fun _ _ => by simpa [ofs] using h
/-! ### All lines, set by set -/
def allL (n : Nat) (L : List Ln) : List Ln := (List.range n).flatMap (ofs n L)
theorem filter_len : ∀ (m : Nat) (L : List Ln), ((List.range m).flatMap fun i => L.filter (inSet n i)).length = (L.filter fun x => decide (si n x.num < m)).length
  | 0, L => by
    have : (L.filter fun x => decide (si n x.num < 0)) = [] := List.filter_eq_nil_iff.2 fun x _ => by simp
    rw [this]
    rfl
  | m + 1, L => by
    rw [List.range_succ, List.flatMap_append, List.length_append, filter_len m L]
    simp only [List.flatMap_cons, List.flatMap_nil, List.append_nil]
    induction L with
    | nil => rfl
    | cons x r ih =>
      by_cases h1 : si n x.num = m
      · rw [List.filter_cons_of_pos (p := inSet n m) (by simpa [inSet] using h1), List.filter_cons_of_neg (by simp; omega), List.filter_cons_of_pos (p := fun x : Ln => decide (si n x.num < m + 1)) (by simp; omega), List.length_cons, List.length_cons]
        omega
      · rw [List.filter_cons_of_neg (p := inSet n m) (by simpa [inSet] using h1)]
        by_cases h2 : si n x.num < m
        · rw [List.filter_cons_of_pos (by simpa using h2), List.filter_cons_of_pos (p := fun x : Ln => decide (si n x.num < m + 1)) (by simp; omega), List.length_cons, List.length_cons]
          omega
        · rw [List.filter_cons_of_neg (by simpa using h2), List.filter_cons_of_neg (p := fun x : Ln => decide (si n x.num < m + 1)) (by simp; omega)]
          exact ih
theorem allL_len (hn : 0 < n) (L : List Ln) : (allL n L).length = L.length := by
  unfold allL
  have e : (ofs n L) = fun i => L.filter (inSet n i) := rfl
  rw [e, filter_len n L, List.filter_eq_self.2]
  intro x _
  simpa using si_lt hn
end

/-! ### Which one a choice takes -/
def pickAt (pick : Int) (n : Nat) : Nat := (Int.tmod (Int.tmod pick n + n) n).toNat
theorem tmod_bd (p : Int) (n : Nat) (h : 0 < n) : -(n : Int) < Int.tmod p n ∧ Int.tmod p n < n := by
  have h1 := Int.tmod_lt_of_pos p (show (0 : Int) < n by omega)
  have h2 := Int.lt_tmod_of_pos p (show (0 : Int) < n by omega)
  omega
theorem pickAt_eq (p : Int) (n : Nat) (h : 0 < n) : Int.tmod (Int.tmod p n + n) n = ((pickAt p n : Nat) : Int) := by
  have h1 := tmod_bd p n h
  have h2 : 0 ≤ Int.tmod (Int.tmod p n + n) n := Int.tmod_nonneg _ (by omega)
  unfold pickAt
  omega
theorem pickAt_lt (p : Int) (n : Nat) (h : 0 < n) : pickAt p n < n := by
  have h1 := pickAt_eq p n h
  have h2 := (tmod_bd (Int.tmod p n + n) n h).2
  omega
theorem pick_neg {p : Int} {n : Nat} (h : 0 < n) (hn : Int.tmod p n < 0) : Int.tmod p n + n = ((pickAt p n : Nat) : Int) := by
  have h1 := tmod_bd p n h
  rw [← pickAt_eq p n h]
  generalize Int.tmod p n = q at *
  exact (Int.tmod_eq_of_lt (by omega) (by omega)).symm
theorem pick_pos {p : Int} {n : Nat} (h : 0 < n) (hn : ¬ Int.tmod p n < 0) : Int.tmod p n = ((pickAt p n : Nat) : Int) := by
  have h1 := tmod_bd p n h
  rw [← pickAt_eq p n h]
  generalize Int.tmod p n = q at *
  rw [Int.tmod_eq_emod_of_nonneg (by omega), Int.add_emod_right]
  exact (Int.emod_eq_of_lt (by omega) (by omega)).symm
/-- Which line is to make room. -/
def vicL (n : Nat) (ways : Int) (L : List Ln) (num pick : Int) : Option Ln :=
  if getN L num = none ∧ ways ≤ ((ofs n L (si n num)).length : Int) then some ((ofs n L (si n num)).getD (pickAt pick (ofs n L (si n num)).length) ln0) else none
/-! ### Which caches may be -/
def andI (sets : Int) : Int := IntKind.i64.wrap (BitVec.ofInt IntKind.i64.bits sets &&& BitVec.ofInt IntKind.i64.bits (sets - 1)).toNat
def pow2 (sets : Int) : Bool := decide (sets = 1) || decide (sets = 2) || decide (sets = 4) || decide (sets = 8) || decide (sets = 16) || decide (sets = 32) || decide (sets = 64)
def rightB (sets ways : Int) : Bool := pow2 sets && decide (1 ≤ ways) && decide (ways ≤ 8)
theorem andI_all : ∀ k : Fin 65, 1 ≤ k.1 → (decide (andI (k.1 : Int) = 0) = pow2 (k.1 : Int)) := by decide +kernel
theorem andI_iff {sets : Int} (h : 1 ≤ sets ∧ sets ≤ 64) : (andI sets = 0 ↔ pow2 sets = true) := by
  have := andI_all ⟨sets.toNat, by omega⟩ (show 1 ≤ sets.toNat by omega)
  simp only [] at this
  rw [show ((sets.toNat : Nat) : Int) = sets by omega] at this
  rw [← this]
  simp
theorem right_yes {sets ways : Int} (h : rightB sets ways = true) : ¬ sets < 1 ∧ ¬ 64 < sets ∧ ¬ andI sets ≠ 0 ∧ ¬ ways < 1 ∧ ¬ 8 < ways := by
  unfold rightB at h
  simp only [Bool.and_eq_true, decide_eq_true_eq] at h
  obtain ⟨⟨h1, h2⟩, h3⟩ := h
  have h4 : 1 ≤ sets ∧ sets ≤ 64 := by simp [pow2] at h1; omega
  exact ⟨by omega, by omega, fun hn => hn ((andI_iff h4).2 h1), by omega, by omega⟩
theorem right_no {sets ways : Int} (h : rightB sets ways = false) (h1 : ¬ sets < 1) (h2 : ¬ 64 < sets) (h3 : ¬ andI sets ≠ 0) (h4 : ¬ ways < 1) (h5 : ¬ 8 < ways) : False := by
  have h6 : pow2 sets = true := (andI_iff (by omega)).1 (Classical.not_not.1 h3)
  simp [rightB, h6] at h
  omega

/-! ### What has come behind i sets -/
def allP (n : Nat) (L : List Ln) (i : Nat) : List Ln := (List.range i).flatMap (ofs n L)
section
variable {n i j : Nat} {L : List Ln}
theorem allP_succ : allP n L (i + 1) = allP n L i ++ ofs n L i := by simp [allP, List.range_succ, List.flatMap_append]
theorem allP_end : allP n L n = allL n L := rfl
theorem take_snoc {l : List Ln} (h : j < l.length) : l.take (j + 1) = l.take j ++ [l.getD j ln0] := by
  rw [List.take_succ_eq_append_getElem h]
  simp [List.getD, h]
theorem allP_prefix (h : i ≤ n) : allP n L i <+: allL n L := by
  obtain ⟨k, rfl⟩ := Nat.le.dest h
  unfold allP allL
  rw [List.range_add, List.flatMap_append]
  exact List.prefix_append _ _
theorem allQ_prefix {rl : List Ln} (hr : rl = ofs n L i) (hi : i < n) (j : Nat) : allP n L i ++ rl.take j <+: allL n L := by
  have h1 := allP_prefix (L := L) (show i + 1 ≤ n by omega)
  rw [allP_succ, ← hr] at h1
  obtain ⟨t, ht⟩ := h1
  rw [← ht]
  exact ⟨rl.drop j ++ t, by rw [List.append_assoc, List.append_assoc, ← List.append_assoc (rl.take j), List.take_append_drop]⟩
theorem allQ_lt {rl : List Ln} (hr : rl = ofs n L i) (hi : i < n) (hj : j < rl.length) : (allP n L i ++ rl.take j).length < (allL n L).length := by
  have h1 := (allQ_prefix hr hi (j + 1)).length_le
  rw [take_snoc hj] at h1
  simp only [List.length_append, List.length_cons, List.length_nil] at h1
  simp only [List.length_append]
  omega
end

/-! ### Two caches -/
section
variable {n n2 : Nat} {L L2 : List Ln}
theorem ofs_allP (L : List Ln) (i : Nat) : ∀ m, (allP n L m).filter (inSet n i) = if i < m then ofs n L i else []
  | 0 => by simp [allP]
  | m + 1 => by
    rw [allP_succ, List.filter_append, ofs_allP L i m]
    have e : (ofs n L m).filter (inSet n i) = if i = m then ofs n L i else [] := by
      unfold ofs
      rw [List.filter_filter]
      by_cases h : i = m
      · subst h
        rw [if_pos rfl]
        congr 1
        funext x
        exact Bool.and_self _
      · rw [if_neg h, List.filter_eq_nil_iff]
        intro x _ hx
        simp [inSet] at hx
        exact h (hx.1.symm.trans hx.2)
    rw [e]
    by_cases h1 : i < m
    · rw [if_pos h1, if_neg (by omega), if_pos (by omega), List.append_nil]
    · by_cases h2 : i = m
      · rw [if_neg h1, if_pos h2, if_pos (by omega), List.nil_append]
      · rw [if_neg h1, if_neg h2, if_neg (by omega), List.nil_append]
theorem allL_iff : (∀ i, i < n → ofs n L i = ofs n L2 i) ↔ allL n L = allL n L2 := by
  constructor
  · intro h
    have e : ∀ m, m ≤ n → allP n L m = allP n L2 m := by
      intro m
      induction m with
      | zero => intro _; rfl
      | succ m ih =>
        intro hm
        rw [allP_succ, allP_succ, ih (by omega), h m (by omega)]
    exact e n (Nat.le_refl _)
  · intro h i hi
    have h1 := ofs_allP (n := n) L i n
    have h2 := ofs_allP (n := n) L2 i n
    rw [if_pos hi] at h1 h2
    have e1 : allP n L n = allL n L := rfl
    have e2 : allP n L2 n = allL n L2 := rfl
    rw [← h1, ← h2, e1, e2, h]
end

/-! ### What has been picked behind k lines -/
section
variable {p : Ln → Bool} {L : List Ln} {k : Nat}
theorem selF_yes (h : k < L.length) (hp : p (L.getD k ln0) = true) : (L.take (k + 1)).filter p = (L.take k).filter p ++ [L.getD k ln0] := by
  rw [take_snoc h, List.filter_append, List.filter_cons_of_pos hp]
  rfl
theorem selF_no (h : k < L.length) (hp : ¬ p (L.getD k ln0) = true) : (L.take (k + 1)).filter p = (L.take k).filter p := by
  rw [take_snoc h, List.filter_append, List.filter_cons_of_neg hp]
  simp
end
theorem ofs_le {n i : Nat} (L : List Ln) : (ofs n L i).length ≤ L.length := List.length_filter_le _ _
theorem right_bd {n : Nat} {ways : Int} (h : rightB ((n : Nat) : Int) ways = true) : 0 < n ∧ n ≤ 64 ∧ 1 ≤ ways ∧ ways ≤ 8 := by
  obtain ⟨h1, h2, _, h4, h5⟩ := right_yes h
  omega
end Go.Proofs.Ytdjgfkjcpalihaa
