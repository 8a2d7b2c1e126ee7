/-
  Plain laws on lists of stores.
-/
import Derived.Test.YtemihglffmfikaaBufC
namespace Go.Proofs.Ytemihglffmfikaa
open Go.RowKit
/-- The stores as the document has them. -/
def vals (l : List VSt) : List St := l.map (·.1)
theorem vals_len (l : List VSt) : (vals l).length = l.length := List.length_map ..
theorem vals_snoc (l : List VSt) (x : VSt) : vals (l ++ [x]) = vals l ++ [x.1] := by simp [vals]
theorem vals_rev (l : List VSt) : (vals l).reverse = vals l.reverse := by simp [vals, List.map_reverse]
theorem vals_at (l : List VSt) (k : Nat) (h : k < l.length) : (vals l).getD k st0 = (l.getD k v0).1 := by
  simp [vals, List.getD, h]
theorem rev_take {l : List VSt} {j : Nat} (h : j < l.length) : l.reverse.take (j + 1) = l.reverse.take j ++ [l.getD (l.length - 1 - j) v0] := by
  rw [List.take_succ_eq_append_getElem (by simpa using h), List.getElem_reverse]
  simp [List.getD, show l.length - 1 - j < l.length by omega]
/-- Which elements have changed places. -/
def RevAt (l ll : List St) (i : Nat) : Prop := ∀ k, k < l.length → ll.getD k st0 = if k < i ∨ l.length - i ≤ k then l.getD (l.length - 1 - k) st0 else l.getD k st0
theorem RevAt.zero {l : List St} : RevAt l l 0 := fun k hk => by rw [if_neg (by omega)]
theorem getD_set {l : List St} {i k : Nat} {x : St} (hi : i < l.length) : (l.set i x).getD k st0 = if i = k then x else l.getD k st0 := by
  simp only [List.getD, List.getElem?_set]
  split
  · rename_i h; subst h; simp [hi]
  · rfl
theorem rev_step {l ll : List St} {i : Nat} (h1 : i < l.length) (h2 : i < l.length - 1 - i) (hl : ll.length = l.length) (h : RevAt l ll i) : RevAt l ((ll.set i (ll.getD (l.length - 1 - i) st0)).set (l.length - 1 - i) (ll.getD i st0)) (i + 1) := by
  intro k hk
  rw [getD_set (by rw [List.length_set]; omega), getD_set (by omega)]
  have hi := h i h1
  have hj := h (l.length - 1 - i) (by omega)
  rw [if_neg (by omega)] at hi
  rw [if_neg (by omega)] at hj
  by_cases e1 : l.length - 1 - i = k
  · rw [if_pos e1, if_pos (by omega), hi, ← e1, show l.length - 1 - (l.length - 1 - i) = i by omega]
  · rw [if_neg e1]
    by_cases e2 : i = k
    · rw [if_pos e2, if_pos (by omega), hj, e2]
    · rw [if_neg e2, h k hk]
      by_cases e3 : k < i ∨ l.length - i ≤ k
      · rw [if_pos e3, if_pos (by omega)]
      · rw [if_neg e3, if_neg (by omega)]
theorem RevAt.done {l ll : List St} {i : Nat} (h : RevAt l ll i) (hl : ll.length = l.length) (hi : l.length ≤ 2 * i + 1) : ll = l.reverse := by
  refine List.ext_getElem (by simpa using hl) fun k h1 h2 => ?_
  have hk : k < l.length := by omega
  have := h k hk
  rw [List.getElem_reverse]
  have e1 : ll.getD k st0 = ll[k] := by simp [List.getD, h1]
  have e2 : l.getD (l.length - 1 - k) st0 = l[l.length - 1 - k] := by simp [List.getD, show l.length - 1 - k < l.length by omega]
  rw [← e1, this, ← e2]
  by_cases e3 : k < i ∨ l.length - i ≤ k
  · rw [if_pos e3]
  · rw [if_neg e3, show l.length - 1 - k = k by omega]

/-! ### What a load has -/
def fwd1 (a w : Int) (s : St) : Option (Int × Int) :=
  if a + w ≤ s.addr ∨ s.addr + s.width ≤ a then none
  else if a < s.addr ∨ s.addr + s.width < a + w then some (0, 2)
  else some (if w < 4 then s.value.fdiv (2 ^ min (8 * (a - s.addr)).toNat 32) % 2 ^ (8 * w).toNat else s.value.fdiv (2 ^ min (8 * (a - s.addr)).toNat 32), 1)
def fwdL (a w : Int) : List VSt → Int × Int
  | [] => (0, 0)
  | s :: r => match fwd1 a w s.1 with
    | none => fwdL a w r
    | some p => p
def fwd (l : List VSt) (a w : Int) : Int × Int := if wOk w = true ∧ a % w = 0 then fwdL a w l.reverse else (0, 0)
def FStop (a w : Int) (pre : List VSt) (r : Int × Int) : Prop := ∃ p x, pre = p ++ [x] ∧ (∀ y ∈ p, fwd1 a w y.1 = none) ∧ fwd1 a w x.1 = some r
section
variable {a w : Int} {pre xs : List VSt} {x : VSt} {s : St} {r : Int × Int}
theorem fwdL_skip : ∀ (p q : List VSt), (∀ y ∈ p, fwd1 a w y.1 = none) → fwdL a w (p ++ q) = fwdL a w q
  | [], _, _ => rfl
  | y :: p, q, h => by
    show (match fwd1 a w y.1 with | none => fwdL a w (p ++ q) | some p => p) = _
    rw [h y (by simp)]
    exact fwdL_skip p q fun z hz => h z (by simp [hz])
theorem FStop.eq (h : FStop a w pre r) (hp : pre <+: xs) : fwdL a w xs = r := by
  obtain ⟨p, x, rfl, h1, h2⟩ := h
  obtain ⟨q, rfl⟩ := hp
  rw [List.append_assoc, fwdL_skip p _ h1]
  show (match fwd1 a w x.1 with | none => _ | some p => p) = r
  rw [h2]
theorem fdone (h : ∀ y ∈ xs, fwd1 a w y.1 = none) : fwdL a w xs = (0, 0) := by
  have := fwdL_skip (a := a) (w := w) xs [] h
  rw [List.append_nil] at this
  exact this
theorem fno_step (h : ∀ y ∈ pre, fwd1 a w y.1 = none) (hx : fwd1 a w x.1 = none) : ∀ y ∈ pre ++ [x], fwd1 a w y.1 = none := by
  intro y hy
  rw [List.mem_append, List.mem_singleton] at hy
  rcases hy with hy | rfl
  · exact h y hy
  · exact hx
theorem fwd1_none (h : a + w ≤ s.addr ∨ s.addr + s.width ≤ a) : fwd1 a w s = none := by unfold fwd1; rw [if_pos h]
theorem fwd1_part (h1 : ¬ (a + w ≤ s.addr ∨ s.addr + s.width ≤ a)) (h2 : a < s.addr ∨ s.addr + s.width < a + w) : fwd1 a w s = some (0, 2) := by unfold fwd1; rw [if_neg h1, if_pos h2]
theorem fwd1_all (h1 : ¬ (a + w ≤ s.addr ∨ s.addr + s.width ≤ a)) (h2 : ¬ (a < s.addr ∨ s.addr + s.width < a + w)) :
    fwd1 a w s = some (if w < 4 then s.value.fdiv (2 ^ min (8 * (a - s.addr)).toNat 32) % 2 ^ (8 * w).toNat else s.value.fdiv (2 ^ min (8 * (a - s.addr)).toNat 32), 1) := by unfold fwd1; rw [if_neg h1, if_neg h2]
end
theorem shr_bd {v : Int} (h : 0 ≤ v ∧ v < 4294967296) (j : Nat) : 0 ≤ v.fdiv (2 ^ j) ∧ v.fdiv (2 ^ j) < 4294967296 := by
  have hp : (0 : Int) < 2 ^ j := Int.pow_pos (by decide)
  rw [Int.fdiv_eq_ediv_of_nonneg _ (Int.le_of_lt hp)]
  have h1 := Int.ediv_nonneg h.1 (Int.le_of_lt hp)
  have h2 := Int.ediv_le_self (2 ^ j) h.1
  omega
/-- Of the bytes at the top, q: their number, and how many there are. -/
def accF (s : St) (a w : Int) : Nat → Int × Int
  | 0 => (0, 0)
  | q + 1 => if 0 ≤ hasB s (a + (w - 1 - ((q : Nat) : Int))) then ((accF s a w q).1 * 256 + hasB s (a + (w - 1 - ((q : Nat) : Int))), (accF s a w q).2 + 1) else accF s a w q
section
variable {s : St} {a w : Int} {q : Nat}
theorem accF_yes (h : 0 ≤ hasB s (a + (w - 1 - ((q : Nat) : Int)))) : (accF s a w (q + 1)).1 = (accF s a w q).1 * 256 + hasB s (a + (w - 1 - ((q : Nat) : Int))) ∧ (accF s a w (q + 1)).2 = (accF s a w q).2 + 1 := by
  show (if _ then _ else _ : Int × Int).1 = _ ∧ (if _ then _ else _ : Int × Int).2 = _
  rw [if_pos h]
  exact ⟨rfl, rfl⟩
theorem accF_no (h : ¬ 0 ≤ hasB s (a + (w - 1 - ((q : Nat) : Int)))) : accF s a w (q + 1) = accF s a w q := by
  show (if _ then _ else _ : Int × Int) = _
  rw [if_neg h]
theorem hasB_bd (s : St) (at_ : Int) : -1 ≤ hasB s at_ ∧ hasB s at_ < 256 := by
  unfold hasB
  split <;> omega
theorem accF_bd (s : St) (a w : Int) : ∀ q, 0 ≤ (accF s a w q).1 ∧ (accF s a w q).1 < 256 ^ q ∧ 0 ≤ (accF s a w q).2 ∧ (accF s a w q).2 ≤ q
  | 0 => by simp [accF]
  | q + 1 => by
    have ih := accF_bd s a w q
    have hb := hasB_bd s (a + (w - 1 - ((q : Nat) : Int)))
    have hp : (0 : Int) < 256 ^ q := Int.pow_pos (by decide)
    have e : (256 : Int) ^ (q + 1) = 256 ^ q * 256 := Int.pow_succ ..
    by_cases h : 0 ≤ hasB s (a + (w - 1 - ((q : Nat) : Int)))
    · rw [(accF_yes h).1, (accF_yes h).2, e]
      omega
    · rw [accF_no h, e]
      omega
theorem accF_bd3 (s : St) (a w : Int) (h : q ≤ 3) : 0 ≤ (accF s a w q).1 ∧ (accF s a w q).1 < 16777216 ∧ 0 ≤ (accF s a w q).2 ∧ (accF s a w q).2 ≤ 3 := by
  have h1 := accF_bd s a w q
  have h2 : (256 : Int) ^ q ≤ 256 ^ 3 := by
    match q, h with
    | 0, _ => decide
    | 1, _ => decide
    | 2, _ => decide
    | 3, _ => decide
  have h3 : (256 : Int) ^ 3 = 16777216 := by decide
  omega
end
end Go.Proofs.Ytemihglffmfikaa
