/-
  Plain laws on lists of messages.
-/
import Derived.Test.YtdpkeabmfhnfiaaNetN
namespace Go.Proofs.Ytdpkeabmfhnfiaa
open Go.RowKit
theorem ext_getD {α : Type} (d : α) : ∀ {l l' : List α}, l.length = l'.length → (∀ j, j < l.length → l.getD j d = l'.getD j d) → l = l' := by
  intro l l' h1 h2
  refine List.ext_getElem h1 fun i hi hi' => ?_
  have := h2 i hi
  simpa [List.getD, hi, hi'] using this
theorem count_step {α : Type} [DecidableEq α] (d m : α) {l : List α} {i : Nat} (h : i < l.length) : (l.take (i + 1)).count m = (l.take i).count m + if l.getD i d = m then 1 else 0 := by
  rw [List.take_succ_eq_append_getElem h, List.count_append, List.count_singleton]
  simp only [List.getD, List.getElem?_eq_getElem h, Option.getD_some, beq_iff_eq]
/-! ### The stage's theorem -/
theorem sendL_ok {most : Int} {l : List Msg} {m : Msg} (h : sendE most l m = 0) : sendL most l m = l ++ [m] := by
  unfold sendE at h
  unfold sendL
  split at h <;> simp_all
theorem sendL_no {most : Int} {l : List Msg} {m : Msg} (h : ¬ sendE most l m = 0) : sendL most l m = l := by
  unfold sendE at h
  unfold sendL
  split at h <;> simp_all
theorem del_perm {l : List Msg} (k : Int) (h : l ≠ []) : l.Perm (delM k l :: delL k l) := by
  have hp : 0 < l.length := List.length_pos_iff.2 h
  have hk := pickAt_lt k l.length hp
  have e : delM k l = l[pickAt k l.length] := by simp [delM, h, List.getD, hk]
  have e2 : delL k l = l.take (pickAt k l.length) ++ l.drop (pickAt k l.length + 1) := by simp [delL, h]
  rw [e, e2]
  have h3 : l = l.take (pickAt k l.length) ++ l[pickAt k l.length] :: l.drop (pickAt k l.length + 1) := by
    rw [← List.drop_eq_getElem_cons hk, List.take_append_drop]
  refine (List.Perm.of_eq h3).trans ?_
  exact List.perm_middle
theorem del_len {l : List Msg} (k : Int) (h : l ≠ []) : (delL k l).length + 1 = l.length := by
  have := (del_perm k h).length_eq
  simpa using this.symm
theorem delL_nil (k : Int) : delL k [] = [] := by simp [delL]
theorem act_pick (a : NAct) : (actE.cells a)[21]? = some (.int .i64 a.pick) := by
  show (_ :: (a.msg.cells ++ [_]))[21]? = _
  rw [List.getElem?_cons_succ, List.getElem?_append_right (Nat.le_of_eq a.msg.len), a.msg.len]
  rfl
structure Inv1 (sent came l : List Msg) (i : Nat) : Prop where
  perm : sent.Perm (came ++ l)
  len : sent.length ≤ i
section
variable {sent came l : List Msg} {i : Nat} {m : Msg} {k : Int}
theorem Inv1.lens (h : Inv1 sent came l i) : came.length + l.length = sent.length ∧ sent.length ≤ i := by
  have := h.perm.length_eq
  rw [List.length_append] at this
  exact ⟨this.symm, h.len⟩
theorem Inv1.nil : Inv1 [] [] [] 0 := ⟨.refl _, Nat.le_refl _⟩
theorem Inv1.send_ok {most : Int} (h : Inv1 sent came l i) (hs : sendE most l m = 0) : Inv1 (sent ++ [m]) came (sendL most l m) (i + 1) := by
  rw [sendL_ok hs]
  refine ⟨?_, by have := h.len; simp; omega⟩
  rw [← List.append_assoc]
  exact h.perm.append_right _
theorem Inv1.send_no {most : Int} (h : Inv1 sent came l i) (hs : ¬ sendE most l m = 0) : Inv1 sent came (sendL most l m) (i + 1) := by
  rw [sendL_no hs]
  exact ⟨h.perm, by have := h.len; omega⟩
theorem perm_del (h : sent.Perm (came ++ l)) (hs : l ≠ []) : sent.Perm ((came ++ [delM k l]) ++ delL k l) := by
  rw [List.append_assoc]
  exact h.trans ((del_perm k hs).append_left _)
theorem Inv1.del_ok (h : Inv1 sent came l i) (hs : l ≠ []) : Inv1 sent (came ++ [delM k l]) (delL k l) (i + 1) := ⟨perm_del h.perm hs, by have := h.len; omega⟩
theorem Inv1.del_no (h : Inv1 sent came l i) (hs : ¬ l ≠ []) : Inv1 sent came (delL k l) (i + 1) := by
  have : l = [] := Classical.byContradiction hs
  subst this
  rw [delL_nil]
  exact ⟨h.perm, by have := h.len; omega⟩
/-- Rounds of deliveries: what is left shrinks. -/
structure Inv2 (sent came l : List Msg) (n i : Nat) : Prop where
  perm : sent.Perm (came ++ l)
  left : l.length ≤ n + 1 - i
  len : sent.length ≤ n
theorem Inv1.inv2 {n : Nat} (h : Inv1 sent came l i) (hi : i ≤ n) : Inv2 sent came l n 0 := ⟨h.perm, by have := h.lens; omega, by have := h.lens; omega⟩
theorem Inv2.lens {n : Nat} (h : Inv2 sent came l n i) : came.length + l.length = sent.length ∧ sent.length ≤ n := by
  have := h.perm.length_eq
  rw [List.length_append] at this
  exact ⟨this.symm, h.len⟩
theorem Inv2.del_ok {n : Nat} (h : Inv2 sent came l n i) (hs : l ≠ []) : Inv2 sent (came ++ [delM k l]) (delL k l) n (i + 1) :=
  ⟨perm_del h.perm hs, by have := h.left; have := del_len k hs; omega, h.len⟩
theorem Inv2.del_no {n : Nat} (h : Inv2 sent came l n i) (hs : l = []) : Inv2 sent came l n (i + 1) := by
  subst hs
  exact ⟨h.perm, by simp, h.len⟩
theorem Inv2.done {n : Nat} (h : Inv2 sent came l n i) (hi : n < i) : l = [] ∧ sent.Perm came := by
  have := h.left
  have hl : l = [] := List.length_eq_zero_iff.1 (by omega)
  refine ⟨hl, ?_⟩
  have := h.perm
  rw [hl, List.append_nil] at this
  exact this
/-- Behind a delivery the lists agree up to where one was taken. -/
theorem at_ok {j : Nat} (h : l ≠ []) (hj : j ≤ (delL k l).length) (hall : ∀ q, q < j → (delL k l).getD q msg0 = l.getD q msg0) (hend : j < (delL k l).length → ¬ (delL k l).getD j msg0 = l.getD j msg0) :
    l.getD j msg0 = delM k l ∧ (delL k l).drop j = l.drop (j + 1) ∧ j < l.length := by
  have hp : 0 < l.length := List.length_pos_iff.2 h
  have hk := pickAt_lt k l.length hp
  have hdl := del_len k h
  have e : delM k l = l.getD (pickAt k l.length) msg0 := by simp [delM, h]
  have e2 : delL k l = l.take (pickAt k l.length) ++ l.drop (pickAt k l.length + 1) := by simp [delL, h]
  generalize pickAt k l.length = p at *
  have lo : ∀ q, q < p → (delL k l).getD q msg0 = l.getD q msg0 := by
    intro q hq
    rw [e2]
    simp [List.getD, List.getElem?_append_left (show q < (l.take p).length by simp; omega), List.getElem?_take, hq]
  have hi : ∀ q, p ≤ q → (delL k l).getD q msg0 = l.getD (q + 1) msg0 := by
    intro q hq
    rw [e2]
    simp only [List.getD]
    rw [List.getElem?_append_right (by simp; omega), List.getElem?_drop]
    have : p + 1 + (q - (l.take p).length) = q + 1 := by simp; omega
    rw [this]
  have hpj : p ≤ j := by
    rcases Nat.lt_or_ge j p with h1 | h1
    · exact absurd (lo j h1) (hend (by omega))
    · exact h1
  have run : ∀ d, p + d ≤ j → l.getD (p + d) msg0 = l.getD p msg0 := by
    intro d
    induction d with
    | zero => intro _; rfl
    | succ d ih =>
      intro hd
      rw [← Nat.add_assoc, ← hi (p + d) (by omega), hall (p + d) (by omega), ih (by omega)]
  refine ⟨?_, ?_, by omega⟩
  · rw [e]
    have := run (j - p) (by omega)
    rwa [show p + (j - p) = j by omega] at this
  · rw [e2, List.drop_append]
    have h1 : (l.take p).length = p := by simp; omega
    rw [h1, List.drop_eq_nil_of_le (by omega), List.nil_append, List.drop_drop]
    congr 1
    omega
end
def pickOf (pk : List Int) (i : Nat) : Int := if i < pk.length then pk.getD i 0 else i

/-! ### What is on its way to a node -/
def toP (node : Int) (m : Msg) : Bool := decide (m.dst = node)
/-- What has come behind k messages. -/
def sel (node : Int) (l : List Msg) (k : Nat) : List Msg := (l.take k).filter (toP node)
def selAll (node : Int) (l : List Msg) : List Msg := l.filter (toP node)
section
variable {node : Int} {l : List Msg} {k : Nat}
theorem sel_zero : sel node l 0 = [] := rfl
theorem sel_end : sel node l l.length = selAll node l := by simp [sel, selAll]
theorem sel_step (h : k < l.length) : sel node l (k + 1) = sel node l k ++ (if (l.getD k msg0).dst = node then [l.getD k msg0] else []) := by
  unfold sel
  rw [List.take_succ_eq_append_getElem h, List.filter_append]
  have e : l.getD k msg0 = l[k] := by simp [List.getD, h]
  rw [e]
  by_cases hq : l[k].dst = node <;> simp [toP, hq]
theorem sel_yes (h : k < l.length) (hd : (l.getD k msg0).dst = node) : sel node l (k + 1) = sel node l k ++ [l.getD k msg0] := by rw [sel_step h, if_pos hd]
theorem sel_no (h : k < l.length) (hd : ¬ (l.getD k msg0).dst = node) : sel node l (k + 1) = sel node l k := by rw [sel_step h, if_neg hd, List.append_nil]
theorem sel_prefix : sel node l k <+: selAll node l := by
  unfold sel selAll
  exact (List.take_prefix k l).filter _
theorem sel_lt (h : k < l.length) (hd : (l.getD k msg0).dst = node) : (sel node l k).length < (selAll node l).length := by
  have := (sel_prefix (node := node) (l := l) (k := k + 1)).length_le
  rw [sel_yes h hd] at this
  simp at this
  omega
theorem selAll_le : (selAll node l).length ≤ l.length := List.length_filter_le _ _
end

/-! ### The document's choice -/
theorem pick_neg {p : Int} {n : Nat} (h : 0 < n) (hn : Int.tmod p n < 0) : Int.tmod p n + n = ((pickAt p n : Nat) : Int) := by
  have h1 := tmod_bd p n h
  rw [← pickAt_eq p n h]
  generalize Int.tmod p n = q at *
  exact (Int.tmod_eq_of_lt (by omega) (by omega)).symm
theorem pick_pos {p : Int} {n : Nat} (h : 0 < n) (hn : ¬ Int.tmod p n < 0) : Int.tmod p n = ((pickAt p n : Nat) : Int) := by
  have h1 := tmod_bd p n h
  rw [← pickAt_eq p n h]
  generalize Int.tmod p n = q at *
  rw [Int.tmod_eq_emod_of_nonneg (by omega), Int.add_emod_right]
  exact (Int.emod_eq_of_lt (by omega) (by omega)).symm

theorem act_pickA (a : NAct) : (actE.arr a)[21]? = some (.int .i64 a.pick) := by
  rw [← Array.getElem?_toList, actE.toList]
  exact act_pick a
theorem act_msgA (a : NAct) : ((actE.arr a).toList.drop 1).take 20 = msgE.cells a.msg := by
  rw [actE.toList]
  exact act_msg a
theorem sendL_le (most : Int) (l : List Msg) (m : Msg) : (sendL most l m).length ≤ l.length + 1 := by
  unfold sendL
  split
  · split <;> simp
  · omega
theorem delL_le (k : Int) (l : List Msg) : (delL k l).length ≤ l.length := by
  by_cases h : l = []
  · subst h; simp [delL]
  · have := del_len k h
    omega
end Go.Proofs.Ytdpkeabmfhnfiaa
