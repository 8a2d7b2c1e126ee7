/-
  A buffer in memory; what its calls do, as functions on lists.
-/
import Derived.Test.YtemihglffmfikaaBufB
namespace Go.Proofs.Ytemihglffmfikaa
open Go.RowKit
/-- The buffer at block b. -/
def BufAt (w : World) (b : Nat) (l : List VSt) : Prop := ∃ X, Blk w b 63 (bufE.arr X) ∧ BufOf X l
section
variable {S : Nat → Prop} {w w' : World} {b : Nat} {l : List VSt}
theorem BufAt.only (h : BufAt w b l) (k : Only S w w') (hs : ¬ S b) : BufAt w' b l := by obtain ⟨X, h1, h2⟩ := h; exact ⟨X, h1.only k hs, h2⟩
theorem BufAt.new (h : BufAt w b l) (k : New w w') : BufAt w' b l := h.only k id
theorem BufAt.lt (h : BufAt w b l) : b < w.heap.size := by obtain ⟨X, h1, h2⟩ := h; exact h1.lt
theorem BufAt.turn {B : Nat} (h : BufAt w b l) (k : Turn B w w') : BufAt w' b l := by obtain ⟨X, h1, h2⟩ := h; exact ⟨X, h1.turn k, h2⟩
theorem BufAt.mark {D : Nat} (h : BufAt w b l) (k : MarkAt w D) : NE b D := by obtain ⟨X, h1, h2⟩ := h; exact h1.mark k
theorem BufAt.len (h : BufAt w b l) : l.length ≤ 4 := by obtain ⟨X, h1, h2⟩ := h; exact h2.most
end
/-- The first one. -/
def hdS : List VSt → St
  | [] => st0
  | x :: _ => x.1
theorem hdS_at {l : List VSt} (h : 0 < l.length) : (l.getD 0 v0).1 = hdS l := by
  cases l with
  | nil => simp at h
  | cons x l => rfl
def pushE (l : List VSt) (s : St) : Int := if chkS s ≠ 0 then chkS s else if 4 ≤ l.length then 240 else 0
def pushL (l : List VSt) (s : St) : List VSt := if h : chkS s = 0 then (if 4 ≤ l.length then l else l ++ [⟨s, h⟩]) else l
theorem pushL_le (l : List VSt) (s : St) : (pushL l s).length ≤ l.length + 1 := by
  unfold pushL
  split
  · split <;> simp
  · omega
theorem pow_bd {v : Int} (h : 0 ≤ v ∧ v < 4294967296) (i : Nat) : 0 ≤ v / 256 ^ i ∧ v / 256 ^ i < 4294967296 := by
  have hp : (0 : Int) < 256 ^ i := Int.pow_pos (by decide)
  have h1 := Int.ediv_nonneg h.1 (Int.le_of_lt hp)
  have h2 := Int.ediv_le_self (256 ^ i) h.1
  omega
theorem pow_div {v : Int} (_ : 0 ≤ v ∧ v < 4294967296) (i : Nat) : v / 256 ^ i / 256 = v / 256 ^ (i + 1) := by
  rw [Int.pow_succ, Int.ediv_ediv_of_nonneg (Int.le_of_lt (Int.pow_pos (by decide)))]
end Go.Proofs.Ytemihglffmfikaa
