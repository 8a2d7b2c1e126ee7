/-
  A net in memory; what its calls do, as functions on lists.
-/
import Derived.Test.YtdpkeabmfhnfiaaFXrow
import Derived.Test.YtdpkeabmfhnfiaaNetB
namespace Go.Proofs.Ytdpkeabmfhnfiaa
open Go.RowKit

/-- The net at block b. -/
structure NetAt (w : World) (b : Nat) (A : Option Addr) (cap : Nat) (most : Int) (l : List Msg) : Prop where
  head : Blk w b 71 #[.slice A l.length cap, .int .i64 most]
  own : Own msgE w A cap l
  ap : Apart A b
section
variable {S : Nat → Prop} {w w' : World} {b : Nat} {A : Option Addr} {cap : Nat} {most : Int} {l : List Msg}
theorem NetAt.only (h : NetAt w b A cap most l) (k : Only S w w') (h1 : ¬ S b) (h2 : ∀ g, inA A g → ¬ S g) : NetAt w' b A cap most l := ⟨h.head.only k h1, h.own.only k h2, h.ap⟩
theorem NetAt.new (h : NetAt w b A cap most l) (k : New w w') : NetAt w' b A cap most l := ⟨h.head.new k, h.own.new k, h.ap⟩
theorem NetAt.ltb (h : NetAt w b A cap most l) : b < w.heap.size := h.head.lt
theorem NetAt.lt (h : NetAt w b A cap most l) {g : Nat} (hg : inA A g) : g < w.heap.size := h.own.lt hg
theorem NetAt.apart (h : NetAt w b A cap most l) {c : Nat} (hc : w.heap.size ≤ c) : Apart A c := h.own.apart hc
end
/-- What a call leaves of a net. -/
def NetStep (w : World) (b : Nat) (A : Option Addr) (most : Int) (l' : List Msg) (w' : World) : Prop :=
  ∃ A' cap', NetAt w' b A' cap' most l' ∧ Only (fun k => k = b ∨ inA A k) w w' ∧ ∀ g, inA A' g → inA A g ∨ w.heap.size ≤ g
def sendE (most : Int) (l : List Msg) (m : Msg) : Int := if goodMsg m then (if most ≤ l.length then 210 else 0) else 2
def sendL (most : Int) (l : List Msg) (m : Msg) : List Msg := if goodMsg m then (if most ≤ l.length then l else l ++ [m]) else l
theorem chk_bad {m : Msg} (h : chk m ≠ 0) : goodMsg m = false := by
  unfold chk at h
  cases hg : goodMsg m with
  | false => rfl
  | true => rw [hg] at h; simp at h
theorem chk_good {m : Msg} (h : ¬ chk m ≠ 0) : goodMsg m = true := by
  unfold chk at h
  cases hg : goodMsg m with
  | true => rfl
  | false => rw [hg] at h; simp at h
/-- Which one a choice takes. -/
def pickAt (pick : Int) (n : Nat) : Nat := (Int.tmod (Int.tmod pick n + n) n).toNat
theorem tmod_bd (p : Int) (n : Nat) (h : 0 < n) : -(n : Int) < Int.tmod p n ∧ Int.tmod p n < n := by
  have h1 := Int.tmod_lt_of_pos p (show (0 : Int) < n by omega)
  have h2 := Int.lt_tmod_of_pos p (show (0 : Int) < n by omega)
  omega
theorem pickAt_eq (p : Int) (n : Nat) (h : 0 < n) : Int.tmod (Int.tmod p n + n) n = ((pickAt p n : Nat) : Int) := by
  have h1 := tmod_bd p n h
  have h2 : 0 ≤ Int.tmod (Int.tmod p n + n) n := Int.tmod_nonneg _ (by omega)
  unfold pickAt
  omega
theorem pickAt_lt (p : Int) (n : Nat) (h : 0 < n) : pickAt p n < n := by
  have h1 := pickAt_eq p n h
  have h2 := (tmod_bd (Int.tmod p n + n) n h).2
  omega
def delM (pick : Int) (l : List Msg) : Msg := if l = [] then msg0 else l.getD (pickAt pick l.length) msg0
def delL (pick : Int) (l : List Msg) : List Msg := if l = [] then [] else l.take (pickAt pick l.length) ++ l.drop (pickAt pick l.length + 1)
theorem el38 : ElemI msgE 38 48 := ⟨Try.underlying38, by
  obtain ⟨i0, hi, hz0, hz1, hz2⟩ := info_parts (show (Try.prog.info? 26).map (fun i => (i.zero, i.size, i.bytes)) = some (some (.agg (msgE.arr msg0)), 20, 48) by kernel_rfl)
  exact ⟨i0, _, hi, hz0, hz1, hz2, by rw [show (Value.agg (msgE.arr msg0)).cells = msgE.arr msg0 from rfl, msgE.size]⟩⟩
end Go.Proofs.Ytdpkeabmfhnfiaa
