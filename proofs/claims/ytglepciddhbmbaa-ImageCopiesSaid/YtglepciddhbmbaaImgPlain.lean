/-
  Plain facts on images as lists of bytes: sizes, values of bytes, reads and writes. No program in sight.
-/
import Derived.Test.YtglepciddhbmbaaKit
namespace Go.Proofs.Ytglepciddhbmbaa
open Go.RowKit

/-- A byte as a value. -/
def u8v (x : UInt8) : Value := .int .u8 (x.toNat : Int)
/-- May an image have so many bytes? -/
def okSize (n : Int) : Bool := n == 16 || n == 32 || n == 64 || n == 128 || n == 256 || n == 512 || n == 1024 || n == 2048 || n == 4096

theorem okSize_nat (n : Nat) (h1 : n < 4097) (h0 : 16 ≤ n) : (bits .and .i64 (n : Int) ((n : Int) - 1) != 0) = !okSize n := by
  have h : ∀ a : Nat, a < 65 → ∀ b : Nat, b < 64 → 64 * a + b < 4097 → 16 ≤ 64 * a + b → (bits .and .i64 ((64 * a + b : Nat) : Int) (((64 * a + b : Nat) : Int) - 1) != 0) = !okSize ((64 * a + b : Nat) : Int) := by decide +kernel
  have := h (n / 64) (by omega) (n % 64) (by omega) (by omega) (by omega)
  rwa [Nat.div_add_mod] at this
theorem okSize_int (n : Int) (h0 : 16 ≤ n) (h1 : n ≤ 4096) : (bits .and .i64 n (n - 1) != 0) = !okSize n := by
  obtain ⟨k, rfl⟩ := Int.eq_ofNat_of_zero_le (show 0 ≤ n by omega)
  exact okSize_nat k (by omega) (by omega)
theorem okSize_range {n : Int} (h : okSize n = true) : 16 ≤ n ∧ n ≤ 4096 := by
  simp [okSize] at h
  omega
theorem okSize_mul {n : Int} (h : okSize n = true) : n % 16 = 0 ∧ n % 4 = 0 := by
  simp [okSize] at h
  omega

/-- The number whose lowest eight bits are the first byte, and so on. -/
def le : List UInt8 → Nat
  | [] => 0
  | c :: cs => c.toNat + 256 * le cs
theorem le_lt : ∀ l : List UInt8, le l < 256 ^ l.length
  | [] => by simp [le]
  | c :: cs => by
    have := le_lt cs
    have hc := c.toNat_lt
    simp only [le, List.length_cons, Nat.pow_succ]
    omega
theorem le_snoc : ∀ (l : List UInt8) (c : UInt8), le (l ++ [c]) = le l + 256 ^ l.length * c.toNat
  | [], c => by simp [le]
  | d :: l, c => by
    have := le_snoc l c
    simp only [List.cons_append, le, this, List.length_cons, Nat.pow_succ]
    rw [Nat.mul_add, Nat.add_assoc, ← Nat.mul_assoc, Nat.mul_comm (256 ^ l.length) 256]
theorem take_succ (bs : List UInt8) (k : Nat) (h : k < bs.length) : bs.take (k + 1) = bs.take k ++ [bs[k]] := by
  rw [List.take_succ_eq_append_getElem h]
theorem le_take (bs : List UInt8) (k : Nat) (h : k < bs.length) : le (bs.take (k + 1)) = le (bs.take k) + 256 ^ k * bs[k].toNat := by
  rw [take_succ bs k h, le_snoc, List.length_take, Nat.min_eq_left (by omega)]
theorem pow_256 (k : Nat) : 256 ^ k = 2 ^ (8 * k) := by rw [Nat.pow_mul]
theorem le_take_lt (bs : List UInt8) (k : Nat) (h : k ≤ bs.length) : le (bs.take k) < 2 ^ (8 * k) := by
  have := le_lt (bs.take k)
  rwa [List.length_take, Nat.min_eq_left h, pow_256] at this
theorem bits_or_u32 (x y : Nat) (hx : x < 2 ^ 32) (hy : y < 2 ^ 32) : bits .or .u32 (x : Int) (y : Int) = ((x ||| y : Nat) : Int) := by
  have hl := Nat.or_lt_two_pow hx hy
  show IntKind.u32.wrap ((BitVec.ofInt 32 x ||| BitVec.ofInt 32 y).toNat : Int) = _
  rw [BitVec.toNat_or, BitVec.toNat_ofInt, BitVec.toNat_ofInt, Int.emod_eq_of_lt (by omega) (by omega), Int.emod_eq_of_lt (by omega) (by omega), Int.toNat_natCast, Int.toNat_natCast]
  exact IntWalk.u32_in _ (by omega)
/-- A byte that is shifted behind what is there already is added to it. -/
theorem or_byte (x c k : Nat) (hx : x < 2 ^ (8 * k)) (hc : c < 256) (hk : k ≤ 3) : bits .or .u32 (x : Int) (IntKind.u32.wrap ((c : Int) * 2 ^ (8 * k))) = ((x + 2 ^ (8 * k) * c : Nat) : Int) := by
  have hp : 2 ^ (8 * k) * c < 2 ^ 32 := by
    have : k = 0 ∨ k = 1 ∨ k = 2 ∨ k = 3 := by omega
    rcases this with rfl | rfl | rfl | rfl <;> simp <;> omega
  have hx32 : x < 2 ^ 32 := Nat.lt_of_lt_of_le hx (Nat.pow_le_pow_right (by omega) (by omega))
  have hw : IntKind.u32.wrap ((c : Int) * 2 ^ (8 * k)) = ((2 ^ (8 * k) * c : Nat) : Int) := by
    have e : (c : Int) * 2 ^ (8 * k) = ((2 ^ (8 * k) * c : Nat) : Int) := by rw [Int.natCast_mul, Int.natCast_pow, Int.mul_comm]; rfl
    rw [e]
    exact IntWalk.u32_in _ (by omega)
  have hor := Nat.two_pow_add_eq_or_of_lt hx c
  have hlt : x + 2 ^ (8 * k) * c < 2 ^ 32 := by
    rw [Nat.add_comm, hor]
    exact Nat.or_lt_two_pow hp hx32
  rw [hw, bits_or_u32 x _ hx32 hp, Nat.or_comm, ← hor, Nat.add_comm]
theorem or_byte' (bs : List UInt8) (k : Nat) (hk : k < bs.length) (h4 : bs.length ≤ 4) :
    bits .or .u32 (le (bs.take k) : Int) ((bs[k].toNat : Int) % 4294967296 * 2 ^ (8 * k) % 4294967296) = (le (bs.take (k + 1)) : Int) := by
  have hc := bs[k].toNat_lt
  have h := or_byte (le (bs.take k)) bs[k].toNat k (le_take_lt bs k (by omega)) hc (by omega)
  rw [IntKind.wrap_u32] at h
  rw [Int.emod_eq_of_lt (a := (bs[k].toNat : Int)) (by omega) (by omega), h, le_take bs k hk, pow_256]
/-- The n lowest bytes of a number, the lowest ahead. -/
def wbytes (n v : Nat) : List UInt8 := (List.range n).map fun i => UInt8.ofNat (v / 256 ^ i)
theorem wbytes_length (n v : Nat) : (wbytes n v).length = n := by simp [wbytes]
theorem wbytes_succ (n v : Nat) : wbytes (n + 1) v = wbytes n v ++ [UInt8.ofNat (v / 256 ^ n)] := by simp [wbytes, List.range_succ]
theorem wbyte (v k : Nat) : u8v (UInt8.ofNat (v / 256 ^ k)) = .int .u8 ((v : Int) / 2 ^ (8 * k) % 256) := by
  simp only [u8v, UInt8.toNat_ofNat']
  congr 1
  rw [pow_256, show ((v : Int) / 2 ^ (8 * k)) = ((v / 2 ^ (8 * k) : Nat) : Int) by simp]
  omega
end Go.Proofs.Ytglepciddhbmbaa
