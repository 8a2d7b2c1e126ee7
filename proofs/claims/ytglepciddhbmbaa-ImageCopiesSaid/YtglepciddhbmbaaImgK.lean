/-
  Plain facts for ImageAgain: what a read gives behind a write; halves and bytes of a word.
-/
import Derived.Test.YtglepciddhbmbaaImgJ
namespace Go.Proofs.Ytglepciddhbmbaa
open Go.RowKit

theorem le_wbytes (v : Nat) : ∀ n, le (wbytes n v) = v % 256 ^ n
  | 0 => by simp [wbytes, le, Nat.mod_one]
  | n + 1 => by
    have h := @Nat.mod_mul (256 ^ n) 256 v
    rw [wbytes_succ, le_snoc, le_wbytes v n, wbytes_length, UInt8.toNat_ofNat', Nat.pow_succ 256 n, h]
theorem wr_read (bs : List UInt8) (a n v : Nat) (h : a + n ≤ bs.length) : ((wr bs a n v).drop a).take n = wbytes n v := by
  unfold wr
  rw [List.drop_left' (by simp; omega), List.take_left' (wbytes_length n v)]
theorem wr_get (bs : List UInt8) (a n v x : Nat) (h : a + n ≤ bs.length) (hx : x < a ∨ a + n ≤ x) : (wr bs a n v)[x]? = bs[x]? := by
  unfold wr
  have ht : (bs.take a).length = a := by simp; omega
  rcases hx with hx | hx
  · rw [List.getElem?_append_left (by omega), List.getElem?_take, if_pos hx]
  · rw [List.getElem?_append_right (by omega), ht, List.getElem?_append_right (by rw [wbytes_length]; omega), wbytes_length, List.getElem?_drop]
    congr 1
    omega
theorem accErr_one (len a : Nat) : accErr len a 1 = if len ≤ a then 4 else 0 := by
  unfold accErr
  simp [Nat.mod_one]
theorem le_one (bs : List UInt8) (x : Nat) : le ((bs.drop x).take 1) = (bs[x]?.map (·.toNat)).getD 0 := by
  by_cases h : x < bs.length
  · rw [List.getElem?_eq_getElem h, List.drop_eq_getElem_cons h]
    simp only [List.take_succ_cons, List.take_zero, le, Option.map_some, Option.getD_some]
    omega
  · rw [List.drop_eq_nil_of_le (by omega), List.getElem?_eq_none (by omega)]
    rfl
theorem rd_one (bs : List UInt8) (x : Nat) : rdSpec bs x 1 = (bs[x]?.map (·.toNat)).getD 0 := by
  unfold rdSpec
  rw [accErr_one, ← le_one]
  by_cases h : bs.length ≤ x
  · rw [if_pos h, List.drop_eq_nil_of_le h]
    rfl
  · rw [if_neg h]
    rfl
/-- A read of what has been written gives the lowest bytes. -/
theorem rd_wr (bs : List UInt8) (a v : Nat) (n : Int) (h : accErr bs.length a n = 0) (hfit : a + n.toNat ≤ bs.length) : rdSpec (wr bs a n.toNat v) a n = v % 256 ^ n.toNat := by
  unfold rdSpec
  rw [wr_length bs a n.toNat v hfit, if_pos h, wr_read bs a n.toNat v hfit, le_wbytes]
theorem rd_beyond (bs : List UInt8) (a n v x : Nat) (hfit : a + n ≤ bs.length) (hx : x < a ∨ a + n ≤ x) : rdSpec (wr bs a n v) x 1 = rdSpec bs x 1 := by
  rw [rd_one, rd_one, wr_get bs a n v x hfit hx]
theorem accErr_fit {len a : Nat} {n : Int} (h : accErr len a n = 0) (hl : len % 4 = 0) : a + n.toNat ≤ len := by
  obtain ⟨hn, hm, ha⟩ := accErr_zero h
  rcases hn with rfl | rfl | rfl <;> simp at hm ⊢ <;> omega
theorem le_append : ∀ (l k : List UInt8), le (l ++ k) = le l + 256 ^ l.length * le k
  | [], k => by simp [le]
  | c :: l, k => by
    simp only [List.cons_append, le, le_append l k, List.length_cons, Nat.pow_succ]
    rw [Nat.mul_add, Nat.add_assoc, ← Nat.mul_assoc, Nat.mul_comm (256 ^ l.length) 256]
theorem accErr_ok (len a : Nat) (n : Int) (hn : n = 1 ∨ n = 2 ∨ n = 4) (hm : a % n.toNat = 0) (ha : a < len) : accErr len a n = 0 := by
  unfold accErr
  rw [if_pos hn, if_neg (by omega), if_neg (by omega)]
theorem take_split (l : List UInt8) (a i j : Nat) : (l.drop a).take (i + j) = (l.drop a).take i ++ (l.drop (a + i)).take j := by
  rw [List.take_add, List.drop_drop]
/-- A word is its two halves; a half's upper byte is the byte at its place. -/
theorem word_halves (bs : List UInt8) (q : Nat) (hq : q % 4 = 0) (h : q < bs.length) (hl : bs.length % 4 = 0) :
    rdSpec bs q 4 = rdSpec bs q 2 + rdSpec bs (q + 2) 2 * 65536 ∧ rdSpec bs (q + 2) 2 / 256 = rdSpec bs (q + 3) 1 ∧ rdSpec bs q 2 < 65536 ∧ rdSpec bs (q + 2) 2 < 65536 := by
  have h2 : ∀ x, x + 2 ≤ bs.length → x % 2 = 0 → rdSpec bs x 2 = le ((bs.drop x).take 2) ∧ le ((bs.drop x).take 2) < 65536 := by
    intro x hx hm
    refine ⟨?_, ?_⟩
    · unfold rdSpec
      rw [if_pos (accErr_ok _ _ _ (by omega) (by simpa using hm) (by omega))]
      rfl
    · have := le_lt ((bs.drop x).take 2)
      rw [List.length_take, List.length_drop, Nat.min_eq_left (by omega)] at this
      simpa using this
  obtain ⟨e1, l1⟩ := h2 q (by omega) (by omega)
  obtain ⟨e2, l2⟩ := h2 (q + 2) (by omega) (by omega)
  have e4 : rdSpec bs q 4 = le ((bs.drop q).take (2 + 2)) := by
    unfold rdSpec
    rw [if_pos (accErr_ok _ _ _ (by omega) (by simpa using hq) (by omega))]
    rfl
  have e3 : rdSpec bs (q + 3) 1 = le ((bs.drop (q + 3)).take 1) := by rw [rd_one, le_one]
  refine ⟨?_, ?_, by omega, by omega⟩
  · rw [e4, e1, e2, take_split, le_append, List.length_take, List.length_drop, Nat.min_eq_left (by omega)]
    simp only [show 256 ^ 2 = 65536 from rfl]
    omega
  · rw [e2, e3, show (2 : Nat) = 1 + 1 from rfl, take_split, le_append, List.length_take, List.length_drop, Nat.min_eq_left (by omega), show 1 + 1 = 2 from rfl, show q + 2 + 1 = q + 3 from rfl]
    have hb := le_lt ((bs.drop (q + 2)).take 1)
    rw [List.length_take, List.length_drop, Nat.min_eq_left (by omega)] at hb
    simp only [Nat.pow_one] at hb ⊢
    omega
theorem bits_and_u32 (x y : Nat) (hx : x < 2 ^ 32) (hy : y < 2 ^ 32) : bits .and .u32 (x : Int) (y : Int) = ((x &&& y : Nat) : Int) := by
  have hl := Nat.and_lt_two_pow x hy
  show IntKind.u32.wrap ((BitVec.ofInt 32 x &&& BitVec.ofInt 32 y).toNat : Int) = _
  rw [BitVec.toNat_and, BitVec.toNat_ofInt, BitVec.toNat_ofInt, Int.emod_eq_of_lt (by omega) (by omega), Int.emod_eq_of_lt (by omega) (by omega), Int.toNat_natCast, Int.toNat_natCast]
  exact IntWalk.u32_in _ (by omega)
theorem and_255 (x : Nat) (hx : x < 2 ^ 32) : bits .and .u32 (x : Int) 255 = ((x % 256 : Nat) : Int) := by
  have := bits_and_u32 x 255 hx (by omega)
  rw [show ((255 : Nat) : Int) = 255 from rfl] at this
  rw [this, show x &&& 255 = x % 256 from Nat.and_two_pow_sub_one_eq_mod x 8]
theorem and_65535 (x : Nat) (hx : x < 2 ^ 32) : bits .and .u32 (x : Int) 65535 = ((x % 65536 : Nat) : Int) := by
  have := bits_and_u32 x 65535 hx (by omega)
  rw [show ((65535 : Nat) : Int) = 65535 from rfl] at this
  rw [this, show x &&& 65535 = x % 65536 from Nat.and_two_pow_sub_one_eq_mod x 16]
end Go.Proofs.Ytglepciddhbmbaa
