/-
  The contracts of the reference's Size and of the statements' own 'works'.
-/
import Derived.Test.YtglepciddhbmbaaImgC
namespace Go.Proofs.Ytglepciddhbmbaa
open Go.RowKit

theorem okSize_iff (n : Int) : okSize n = true ↔ (n = 16 ∨ n = 32 ∨ n = 64 ∨ n = 128 ∨ n = 256 ∨ n = 512 ∨ n = 1024 ∨ n = 2048 ∨ n = 4096) := by
  simp [okSize, or_assoc]
theorem okSize_pow (n : Int) : okSize n = true ↔ ∃ j : Nat, j < 9 ∧ n = 16 * 2 ^ j := by
  rw [okSize_iff]
  constructor
  · rintro (h | h | h | h | h | h | h | h | h)
    · exact ⟨0, by omega, by simpa using h⟩
    · exact ⟨1, by omega, by simpa using h⟩
    · exact ⟨2, by omega, by simpa using h⟩
    · exact ⟨3, by omega, by simpa using h⟩
    · exact ⟨4, by omega, by simpa using h⟩
    · exact ⟨5, by omega, by simpa using h⟩
    · exact ⟨6, by omega, by simpa using h⟩
    · exact ⟨7, by omega, by simpa using h⟩
    · exact ⟨8, by omega, by simpa using h⟩
  · rintro ⟨j, hj, rfl⟩
    have : j = 0 ∨ j = 1 ∨ j = 2 ∨ j = 3 ∨ j = 4 ∨ j = 5 ∨ j = 6 ∨ j = 7 ∨ j = 8 := by omega
    rcases this with rfl | rfl | rfl | rfl | rfl | rfl | rfl | rfl | rfl <;> simp
/-- The reference's loop at k: the sizes below have been tried. -/
def seen (n k : Int) : Prop := ∃ j : Nat, j ≤ 9 ∧ k = 16 * 2 ^ j ∧ ∀ i < j, n ≠ 16 * 2 ^ i
theorem seen_range {n k : Int} (h : seen n k) : 16 ≤ k ∧ k ≤ 8192 := by
  obtain ⟨j, hj, rfl, _⟩ := h
  have h1 : (2 : Nat) ^ j ≤ 2 ^ 9 := Nat.pow_le_pow_right (by omega) hj
  have h2 : 1 ≤ (2 : Nat) ^ j := Nat.one_le_two_pow
  have h3 : ((2 : Int) ^ j) = ((2 ^ j : Nat) : Int) := by simp
  rw [h3]
  omega
theorem seen_lt {j : Nat} (h : (16 : Int) * 2 ^ j ≤ 4096) : j < 9 := by
  rcases Nat.lt_or_ge j 9 with h1 | h1
  · exact h1
  · have h2 : (2 : Nat) ^ 9 ≤ 2 ^ j := Nat.pow_le_pow_right (by omega) h1
    have h3 : ((2 : Int) ^ j) = ((2 ^ j : Nat) : Int) := by simp
    rw [h3] at h
    omega
theorem seen_next {n k : Int} (h : seen n k) (h1 : k ≤ 4096) (h2 : k ≠ n) : seen n (k * 2) := by
  obtain ⟨j, hj, rfl, hs⟩ := h
  refine ⟨j + 1, by have := seen_lt h1; omega, by rw [Int.pow_succ, Int.mul_assoc], fun i hi => ?_⟩
  rcases Nat.lt_or_ge i j with h | h
  · exact hs i h
  · obtain rfl : i = j := by omega
    exact fun e => h2 e.symm
theorem seen_hit {n k : Int} (h : seen n k) (h1 : k ≤ 4096) (h2 : k = n) : okSize n = true := by
  obtain ⟨j, hj, rfl, hs⟩ := h
  exact (okSize_pow n).2 ⟨j, seen_lt h1, h2.symm⟩
theorem seen_end {n k : Int} (h : seen n k) (h1 : 4096 < k) : okSize n = false := by
  rw [← Bool.not_eq_true, okSize_pow]
  rintro ⟨i, hi, rfl⟩
  obtain ⟨j, hj, rfl, hs⟩ := h
  have : ¬ j < 9 := fun h => by
    have h1' : (2 : Nat) ^ j ≤ 2 ^ 8 := Nat.pow_le_pow_right (by omega) (by omega)
    have h3 : ((2 : Int) ^ j) = ((2 ^ j : Nat) : Int) := by simp
    rw [h3] at h1
    omega
  exact hs i (by omega) rfl

set_option maxHeartbeats 1000000 in
theorem refsize_c (n : Int) (w : World) : Calls Try.prog 12 #[.int .i64 n] w fun e w' => e = .returned (.bool (okSize n)) ∧ w = w' := by
  go_enter Try.func12, Try.ntmps12
  go_wp2
  go_loop [3] (fun i => ∃ k : Int, i = .int .i64 k ∧ seen n k) (fun i => (8192 - intOf i).toNat)
  case atStart => exact ⟨16, rfl, 0, by omega, by simp, by omega⟩
  case round =>
    obtain ⟨k, rfl, hs⟩ := hrel
    have HS := Lib.hid hs
    have hr := seen_range hs
    obtain ⟨hr1, hr2⟩ := hr
    clear hs
    by_cases hk : k ≤ 4096
    · by_cases he : k = n
      · have Hok := Lib.hid (seen_hit HS.out hk he)
        have he' : (k == n) = true := by simpa using he
        clear he
        go_wp2
        go_ret
        exact ⟨by rw [Hok.out]; rfl, rfl⟩
      · have Hnx := Lib.hid (seen_next HS.out hk he)
        have he' : (k == n) = false := by simpa using he
        clear he
        go_wp2
        go_round
        case rel => exact ⟨k * 2, rfl, Hnx.out⟩
        case measure => simp [intOf]; omega
    · have Hok := Lib.hid (seen_end HS.out (by omega))
      go_wp2
      go_ret
      exact ⟨by rw [Hok.out]; rfl, rfl⟩

/-- The image that 'works' makes. -/
def wbs : List UInt8 := wr (List.replicate 16 0) 4 4 305419896
theorem wbs_r1 : rdSpec wbs 4 1 = 120 ∧ rdSpec wbs 6 2 = 4660 ∧ accErr wbs.length 4 1 = 0 ∧ accErr wbs.length 6 2 = 0 ∧ accErr wbs.length 2 4 = 120 ∧ wbs.length = 16 ∧ accErr (List.replicate 16 (0 : UInt8)).length 4 4 = 0 ∧ okSize 16 = true := by
  refine ⟨?_, ?_, ?_, ?_, ?_, ?_, ?_, ?_⟩ <;> decide +kernel

set_option maxHeartbeats 1000000 in
theorem works_c (w : World) : Calls Try.prog 14 #[] w fun e w' => e = .returned (.bool true) ∧ New w w' := by
  obtain ⟨r1, r2, r3, r4, r5, r6, r7, r8⟩ := wbs_r1
  have HN : Hid (Calls Try.prog 11 #[.int .i64 16] w (NewYes 16 w)) := new_yes 16 w r8
  have HW : Hid (∀ {base b g cap : Nat} {w : World}, Img base w b g cap (List.replicate 16 0) → Calls Try.prog 21 #[.pointer (some ⟨b, 0, none⟩), .int .u32 4, .int .i64 4, .int .u32 305419896] w fun e w' => e = .returned (.int .i64 0) ∧ Img base w' b g cap wbs ∧ Only (fun k => k = g) w w') := by
    intro base b g cap w h
    exact write_yes h 4 4 305419896 r7
  have H1 : Hid (∀ {base b g cap : Nat} {w : World}, Img base w b g cap wbs → Calls Try.prog 18 #[.pointer (some ⟨b, 0, none⟩), .int .u32 4, .int .i64 1] w fun e w' => e = .returned (.tuple #[.int .u32 120, .int .i64 0]) ∧ New w w') := by
    intro base b g cap w h
    have := read_any h 4 (by omega) 1
    rw [r1, r3] at this
    exact this
  have H2 : Hid (∀ {base b g cap : Nat} {w : World}, Img base w b g cap wbs → Calls Try.prog 18 #[.pointer (some ⟨b, 0, none⟩), .int .u32 6, .int .i64 2] w fun e w' => e = .returned (.tuple #[.int .u32 4660, .int .i64 0]) ∧ New w w') := by
    intro base b g cap w h
    have := read_any h 6 (by omega) 2
    rw [r2, r4] at this
    exact this
  have H3 : Hid (∀ {base b g cap : Nat} {w : World}, Img base w b g cap wbs → Calls Try.prog 18 #[.pointer (some ⟨b, 0, none⟩), .int .u32 2, .int .i64 4] w fun e w' => e = .returned (.tuple #[.int .u32 (rdSpec wbs 2 4 : Int), .int .i64 120]) ∧ New w w') := by
    intro base b g cap w h
    have := read_any h 2 (by omega) 4
    rw [r5] at this
    exact this
  have H4 : Hid (∀ {base b g cap : Nat} {w : World}, Img base w b g cap wbs → Calls Try.prog 15 #[.pointer (some ⟨b, 0, none⟩)] w fun e w' => e = .returned (.int .i64 16) ∧ w = w') := by
    intro base b g cap w h
    have := size_some b _ _ _ w h.cell
    rw [r6] at this
    exact this
  clear r1 r2 r3 r4 r5 r6 r7 r8
  go_enter Try.func14, Try.ntmps14
  go_wp2_with (go_at_call 11; refine HN.out.mono ?_; rintro e w1 ⟨b, g, cap, rfl, hi, hn⟩; have HI1 := Lib.hid hi; have HN1 := Lib.hid hn; clear hi hn)
  refine (HW.out HI1.out).mono ?_
  rintro e w2 ⟨rfl, hi, hn⟩
  have HI2 := Lib.hid hi
  have HN2 := Lib.hid hn
  clear hi hn
  go_wp2_with fail
  refine (H1.out HI2.out).mono ?_
  rintro e w3 ⟨rfl, hn⟩
  have HN3 := Lib.hid hn
  clear hn
  have HI3 := Lib.hid (HI2.out.new HN3.out)
  go_wp2_with fail
  refine (H2.out HI3.out).mono ?_
  rintro e w4 ⟨rfl, hn⟩
  have HN4 := Lib.hid hn
  clear hn
  have HI4 := Lib.hid (HI3.out.new HN4.out)
  go_wp2_with fail
  refine (H3.out HI4.out).mono ?_
  rintro e w5 ⟨rfl, hn⟩
  have HN5 := Lib.hid hn
  clear hn
  have HI5 := Lib.hid (HI4.out.new HN5.out)
  go_wp2_with (first | (go_at_call 13; refine (num_c _ _).mono ?_; rintro e w' ⟨rfl, rfl⟩) | (go_at_call 15; refine (H4.out HI5.out).mono ?_; rintro e w' ⟨rfl, rfl⟩))
  go_ret
  exact ⟨rfl, ((((HN1.out.trans HN2.out (by intro i hi he; have := HI1.out.hg; omega)).tr HN3.out).tr HN4.out).tr HN5.out)⟩
end Go.Proofs.Ytglepciddhbmbaa
